/- The walk by reckoned steps: ranges over maps (any order); a map cleared. -/
import Derived.Test.YtokhfkbbhdaghaaGreatGxW
import Derived.Maps.RangeRun
import Derived.Maps.Range
namespace Go.Proofs.YtokhfkbbhdaghaaGreat.Gx
open Go.RowKit Mem
set_option linter.unusedVariables false
set_option linter.unusedSimpArgs false
section
variable {K : Type} {ek : K → Value}
/-- A map that is gone through: an iterator over it, which entries have come. -/
def rng (b r : Nat) (ek : K → Value) (M : List (K × Value)) (Q : List Nat) : Fact := ⟨fun x => x = b ∨ x = r,
  fun w => ∃ es ck since seen c0 B, w.heap[b]? = some (.map es ck) ∧ Es ek es ck M B ∧ w.heap[r]? = some (.mapIter (some b) since seen c0) ∧ (∀ x ∈ es.toList, x.born < since) ∧ since ≤ c0 ∧ since ≤ ck ∧ (∀ (i : Nat) (x : MapEntry), es.toList[i]? = some x → (seen.contains x.born = true ↔ i ∈ Q)) ∧ (∀ (i : Nat), Q.head? = some i → ∃ x seen0, es.toList[i]? = some x ∧ seen = Array.push seen0 x.born ∧ c0 = ck),
  fun w w' h ⟨es, ck, since, seen, c0, B, h1, h2, h3, h4⟩ => ⟨es, ck, since, seen, c0, B, (h b (.inl rfl)).trans h1, h2, (h r (.inr rfl)).trans h3, h4⟩⟩
theorem born_ix {B : List Nat} (hn : B.Nodup) {i j x : Nat} (hi : B[i]? = some x) (hj : B[j]? = some x) : i = j := by
  obtain ⟨h1, e1⟩ := List.getElem?_eq_some_iff.1 hi
  obtain ⟨h2, e2⟩ := List.getElem?_eq_some_iff.1 hj
  exact (List.getElem_inj hn).1 (e1.trans e2.symm)
variable {X : Cx} {f : Fr} {O O' R : List Fact} {ks k : List KI} {ops rest : List Oper} {o : Oper} {S : List Fact} {N : Fr → List Fact → List Fact → Prop}
theorem mv_rangeG {dd : Nat} (hd : o.dst = some dd) {ty tk te b : Nat} {x : Operand} {M : List (K × Value)} {OO : Nat → List Fact} (ho : o.op = .range ty x) (hx : look X.n f x = some (.map (some b)))
    (ht : X.P.underlying ty = some (.map tk te)) (hU : ∀ r, Upd (mpk b ek M) (rng b r ek M []) O (OO r)) (hg : ∀ r, N ((dd, .pointer (some ⟨r, 0, none⟩)) :: f) (OO r) R) : Mv X f O R o N := fun a w hr hk K Q hK => by
  have hm := hk.pO _ (hU 0).mem
  have hlt : b < w.heap.size := hk.ltO _ (hU 0).mem b rfl
  obtain ⟨es, ck, h1, B, h2⟩ := hm
  have hrun := run_range_map (P := X.P) w ty tk te b es ck ht h1
  unfold Oper.wp
  have : (execOp a.eval o).run X.P w = .ok (.value (.pointer (some ⟨w.heap.size, 0, none⟩))) (w.alloc (.mapIter (some b) ck #[] ck)) := by
    simp [execOp, ho, hr.look hx, hrun]
  rw [this]
  refine hK _ _ _ _ _ (hg w.heap.size) (hr.put1 hd _) (hk.upd (hU w.heap.size) rfl rfl rfl (by simp) (fun c hc hne => heap_alloc_old w _ hc) ⟨es, ck, ck, #[], ck, B, (heap_alloc_old w _ hlt).trans h1, h2, heap_alloc_new w _, fun x hx => ?_, Nat.le_refl _, Nat.le_refl _, fun i x hx => ?_, fun i hi => (by cases hi)⟩ (fun c hc => ?_))
  · exact h2.lt _ (by rw [← h2.born]; exact List.mem_map_of_mem hx)
  · simp
  · rcases hc with hc | hc
    · subst hc
      exact ⟨.inl rfl, by simp; omega⟩
    · subst hc
      exact ⟨.inr (Nat.le_refl _), by simp⟩
theorem mv_nextG {dd : Nat} (hd : o.dst = some dd) {b r : Nat} {x : Operand} {M : List (K × Value)} {Qs : List Nat} {OO : Nat → List Fact} (ho : o.op = .next x false) (hx : look X.n f x = some (.pointer (some ⟨r, 0, none⟩)))
    (hU : ∀ i, Upd (rng b r ek M Qs) (rng b r ek M (i :: Qs)) O (OO i)) (h0 : (∀ i, i < M.length → i ∈ Qs) → N ((dd, .tuple #[.bool false]) :: f) O R)
    (h1 : ∀ i q v, M[i]? = some (q, v) → i ∉ Qs → N ((dd, .tuple #[.bool true, ek q, v]) :: f) (OO i) R) : Mv X f O R o N := fun a w hr hk K Q hK => by
  have hmem := (hU 0).mem
  have hb : b < w.heap.size := hk.ltO _ hmem b (.inl rfl)
  have hrl : r < w.heap.size := hk.ltO _ hmem r (.inr rfl)
  obtain ⟨es, ck, since, seen, c0, B, e1, e2, e3, e4, e5, e6, e7, e8⟩ := hk.pO _ hmem
  have hne : r ≠ b := fun e => by rw [e, e1] at e3; cases e3
  rcases run_next_at (P := X.P) w o.type r b since c0 seen es ck e3 e1 e4 e5 with ⟨hz, hrun⟩ | ⟨e, he, w1, hal, hrun⟩
  · unfold Oper.wp
    have : (execOp a.eval o).run X.P w = .ok (.value (.tuple #[.bool false])) w := by
      simp [execOp, ho, hr.look hx, hrun]
    rw [this]
    refine hK _ _ _ _ _ (h0 fun i hi => ?_) (hr.put1 hd _) hk
    have hlen := e2.size.1
    obtain ⟨x, hx⟩ : ∃ x, es.toList[i]? = some x := ⟨es.toList[i]'(by simp; omega), List.getElem?_eq_getElem _⟩
    exact (e7 i x hx).1 (all_seen es seen hz x (List.mem_of_getElem? hx))
  · obtain ⟨hem, hes⟩ := mem_left he
    obtain ⟨i, hi⟩ := List.getElem?_of_mem hem
    have hM : ∃ q, M[i]? = some (q, e.val) ∧ e.key = ek q := by
      have h9 := congrArg (fun l => l[i]?) e2.kv
      simp only [List.getElem?_map, hi] at h9
      cases hq : M[i]? with
      | none => rw [hq] at h9; cases h9
      | some p =>
        rw [hq] at h9
        have h10 := Option.some.inj h9
        exact ⟨p.1, by rw [← (Prod.mk.inj h10).2.symm], (Prod.mk.inj h10).1⟩
    obtain ⟨q, hq, hkq⟩ := hM
    have hr1 : w1.heap[r]? = some (.mapIter (some b) since seen c0) := by rcases hal with rfl | rfl <;> exact e3
    have hb1 : w1.heap[b]? = some (.map es ck) := by rcases hal with rfl | rfl <;> exact e1
    have hset := MapKept.heap_set (o' := .mapIter (some b) since (seen.push e.born) ck) hr1
    unfold Oper.wp
    have : (execOp a.eval o).run X.P w = .ok (.value (.tuple #[.bool true, ek q, e.val])) (Go.ChangeMaps.setBlock w1 r (.mapIter (some b) since (seen.push e.born) ck)) := by
      simp [execOp, ho, hr.look hx, hrun, hkq]
    rw [this]
    refine hK _ _ _ _ _ (h1 i q e.val hq (fun hc => ?_)) (hr.put1 hd _) (hk.upd (hU i) ?_ ?_ ?_ ?_ (fun c hc hn => ?_) ⟨es, ck, since, seen.push e.born, ck, B, (hset.2 b (fun e9 => hne e9.symm)).trans hb1, e2, hset.1, e4, e6, e6, fun j x hx => ?_, fun j hj => ⟨e, seen, (by obtain rfl := Option.some.inj hj; exact hi), rfl, rfl⟩⟩ (fun c hc => ?_))
    · rw [(e7 i e hi).2 hc] at hes
      cases hes
    · rcases hal with rfl | rfl <;> rfl
    · rcases hal with rfl | rfl <;> rfl
    · rcases hal with rfl | rfl <;> rfl
    · rcases hal with rfl | rfl <;> simp [Go.ChangeMaps.setBlock]
    · have h12 : (Go.ChangeMaps.setBlock w1 r (.mapIter (some b) since (seen.push e.born) ck)).heap[c]? = w1.heap[c]? := hset.2 c (fun e9 => hn (.inr e9))
      rw [h12]
      rcases hal with rfl | rfl <;> rfl
    · rw [contains_push]
      constructor
      · intro h
        rcases Bool.or_eq_true _ _ ▸ h with h | h
        · exact .tail _ ((e7 j x hx).1 (by first | exact h | (simpa using h)))
        · have hxe : x.born = e.born := by simpa using h
          have hj : j = i := born_ix e2.nodup (x := e.born) (by rw [← e2.born, List.getElem?_map, hx]; exact congrArg some hxe) (by rw [← e2.born, List.getElem?_map, hi]; rfl)
          rw [hj]
          exact .head _
      · intro h
        rcases List.mem_cons.1 h with rfl | h
        · rw [hi] at hx
          obtain rfl := Option.some.inj hx
          simp
        · rw [(e7 j x hx).2 h]
          rfl
    · have h13 : (Go.ChangeMaps.setBlock w1 r (.mapIter (some b) since (seen.push e.born) ck)).heap.size = w.heap.size := by rcases hal with rfl | rfl <;> simp [Go.ChangeMaps.setBlock]
      rw [h13]
      rcases hc with hc | hc
      · subst hc
        exact ⟨.inl (.inl rfl), hb⟩
      · subst hc
        exact ⟨.inl (.inr rfl), hrl⟩
theorem ys_entryG {b r i : Nat} {x : Operand} {M : List (K × Value)} {Qs : List Nat} {q : K} {v : Value} (ho : o.op = .entry x) (hx : look X.n f x = some (.pointer (some ⟨r, 0, none⟩))) (hm : rng b r ek M (i :: Qs) ∈ S) (hM : M[i]? = some (q, v)) : Ys X S f o (.tuple #[ek q, v]) := fun a w hr hS => by
  obtain ⟨es, ck, since, seen, c0, B, e1, e2, e3, e4, e5, e6, e7, e8⟩ := hS _ hm
  obtain ⟨e, seen0, hi, rfl, rfl⟩ := e8 i rfl
  have hem := List.mem_of_getElem? hi
  have h := run_entry_at (P := X.P) w r b since seen0 es c0 e e3 e1 hem (by rw [e2.born]; exact e2.nodup)
  have h9 := congrArg (fun l => l[i]?) e2.kv
  simp only [List.getElem?_map, hi, hM, Option.map_some] at h9
  have h10 := Option.some.inj h9
  rw [(Prod.mk.inj h10).1, (Prod.mk.inj h10).2] at h
  simp [execOp, ho, hr.look hx, h]
theorem Kn.rngE {E : List Nat} {w0 w : World} {b r : Nat} {M : List (K × Value)} {Qs : List Nat} (h : Kn E w0 w O R) (hU : Upd (rng b r ek M Qs) (mpk b ek M) O O') : Kn E w0 w O' R :=
  h.upd hU rfl rfl rfl (Nat.le_refl _) (fun _ _ _ => rfl) (by obtain ⟨es, ck, since, seen, c0, B, h1, h2, _⟩ := h.pO _ hU.mem; exact ⟨es, ck, h1, B, h2⟩) (fun c hc => ⟨.inl (.inl hc), h.ltO _ hU.mem c (.inl hc)⟩)
theorem gk_rngE {b r : Nat} {M : List (K × Value)} {Qs : List Nat} (hU : Upd (rng b r ek M Qs) (mpk b ek M) O O') (h : GK X k f O' R) : GK X k f O R := .mk fun a w hr hk => h.out a w hr (hk.rngE hU)
theorem g_rngE {b r : Nat} {M : List (K × Value)} {Qs : List Nat} (hU : Upd (rng b r ek M Qs) (mpk b ek M) O O') (h : G X ops rest k f O' R) : G X ops rest k f O R := .mk fun a w hr hk => h.out a w hr (hk.rngE hU)
theorem mv_clearG (hd : o.dst = none) {c : Call} {ty tk te r : Nat} {M : List (K × Value)} (ho : o.op = .call c) (hc : c.callee = .builtin .clear) (ha : lookL X.n f c.args.toList = some [.map (some r)]) (hat : c.argTypes.toList = [ty])
    (ht : X.P.underlying ty = some (.map tk te)) (hU : Upd (mpk r ek M) (mpk r ek []) O O') (hg : N f O' R) : Mv X f O R o N := fun a w hr hk K Q hK => by
  have hargs := lookL_eq hr ha
  obtain ⟨ca, args, tys⟩ := c
  obtain ⟨args⟩ := args
  obtain ⟨tys⟩ := tys
  simp only at hc hat hargs
  subst hc
  have hlt : r < w.heap.size := hk.ltO _ hU.mem r rfl
  match args, hargs with
  | [x], hargs =>
    simp at hargs
    subst hat
    obtain ⟨es, ck, h1, B, h2⟩ := hk.pO _ hU.mem
    have h1' : (Builtin.clear_ #[ty] o.type #[.map (some r)]).run X.P w = .ok (.tuple #[]) (w.putObj r (.map #[] ck)) := by
      unfold Builtin.clear_
      simp [run_underlying ht, getObj, setObj, Sem.run, h1, World.putObj]
    unfold Oper.wp execOp
    simp only [ho, resolve, invoke, builtin, Sem.run_bind, Sem.run_pure, Result.andThen_ok, List.map_toArray, List.map_cons, List.map_nil, hargs, h1']
    refine hK _ _ _ _ _ hg (hr.put0 hd _) (hk.upd hU rfl rfl rfl (by simp) (fun b hb hne => World.putObj_heap_other (fun e => hne e)) ⟨#[], ck, World.putObj_heap_same hlt, [], ⟨rfl, rfl, List.nodup_nil, fun b hb => by cases hb⟩⟩ (fun b hb => ?_))
    have : b = r := hb
    subst this
    exact ⟨.inl rfl, by simpa using hlt⟩
  | [], hargs => simp at hargs
  | _ :: _ :: _, hargs => simp at hargs
end
end Go.Proofs.YtokhfkbbhdaghaaGreat.Gx
namespace Go.Proofs.YtokhfkbbhdaghaaGreat.Gx
open Go.RowKit Mem
set_option linter.unusedVariables false
set_option linter.unusedSimpArgs false
/-! ### a call of a function value with arguments bound ahead; one's own facts, said otherwise -/
theorem run_callf {P : Program} {a : Act} {o : Oper} {c : Call} {fid : Nat} {first args caps : List Value} (ho : o.op = .call c) (hc : a.eval (match c.callee with | .value x => x | _ => .const undef) = .func (.func fid) first.toArray caps.toArray) (hcv : ∃ x, c.callee = .value x) (ha : c.args.toList.map a.eval = args)
    (hok : callable P fid = true) (w : World) : (execOp a.eval o).run P w = .ok (.enter fid (first ++ args ++ caps).toArray) w := by
  obtain ⟨x, hx⟩ := hcv
  rw [hx] at hc
  unfold callable at hok
  split at hok
  · rename_i fn hfn
    rw [Bool.and_eq_true] at hok
    have hn : (fn.name == "runtime.NumGoroutine") = false := by simpa using hok.2
    have hb : fn.body.isNone = false := by
      cases h : fn.body with
      | none => rw [h] at hok; simp at hok
      | some b => rfl
    have e : c.args.map a.eval = args.toArray := by apply Array.ext'; simpa using ha
    have hn' : ¬ fn.name = "runtime.NumGoroutine" := by simpa using hn
    have hb' : ¬ fn.body = none := fun e => by rw [e] at hb; cases hb
    simp only at hc
    simp [execOp, ho, resolve, hx, hc, Deferred.ofValue, invoke, callFunc, hfn, hn', hb', e]
  · cases hok
section
variable {X : Cx} {f : Fr} {O R : List Fact} {ks k : List KI} {ops rest : List Oper} {o : Oper} {N : Fr → List Fact → List Fact → Prop}
theorem mv_callf {dd : Nat} (hd : o.dst = some dd) {c : Call} {x : Operand} {fid : Nat} {first args caps : List Value} (ho : o.op = .call c) (hc : c.callee = .value x) (hx : look X.n f x = some (.func (.func fid) first.toArray caps.toArray)) (ha : lookL X.n f c.args.toList = some args) (hok : callable X.P fid = true)
    (h : ∀ w, Kn X.E X.w0 w O R → Calls X.P fid (first ++ args ++ caps).toArray w fun e w' => ∃ v O' R', e = .returned v ∧ Kn X.E X.w0 w' O' R' ∧ N ((dd, v) :: f) O' R') : Mv X f O R o N := fun a w hr hk K Q hK => by
  unfold Oper.wp
  rw [run_callf ho (by rw [hc]; exact hr.look hx) ⟨x, hc⟩ (lookL_eq hr ha) hok w]
  refine (h w hk).mono ?_
  rintro e w' ⟨v, O', R', rfl, hk', hg⟩
  exact hK _ _ _ _ _ hg (hr.put1 hd _) hk'
theorem mv_callf_mod {σ : Type} {φ : Fact} {I : σ → Prop} {V : σ → Value} {ψ : σ → Fact} {OO : σ → List Fact} {fid : Nat} {first args caps : List Value} (h : ∀ w, Kn X.E X.w0 w O R → Calls X.P fid (first ++ args ++ caps).toArray w (RetM φ I V ψ w)) {dd : Nat} (hd : o.dst = some dd) {c : Call} {x : Operand} (ho : o.op = .call c) (hc : c.callee = .value x) (hx : look X.n f x = some (.func (.func fid) first.toArray caps.toArray)) (ha : lookL X.n f c.args.toList = some args) (hok : callable X.P fid = true)
    (hu : ∀ s, Upd φ (ψ s) O (OO s)) (hg : ∀ s, I s → N ((dd, V s) :: f) (OO s) R) : Mv X f O R o N :=
  mv_callf hd ho hc hx ha hok fun w hk => (h w hk).mono fun e w' ⟨s, hi, he, hm⟩ => ⟨_, _, _, he, hk.mod hm (hu s), hg s hi⟩
/-- A function made of another one, with arguments bound ahead, and captured variables. -/
theorem ys_makeFuncB {S : List Fact} {fid : Nat} {fs cs : Array Operand} {us vs : List Value} (ho : o.op = .makeFunc (.func fid) fs cs) (hf : lookL X.n f fs.toList = some us) (hv : lookL X.n f cs.toList = some vs) : Ys X S f o (.func (.func fid) us.toArray vs.toArray) := fun ac w hr _ => by
  have e1 : cs.map ac.eval = vs.toArray := by apply Array.ext'; simpa using lookL_eq hr hv
  have e2 : fs.map ac.eval = us.toArray := by apply Array.ext'; simpa using lookL_eq hr hf
  simp [execOp, ho, Instr.makeFunc, e1, e2]
theorem Kn.derO {E : List Nat} {w0 w : World} {l r : List Fact} {φ : Fact} (h : Kn E w0 w O R) (hs : SelAll (l ++ r) O) (d : Der l φ) : Kn E w0 w (φ :: r) R := by
  have h1 := Kn.andI (h.sel hs (List.Subset.refl _))
  exact h1.upd (.here r) rfl rfl rfl (Nat.le_refl _) (fun _ _ _ => rfl) (d.p w fun ψ hψ => h1.pO _ (.head _) ψ hψ) (fun b hb => by
    obtain ⟨ψ, h2, h3⟩ := d.S b hb
    have h4 : (andF l).S b := ⟨ψ, h2, h3⟩
    exact ⟨.inl h4, h1.ltO _ (.head _) b h4⟩)
theorem gk_derO (l r : List Fact) {φ : Fact} (d : Der l φ) (hs : SelAll (l ++ r) O) (hg : GK X ks f (φ :: r) R) : GK X ks f O R := .mk fun a w hr hk => hg.out a w hr (hk.derO hs d)
theorem g_derO (l r : List Fact) {φ : Fact} (d : Der l φ) (hs : SelAll (l ++ r) O) (hg : G X ops rest k f (φ :: r) R) : G X ops rest k f O R := .mk fun a w hr hk => hg.out a w hr (hk.derO hs d)
end
end Go.Proofs.YtokhfkbbhdaghaaGreat.Gx
namespace Go.Proofs.YtokhfkbbhdaghaaGreat.Gx
open Go.RowKit Mem
set_option linter.unusedVariables false
set_option linter.unusedSimpArgs false
/-! ### a range over a map that may only be read -/
section
variable {K : Type} {ek : K → Value}
/-- A map, when its entries were made, and its clock. -/
def mpc (b : Nat) (ek : K → Value) (M : List (K × Value)) (B : List Nat) (ck : Nat) : Fact := ⟨fun x => x = b, fun w => ∃ es, w.heap[b]? = some (.map es ck) ∧ Es ek es ck M B, fun w w' h ⟨es, h1, h2⟩ => ⟨es, (h b rfl).trans h1, h2⟩⟩
theorem Rd1.mpc {w : World} {b : Nat} {M : List (K × Value)} (h : Rd1 w (mpk b ek M)) : ∃ B ck, Rd1 w (Gx.mpc b ek M B ck) := by
  obtain ⟨⟨es, ck, h1, B, h2⟩, h3⟩ := h
  exact ⟨B, ck, ⟨es, h1, h2⟩, h3⟩
/-- An iterator over such a map: which entries have come. -/
def itr (r b : Nat) (B : List Nat) (ck : Nat) (Q : List Nat) : Fact := ⟨fun x => x = r,
  fun w => ∃ since seen c0, w.heap[r]? = some (.mapIter (some b) since seen c0) ∧ (∀ x, x ∈ B → x < since) ∧ since ≤ c0 ∧ since ≤ ck ∧ (∀ (i x : Nat), B[i]? = some x → (seen.contains x = true ↔ i ∈ Q)) ∧ (∀ (i : Nat), Q.head? = some i → ∃ x seen0, B[i]? = some x ∧ seen = Array.push seen0 x ∧ c0 = ck),
  fun w w' h ⟨since, seen, c0, h1, h2⟩ => ⟨since, seen, c0, (h r rfl).trans h1, h2⟩⟩
variable {X : Cx} {f : Fr} {O O' R : List Fact} {ks k : List KI} {ops rest : List Oper} {o : Oper} {S : List Fact} {N : Fr → List Fact → List Fact → Prop}
theorem es_born {es : Array MapEntry} {ck : Nat} {M : List (K × Value)} {B : List Nat} (h : Es ek es ck M B) (i : Nat) : B[i]? = (es.toList[i]?).map (·.born) := by rw [← h.born, List.getElem?_map]
theorem mv_rangeR {dd : Nat} (hd : o.dst = some dd) {ty tk te b : Nat} {x : Operand} {M : List (K × Value)} {B : List Nat} {ck : Nat} (ho : o.op = .range ty x) (hx : look X.n f x = some (.map (some b)))
    (ht : X.P.underlying ty = some (.map tk te)) (hm : mpc b ek M B ck ∈ R) (hg : ∀ r, N ((dd, .pointer (some ⟨r, 0, none⟩)) :: f) (itr r b B ck [] :: O) R) : Mv X f O R o N := fun a w hr hk K Q hK => by
  obtain ⟨es, h1, h2⟩ := hk.pR _ hm
  have hrun := run_range_map (P := X.P) w ty tk te b es ck ht h1
  unfold Oper.wp
  have : (execOp a.eval o).run X.P w = .ok (.value (.pointer (some ⟨w.heap.size, 0, none⟩))) (w.alloc (.mapIter (some b) ck #[] ck)) := by
    simp [execOp, ho, hr.look hx, hrun]
  rw [this]
  refine hK _ _ _ _ _ (hg w.heap.size) (hr.put1 hd _) (hk.fresh (bel_alloc (Below.refl _ _) _) [itr w.heap.size b B ck []] (fun φ hφ => ?_) (List.pairwise_singleton _ _))
  obtain rfl := List.mem_singleton.1 hφ
  refine ⟨⟨ck, #[], ck, heap_alloc_new w _, h2.lt, Nat.le_refl _, Nat.le_refl _, fun i x hx => by simp, fun i hi => by cases hi⟩, fun c hc => ?_⟩
  have : c = w.heap.size := hc
  subst this
  exact ⟨Nat.le_refl _, by simp⟩
theorem mv_nextR {dd : Nat} (hd : o.dst = some dd) {b r : Nat} {x : Operand} {M : List (K × Value)} {B : List Nat} {ck : Nat} {Qs : List Nat} {OO : Nat → List Fact} (ho : o.op = .next x false) (hx : look X.n f x = some (.pointer (some ⟨r, 0, none⟩)))
    (hm : mpc b ek M B ck ∈ R) (hU : ∀ i, Upd (itr r b B ck Qs) (itr r b B ck (i :: Qs)) O (OO i)) (h0 : (∀ i, i < M.length → i ∈ Qs) → N ((dd, .tuple #[.bool false]) :: f) O R)
    (h1 : ∀ i q v, M[i]? = some (q, v) → i ∉ Qs → N ((dd, .tuple #[.bool true, ek q, v]) :: f) (OO i) R) : Mv X f O R o N := fun a w hr hk K Q hK => by
  have hmem := (hU 0).mem
  have hrl : r < w.heap.size := hk.ltO _ hmem r rfl
  obtain ⟨es, e1, e2⟩ := hk.pR _ hm
  obtain ⟨since, seen, c0, e3, e4', e5, e6, e7, e8⟩ := hk.pO _ hmem
  have e4 : ∀ x ∈ es.toList, x.born < since := fun x hx => e4' _ (by rw [← e2.born]; exact List.mem_map_of_mem hx)
  rcases run_next_at (P := X.P) w o.type r b since c0 seen es ck e3 e1 e4 e5 with ⟨hz, hrun⟩ | ⟨e, he, w1, hal, hrun⟩
  · unfold Oper.wp
    have : (execOp a.eval o).run X.P w = .ok (.value (.tuple #[.bool false])) w := by
      simp [execOp, ho, hr.look hx, hrun]
    rw [this]
    refine hK _ _ _ _ _ (h0 fun i hi => ?_) (hr.put1 hd _) hk
    have hlen := e2.size.1
    obtain ⟨x, hx⟩ : ∃ x, es.toList[i]? = some x := ⟨es.toList[i]'(by simp; omega), List.getElem?_eq_getElem _⟩
    exact (e7 i x.born (by rw [es_born e2, hx]; rfl)).1 (all_seen es seen hz x (List.mem_of_getElem? hx))
  · obtain ⟨hem, hes⟩ := mem_left he
    obtain ⟨i, hi⟩ := List.getElem?_of_mem hem
    have hbi : B[i]? = some e.born := by rw [es_born e2, hi]; rfl
    have hM : ∃ q, M[i]? = some (q, e.val) ∧ e.key = ek q := by
      have h9 := congrArg (fun l => l[i]?) e2.kv
      simp only [List.getElem?_map, hi] at h9
      cases hq : M[i]? with
      | none => rw [hq] at h9; cases h9
      | some p =>
        rw [hq] at h9
        have h10 := Option.some.inj h9
        exact ⟨p.1, by rw [← (Prod.mk.inj h10).2.symm], (Prod.mk.inj h10).1⟩
    obtain ⟨q, hq, hkq⟩ := hM
    have hr1 : w1.heap[r]? = some (.mapIter (some b) since seen c0) := by rcases hal with rfl | rfl <;> exact e3
    have hset := MapKept.heap_set (o' := .mapIter (some b) since (seen.push e.born) ck) hr1
    unfold Oper.wp
    have : (execOp a.eval o).run X.P w = .ok (.value (.tuple #[.bool true, ek q, e.val])) (Go.ChangeMaps.setBlock w1 r (.mapIter (some b) since (seen.push e.born) ck)) := by
      simp [execOp, ho, hr.look hx, hrun, hkq]
    rw [this]
    refine hK _ _ _ _ _ (h1 i q e.val hq (fun hc => ?_)) (hr.put1 hd _) (hk.upd (hU i) ?_ ?_ ?_ ?_ (fun c hc hn => ?_) ⟨since, seen.push e.born, ck, hset.1, e4', e6, e6, fun j x hx => ?_, fun j hj => ⟨e.born, seen, (by obtain rfl := Option.some.inj hj; exact hbi), rfl, rfl⟩⟩ (fun c hc => ?_))
    · rw [(e7 i e.born hbi).2 hc] at hes
      cases hes
    · rcases hal with rfl | rfl <;> rfl
    · rcases hal with rfl | rfl <;> rfl
    · rcases hal with rfl | rfl <;> rfl
    · rcases hal with rfl | rfl <;> simp [Go.ChangeMaps.setBlock]
    · have h12 : (Go.ChangeMaps.setBlock w1 r (.mapIter (some b) since (seen.push e.born) ck)).heap[c]? = w1.heap[c]? := hset.2 c (fun e9 => hn e9)
      rw [h12]
      rcases hal with rfl | rfl <;> rfl
    · rw [contains_push]
      constructor
      · intro h
        rcases Bool.or_eq_true _ _ ▸ h with h | h
        · exact .tail _ ((e7 j x hx).1 (by first | exact h | (simpa using h)))
        · have hxe : x = e.born := by simpa using h
          have hj : j = i := born_ix e2.nodup (x := e.born) (by rw [hx, hxe]) hbi
          rw [hj]
          exact .head _
      · intro h
        rcases List.mem_cons.1 h with rfl | h
        · rw [hbi] at hx
          obtain rfl := Option.some.inj hx
          simp
        · rw [(e7 j x hx).2 h]
          rfl
    · have h13 : (Go.ChangeMaps.setBlock w1 r (.mapIter (some b) since (seen.push e.born) ck)).heap.size = w.heap.size := by rcases hal with rfl | rfl <;> simp [Go.ChangeMaps.setBlock]
      rw [h13]
      have : c = r := hc
      subst this
      exact ⟨.inl rfl, hrl⟩
theorem mv_entryR {dd : Nat} (hd : o.dst = some dd) {b r i : Nat} {x : Operand} {M : List (K × Value)} {B : List Nat} {ck : Nat} {Qs : List Nat} {q : K} {v : Value} (ho : o.op = .entry x) (hx : look X.n f x = some (.pointer (some ⟨r, 0, none⟩)))
    (hm : mpc b ek M B ck ∈ R) (hi : itr r b B ck (i :: Qs) ∈ O) (hM : M[i]? = some (q, v)) (hg : N ((dd, .tuple #[ek q, v]) :: f) O R) : Mv X f O R o N := fun a w hr hk K Q hK => by
  obtain ⟨es, e1, e2⟩ := hk.pR _ hm
  obtain ⟨since, seen, c0, e3, e4', e5, e6, e7, e8⟩ := hk.pO _ hi
  obtain ⟨x0, seen0, hx0, rfl, rfl⟩ := e8 i rfl
  rw [es_born e2] at hx0
  cases he : es.toList[i]? with
  | none => rw [he] at hx0; cases hx0
  | some e =>
    rw [he] at hx0
    obtain rfl : e.born = x0 := Option.some.inj hx0
    have hem := List.mem_of_getElem? he
    have h := run_entry_at (P := X.P) w r b since seen0 es c0 e e3 e1 hem (by rw [e2.born]; exact e2.nodup)
    have h9 := congrArg (fun l => l[i]?) e2.kv
    simp only [List.getElem?_map, he, hM, Option.map_some] at h9
    have h10 := Option.some.inj h9
    rw [(Prod.mk.inj h10).1, (Prod.mk.inj h10).2] at h
    unfold Oper.wp
    have : (execOp a.eval o).run X.P w = .ok (.value (.tuple #[ek q, v])) w := by
      simp [execOp, ho, hr.look hx, h]
    rw [this]
    exact hK _ _ _ _ _ hg (hr.put1 hd _) hk
end
end Go.Proofs.YtokhfkbbhdaghaaGreat.Gx
