/- Fifth part: what changes the memory; calls; loops; results. -/
import Derived.Test.YtkdphoacniigjaaGx4
namespace Go.Proofs.Ytkdphoacniigjaa.Gx
open Go.RowKit Mem
set_option linter.unusedVariables false
set_option linter.unusedSimpArgs false
section
variable {X : Cx} {f : Fr} {O R : List Fact} {ks k : List KI} {ops rest : List Oper} {o : Oper}
/-- An operation that may change the memory: whatever becomes of frame and facts, N holds of it. -/
def Mv (X : Cx) (f : Fr) (O R : List Fact) (o : Oper) (N : Fr → List Fact → List Fact → Prop) : Prop := ∀ a w, Rel X.n a f → Kn X.E X.w0 w O R → ∀ (K : Act → World → Prop) (Q : Exit → Act → World → Prop),
  (∀ f' O' R' a' w', N f' O' R' → Rel X.n a' f' → Kn X.E X.w0 w' O' R' → K a' w') → o.wp X.P a w K Q
theorem g_mv (hw : wantG X.n f ops o.guard = some true) (h : Mv X f O R o (fun f' O' R' => G X ops rest k f' O' R')) : G X ops (o :: rest) k f O R := .mk fun a w hr hk => by
  have h1 := wantG_sound hr hw
  unfold wpList
  rw [if_pos h1]
  exact .inl (h a w hr hk _ _ fun f' O' R' a' w' hN hr' hk' => hN.out a' w' hr' hk')
variable {N : Fr → List Fact → List Fact → Prop}
def cellsL : Value → Option (List Value)
  | .agg ⟨l⟩ => some l
  | v => some [v]
theorem cellsL_eq {v : Value} {cs : List Value} (h : cellsL v = some cs) : v.cells = cs.toArray := by
  cases v with
  | agg l => injection h with h; subst h; rfl
  | _ => injection h with h; subst h; rfl
theorem mv_box {dd : Nat} (hd : o.dst = some dd) {elem : Nat} {x : Operand} {v : Value} {cs : List Value} (ho : o.op = .box elem x) (hx : look X.n f x = some v) (hc : cellsL v = some cs)
    (hg : ∀ g, N ((dd, (.pointer (some ⟨g, 0, none⟩))) :: f) (blk g cs elem :: O) R) : Mv X f O R o N := fun a w hr hk K Q hK => by
  unfold Oper.wp
  have : (execOp a.eval o).run X.P w = .ok (.value (.pointer (some ⟨w.heap.size, 0, none⟩))) (w.alloc (.cells cs.toArray elem)) := by
    simp only [execOp, ho, hr.look hx, Instr.box, newVar, newRow, newObj, cellsL_eq hc]
    rfl
  rw [this]
  exact hK _ _ _ _ _ (hg _) (hr.put1 hd _) (hk.alloc cs elem)
theorem mv_alloc {dd : Nat} (hd : o.dst = some dd) (hT : TabOk X.P X.T) {elem t sz : Nat} {d : TD} {z : List Value} (ho : o.op = .alloc elem) (hty : tfind X.T elem = some ⟨t, d, sz, z⟩)
    (hg : ∀ g, N ((dd, (.pointer (some ⟨g, 0, none⟩))) :: f) (blk g z elem :: O) R) : Mv X f O R o N := fun a w hr hk K Q hK => by
  unfold Oper.wp
  have hty' := tfind_ok hT hty
  have e1 := hty'.1
  simp only at e1
  subst e1
  have hz := hty'.2.z
  have : (execOp a.eval o).run X.P w = .ok (.value (.pointer (some ⟨w.heap.size, 0, none⟩))) (w.alloc (.cells z.toArray t)) := by
    cases hi : X.P.info? t with
    | none => simp [hi] at hz
    | some inf =>
      cases hz0 : inf.zero with
      | none => simp [hi, hz0] at hz
      | some zv =>
        simp only [hi, hz0, Option.bind_some, Option.map_some] at hz
        have hz' : zv.cells = z.toArray := by injection hz
        simp [execOp, ho, Instr.alloc, zeroValue, typeInfo, hi, hz0, newVar, newRow, newObj, hz', Sem.run]
  rw [this]
  exact hK _ _ _ _ _ (hg _) (hr.put1 hd _) (hk.alloc z t)
/-- A store into a block of one's own. -/
inductive StO (g off : Nat) (vs : List Value) : List Fact → List Fact → Prop
  | here {cs cs' : List Value} {T : TypeId} {O : List Fact} (h : setsO cs off vs = some cs') : StO g off vs (blk g cs T :: O) (blk g cs' T :: O)
  | there {χ : Fact} {O O' : List Fact} (h : StO g off vs O O') : StO g off vs (χ :: O) (χ :: O')
theorem StO.upd {g off : Nat} {vs : List Value} {O O' : List Fact} (h : StO g off vs O O') : ∃ cs cs' T, setsO cs off vs = some cs' ∧ Upd (blk g cs T) (blk g cs' T) O O' := by
  induction h with
  | here h => exact ⟨_, _, _, h, .here _⟩
  | there h ih => obtain ⟨cs, cs', T, h1, h2⟩ := ih; exact ⟨cs, cs', T, h1, .there _ h2⟩
def oneB : Value → Bool
  | .agg _ => false
  | .tuple _ => false
  | _ => true
theorem oneB_eq {v : Value} (h : oneB v = true) : v.oneCell' = true := by cases v <;> first | rfl | cases h
theorem Upd.refl_trans {φ ψ χ : Fact} {O O1 O2 : List Fact} (h : Upd φ ψ O O1) : True := trivial
theorem run_stores {P : Program} {E : List Nat} {w0 : World} {R : List Fact} {g : Nat} {T : TypeId} : ∀ (vs : List Value) (i off : Nat) (cs cs' : List Value) (O O' : List Fact) (w : World), vs.all oneB = true → Kn E w0 w O R → setsO cs (off + i) vs = some cs' → Upd (blk g cs T) (blk g cs' T) O O' →
    ∃ w', (storeCells ⟨g, off, none⟩ vs i).run P w = .ok () w' ∧ Kn E w0 w' O' R
  | [], i, off, cs, cs', O, O', w, _, hk, hs, hu => by
    have e := Option.some.inj hs
    subst e
    have : O' = O := by
      clear hk
      induction hu with
      | here O => rfl
      | there χ h ih => rw [ih]
    subst this
    exact ⟨w, rfl, hk⟩
  | v :: r, i, off, cs, cs', O, O', w, h1, hk, hs, hu => by
    rw [List.all_cons, Bool.and_eq_true] at h1
    unfold setsO at hs
    split at hs
    · rename_i z hz
      obtain ⟨e1, e2⟩ := setO_eq hz
      have hu1 : ∃ O1, Upd (blk g cs T) (blk g z T) O O1 ∧ Upd (blk g z T) (blk g cs' T) O1 O' := by
        clear hk
        induction hu with
        | here O => exact ⟨_, .here _, .here _⟩
        | there χ h ih => obtain ⟨O1, a, b⟩ := ih; exact ⟨_, .there _ a, .there _ b⟩
      obtain ⟨O1, u1, u2⟩ := hu1
      have hb : w.heap[g]? = some (.cells cs.toArray T (0, 0)) := hk.pO _ hu.mem
      have hcell : w.cell? ⟨g, off + i, none⟩ = some (cs[off + i]'e2) := by
        rw [cell_of_row w g _ cs.toArray T (0, 0) hb]; simp
      have hfr : w.frozen? ⟨g, off + i, none⟩ = false := frozen_of_row w g _ cs.toArray T hb
      have hk1 := Kn.store hk v (i := off + i) (by rw [← e1]; exact u1)
      obtain ⟨w', r1, r2⟩ := run_stores r (i + 1) off z cs' O1 O' _ h1.2 hk1 (by rw [← Nat.add_assoc]; exact hs) u2
      refine ⟨w', ?_, r2⟩
      have hst : ∀ (u : Value), oneB u = true → (store ⟨g, off + i, none⟩ u).run P w = .ok () (w.setCell ⟨g, off + i, none⟩ u) := fun u hu => by
        cases u <;> first | (cases hu; done) | simp [store, Sem.run, hcell, hfr]
      unfold storeCells
      rw [add_lit, Sem.run_bind, hst v h1.1]
      exact r1
    · cases hs
theorem mv_store (hT : TabOk X.P X.T) {ty : Nat} {ad vl : Operand} {g off t sz : Nat} {d : TD} {z vs : List Value} {v : Value} {O' : List Fact} (ho : o.op = .store ty ad vl)
    (hx : look X.n f ad = some (.pointer (some ⟨g, off, none⟩))) (hv : look X.n f vl = some v) (hty : tfind X.T ty = some ⟨t, d, sz, z⟩) (hc : cellsN v sz (agg? d) = some vs) (h1 : vs.all oneB = true) (hs : StO g off vs O O')
    (hd : o.dst = none) (hg : N f O' R) : Mv X f O R o N := fun a w hr hk K Q hK => by
  unfold Oper.wp
  have hty' := tfind_ok hT hty
  have e1 := hty'.1
  simp only at e1
  subst e1
  obtain ⟨c1, c2, _⟩ := cellsN_eq hc
  obtain ⟨cs, cs', Tg, s1, s2⟩ := hs.upd
  obtain ⟨w', r1, r2⟩ := run_stores (P := X.P) vs 0 off cs cs' O O' w h1 hk (by simpa using s1) s2
  have hsz : v.cells.size = sz := by rw [← Array.length_toList, c1, c2]
  have : (execOp a.eval o).run X.P w = .ok .skip w' := by
    simp [execOp, ho, hr.look hx, hr.look hv, Instr.storeAt, Instr.sureAddr, storeVar, run_sizeOf hty'.2.sz w, hsz, c1, r1]
  rw [this]
  exact hK _ _ _ _ _ hg (hr.put0 hd _) r2

/-! ### calls -/
def callable (P : Program) (fid : Nat) : Bool := match P.funcs[fid]? with | some fn => fn.body.isSome && fn.name != "runtime.NumGoroutine" | none => false
theorem run_call {P : Program} {a : Act} {o : Oper} {c : Call} {fid : Nat} {args : List Value} (ho : o.op = .call c) (hc : a.eval (match c.callee with | .value x => x | _ => .const undef) = .func (.func fid) #[] #[]) (hcv : ∃ x, c.callee = .value x) (ha : c.args.toList.map a.eval = args)
    (hok : callable P fid = true) (w : World) : (execOp a.eval o).run P w = .ok (.enter fid args.toArray) w := by
  obtain ⟨x, hx⟩ := hcv
  rw [hx] at hc
  unfold callable at hok
  split at hok
  · rename_i fn hfn
    rw [Bool.and_eq_true] at hok
    have hn : (fn.name == "runtime.NumGoroutine") = false := by simpa using hok.2
    have hb : fn.body.isNone = false := by
      cases h : fn.body with
      | none => rw [h] at hok; simp at hok
      | some b => rfl
    have e : c.args.map a.eval = args.toArray := by apply Array.ext'; simpa using ha
    have hn' : ¬ fn.name = "runtime.NumGoroutine" := by simpa using hn
    have hb' : ¬ fn.body = none := fun e => by rw [e] at hb; cases hb
    simp only at hc
    simp [execOp, ho, resolve, hx, hc, Deferred.ofValue, invoke, callFunc, hfn, hn', hb', e]
  · cases hok
theorem mv_call {dd : Nat} (hd : o.dst = some dd) {c : Call} {x : Operand} {fid : Nat} {args : List Value} (ho : o.op = .call c) (hc : c.callee = .value x) (hx : look X.n f x = some (.func (.func fid) #[] #[])) (ha : lookL X.n f c.args.toList = some args) (hok : callable X.P fid = true)
    (h : ∀ w, Kn X.E X.w0 w O R → Calls X.P fid args.toArray w fun e w' => ∃ v O' R', e = .returned v ∧ Kn X.E X.w0 w' O' R' ∧ N ((dd, v) :: f) O' R') : Mv X f O R o N := fun a w hr hk K Q hK => by
  unfold Oper.wp
  rw [run_call ho (by rw [hc]; exact hr.look hx) ⟨x, hc⟩ (lookL_eq hr ha) hok w]
  refine (h w hk).mono ?_
  rintro e w' ⟨v, O', R', rfl, hk', hg⟩
  exact hK _ _ _ _ _ hg (hr.put1 hd _) hk'
theorem mv_call0 (hd : o.dst = none) {c : Call} {x : Operand} {fid : Nat} {args : List Value} (ho : o.op = .call c) (hc : c.callee = .value x) (hx : look X.n f x = some (.func (.func fid) #[] #[])) (ha : lookL X.n f c.args.toList = some args) (hok : callable X.P fid = true)
    (h : ∀ w, Kn X.E X.w0 w O R → Calls X.P fid args.toArray w fun e w' => ∃ v O' R', e = .returned v ∧ Kn X.E X.w0 w' O' R' ∧ N f O' R') : Mv X f O R o N := fun a w hr hk K Q hK => by
  unfold Oper.wp
  rw [run_call ho (by rw [hc]; exact hr.look hx) ⟨x, hc⟩ (lookL_eq hr ha) hok w]
  refine (h w hk).mono ?_
  rintro e w' ⟨v, O', R', rfl, hk', hg⟩
  exact hK _ _ _ _ _ hg (hr.put0 hd _) hk'
/-- A call that leaves the memory alone. -/
theorem mv_call_same {fid : Nat} {args : List Value} {v : Value} (h : ∀ w, Kn X.E X.w0 w O R → Calls X.P fid args.toArray w fun e w' => e = .returned v ∧ w = w') {dd : Nat} (hd : o.dst = some dd) {c : Call} {x : Operand} (ho : o.op = .call c) (hc : c.callee = .value x) (hx : look X.n f x = some (.func (.func fid) #[] #[])) (ha : lookL X.n f c.args.toList = some args) (hok : callable X.P fid = true)
    (hg : N ((dd, v) :: f) O R) : Mv X f O R o N :=
  mv_call hd ho hc hx ha hok fun w hk => (h w hk).mono fun e w' ⟨he, hw⟩ => ⟨v, O, R, he, hw ▸ hk, hg⟩
/-- A call that makes memory of its own and tells nothing of it. -/
theorem mv_call_bel {fid : Nat} {args : List Value} {v : Value} (h : ∀ w, Kn X.E X.w0 w O R → Calls X.P fid args.toArray w fun e w' => e = .returned v ∧ Below w.heap.size w w') {dd : Nat} (hd : o.dst = some dd) {c : Call} {x : Operand} (ho : o.op = .call c) (hc : c.callee = .value x) (hx : look X.n f x = some (.func (.func fid) #[] #[])) (ha : lookL X.n f c.args.toList = some args) (hok : callable X.P fid = true)
    (hg : N ((dd, v) :: f) O R) : Mv X f O R o N :=
  mv_call hd ho hc hx ha hok fun w hk => (h w hk).mono fun e w' ⟨he, hw⟩ => ⟨v, O, R, he, hk.below hw, hg⟩

/-! ### loops -/
theorem exists_least {p : Nat → Prop} : ∀ (m : Nat), p m → ∃ j, p j ∧ ∀ i, p i → j ≤ i := fun m => by
  induction m using Nat.strongRecOn with
  | _ m ih =>
    intro hm
    by_cases h : ∃ i, i < m ∧ p i
    · obtain ⟨i, h1, h2⟩ := h; exact ih i h1 h2
    · exact ⟨m, hm, fun i hi => Nat.le_of_not_lt fun hlt => h ⟨i, hlt, hi⟩⟩
def LInv (X : Cx) {σ : Type} (I : σ → Prop) (F : σ → Fr) (OO RR : σ → List Fact) (μ : σ → Nat) (m : Nat) (a : Act) (w : World) : Prop := ∃ s, I s ∧ μ s < m ∧ Rel X.n a (F s) ∧ Kn X.E X.w0 w (OO s) (RR s)
theorem gk_loop {σ : Type} (I : σ → Prop) (F : σ → Fr) (OO RR : σ → List Fact) (μ : σ → Nat) (s0 : σ) {c : Code} (h : nx 1000 ks = some (.loop c k)) (h0 : I s0) (hf : FSub X.n f (F s0)) (hO : (OO s0).Sublist O) (hR : RR s0 ⊆ R)
    (step : ∀ s, I s → GK X (.code c :: .inv (LInv X I F OO RR μ (μ s)) :: k) (F s) (OO s) (RR s)) : GK X ks f O R := .mk fun a w hr hk => by
  refine nx_sound h ?_
  let p : Act → World → Nat → Prop := fun a w m => ∃ s, I s ∧ μ s = m ∧ Rel X.n a (F s) ∧ Kn X.E X.w0 w (OO s) (RR s)
  let ν : Act → World → Nat := fun a w => open Classical in if h : ∃ m, p a w m then Classical.choose (exists_least h.choose h.choose_spec) else 0
  have hν : ∀ a w m, p a w m → p a w (ν a w) ∧ ν a w ≤ m := fun a w m hm => by
    have hex : ∃ m, p a w m := ⟨m, hm⟩
    have e : ν a w = Classical.choose (exists_least hex.choose hex.choose_spec) := by
      show (open Classical in if h : ∃ m, p a w m then Classical.choose (exists_least h.choose h.choose_spec) else 0) = _
      rw [dif_pos hex]
    have hs := Classical.choose_spec (exists_least hex.choose hex.choose_spec)
    rw [e]
    exact ⟨hs.1, hs.2 m hm⟩
  refine wp_loop (fun a w => ∃ m, p a w m) ν ⟨μ s0, s0, h0, rfl, hr.sub hf, hk.weak hO hR⟩ fun a w ⟨m, hm⟩ => ?_
  obtain ⟨⟨s, h1, h2, h3, h4⟩, _⟩ := hν a w m hm
  have := (step s h1).out a w h3 h4
  refine Code.wp_mono ?_ this
  intro e a' w' hq
  cases e with
  | normal =>
    obtain ⟨s', i1, i2, i3, i4⟩ := hq
    have hp : p a' w' (μ s') := ⟨s', i1, rfl, i3, i4⟩
    exact ⟨⟨_, hp⟩, Nat.lt_of_le_of_lt (hν a' w' _ hp).2 (by rw [← h2]; exact i2)⟩
  | _ => exact hq
theorem gk_again {σ : Type} {I : σ → Prop} {F : σ → Fr} {OO RR : σ → List Fact} {μ : σ → Nat} {m : Nat} (h : nx 1000 ks = some (.inv (LInv X I F OO RR μ m))) (s' : σ) (hi : I s') (hm : μ s' < m) (hf : FSub X.n f (F s')) (hO : (OO s').Sublist O) (hR : RR s' ⊆ R) : GK X ks f O R := .mk fun a w hr hk =>
  nx_sound h ⟨s', hi, hm, hr.sub hf, hk.weak hO hR⟩

/-! ### results -/
inductive ResOk (X : Cx) (f : Fr) (O : List Fact) : List ResultVar → List Value → Prop
  | nil : ResOk X f O [] []
  | tmp {t : Nat} {v : Value} {rs : List ResultVar} {vs : List Value} (h : look X.n f (.tmp t) = some v) (hr : ResOk X f O rs vs) : ResOk X f O (.tmp t :: rs) (v :: vs)
  | cell {t ty g Tg tt sz : Nat} {d : TD} {z cs : List Value} {v : Value} {rs : List ResultVar} {vs : List Value} (h : look X.n f (.tmp t) = some (.pointer (some ⟨g, 0, none⟩))) (hm : blk g cs Tg ∈ O) (hty : tfind X.T ty = some ⟨tt, d, sz, z⟩) (hv : loadV (agg? d) sz cs 0 = some v) (hr : ResOk X f O rs vs) : ResOk X f O (.cell t ty :: rs) (v :: vs)
def resVal : List Value → Value
  | [v] => v
  | vs => .tuple vs.toArray
def resOne (tmps : Array Value) : ResultVar → Sem Value
  | .tmp t => pure (tmps.getD t undef)
  | .cell b t => do loadVar t (← asAddr (tmps.getD b undef))
theorem run_resL (hT : TabOk X.P X.T) {a : Act} {w : World} (hr : Rel X.n a f) (hk : Kn X.E X.w0 w O R) : ∀ {rs : List ResultVar} {vs : List Value}, ResOk X f O rs vs →
    (rs.mapM (resOne a.tmps)).run X.P w = .ok vs w := by
  intro rs vs h
  induction h with
  | nil => rfl
  | tmp h _ ih =>
    have e := hr.look h
    rw [List.mapM_cons]
    have e' : a.tmps.getD _ undef = _ := e
    simp only [resOne, Sem.run_bind, Sem.run_pure, Result.andThen_ok, e']
    rw [ih]
    rfl
  | cell h hm hty hv _ ih =>
    have e := hr.look h
    have hb := hk.pO _ hm
    have hty' := tfind_ok hT hty
    have e1 := hty'.1
    simp only at e1
    subst e1
    have hl := run_loadVar_at hty'.2.d hty'.2.sz w _ 0 _ (fun i u hu => by rw [Nat.zero_add, cell_of_row w _ i _ _ (0, 0) hb]; simpa using hu) hv
    rw [List.mapM_cons]
    have e' : a.tmps.getD _ undef = _ := e
    simp only [resOne, Sem.run_bind, Sem.run_pure, Result.andThen_ok, e', asAddr, hl]
    rw [ih]
    rfl
theorem run_results (hT : TabOk X.P X.T) {a : Act} {w : World} (hr : Rel X.n a f) (hk : Kn X.E X.w0 w O R) {rs : List ResultVar} {vs : List Value} (hrs : X.fn.results = rs.toArray) (h : ResOk X f O rs vs) : (results X.fn a.tmps).run X.P w = .ok (resVal vs) w := by
  have h1 := run_resL hT hr hk h
  have h2 : results X.fn a.tmps = (do
      let vs ← X.fn.results.mapM (resOne a.tmps)
      pure (if h : vs.size = 1 then vs[0] else .tuple vs)) := by
    unfold results
    congr 1
  rw [h2, hrs]
  simp only [List.mapM_toArray, Sem.run_bind, Sem.run_map, h1, Result.andThen_ok, Sem.run_pure]
  congr 1
  match vs with
  | [] => rfl
  | [v] => rfl
  | v :: u :: r => simp [resVal]
theorem gk_ret (hT : TabOk X.P X.T) {rs : List ResultVar} {vs : List Value} (h : nx 1000 ks = some .ret) (hrs : X.fn.results = rs.toArray) (hv : ResOk X f O rs vs) (hp : ∀ w, Kn X.E X.w0 w O R → X.Post (.returned (resVal vs)) w) : GK X ks f O R := .mk fun a w hr hk =>
  nx_sound h ⟨hr.defers, _, run_results hT hr hk hrs hv, hp w hk⟩
theorem gk_fin (hT : TabOk X.P X.T) {rs : List ResultVar} {vs : List Value} (h : nx 1000 ks = some .fin) (hrs : X.fn.results = rs.toArray) (hv : ResOk X f O rs vs) (hp : ∀ w, Kn X.E X.w0 w O R → X.Post (.returned (resVal vs)) w) : GK X ks f O R := .mk fun a w hr hk =>
  nx_sound h ⟨hr.defers, _, run_results hT hr hk hrs hv, hp w hk⟩
end
end Go.Proofs.Ytkdphoacniigjaa.Gx
