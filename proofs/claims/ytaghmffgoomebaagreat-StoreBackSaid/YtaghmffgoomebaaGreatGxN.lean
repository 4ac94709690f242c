/- The walk by reckoned steps: maps whose keys are integers: what is looked up (begun). The walk by reckoned steps: maps with keys of any kind that can be looked up. -/
import Derived.Test.YtaghmffgoomebaaGreatGxL
import Derived.RangeFuncRecord
set_option linter.unusedVariables false
set_option linter.unusedSimpArgs false
namespace Go.Proofs.YtaghmffgoomebaaGreat.Gx
open Go.RowKit Mem
def lkp (k : Int) : List (Int × Value) → Nat → Option (Nat × Value)
 | [], _ => none
 | (a, v) :: r, i => if k = a then some (i, v) else lkp k r (i + 1)
def mp (r : Nat) (kk : IntKind) (M : List (Int × Value)) : Fact := ⟨fun b => b = r, fun w => ∃ es ck, w.heap[r]? = some (.map es ck) ∧ es.toList.map (fun e => (e.key, e.val)) = M.map (fun p => (Value.int kk p.1, p.2)), fun w w' h ⟨es, ck, h1, h2⟩ => ⟨es, ck, (h r rfl).trans h1, h2⟩⟩
theorem ze3 (kk : IntKind) (k : Int) : ∀ (es : List MapEntry) (M : List (Int × Value)) (i : Nat), es.map (fun e => (e.key, e.val)) = M.map (fun p => (Value.int kk p.1, p.2)) → Instr.findNow (.int kk) (.int kk k) es i = some (lkp k M i)
 | [], [], i, _ => rfl
 | [], _ :: _, i, h => by cases h
 | _ :: _, [], i, h => by cases h
 | e :: es, (a, v) :: M, i, h => by
   simp only [List.map_cons, List.cons.injEq, Prod.mk.injEq] at h
   obtain ⟨⟨h1, h2⟩, h3⟩ := h
   have ih := ze3 kk k es M (i + 1) h3
   unfold Instr.findNow lkp
   rw [h1, h2]
   by_cases hk : k = a
   ·subst hk; simp [Instr.sameNow]
   ·have : (k == a) = false := by simpa using hk
    simp [Instr.sameNow, this, hk, ih]
theorem run_findKey {P : Program} {t : Nat} {kk : IntKind} (hu : P.underlying t = some (.int kk)) (k : Int) (es : List MapEntry) (M : List (Int × Value)) (w : World) (h : es.map (fun e => (e.key, e.val)) = M.map (fun p => (Value.int kk p.1, p.2))) :
 (Instr.findKey t (.int kk k) es).run P w = .ok (lkp k M 0) w := by
 unfold Instr.findKey
 simp only [Sem.run_bind, run_underlying hu, Result.andThen_ok, ze3 kk k es M 0 h]
 rfl
theorem run_checkKey {P : Program} {t : Nat} {kk : IntKind} (hu : P.underlying t = some (.int kk)) (b : Bool) (k : Int) (w : World) : (Instr.checkKey b 10000 t (.int kk k)).run P w = .ok () w := by
 show (Instr.checkKey b (9999 + 1) t (.int kk k)).run P w = _
 generalize 9999 = n
 unfold Instr.checkKey
 simp only [Sem.run_bind, run_underlying hu, Result.andThen_ok]
 rfl
theorem zjO {P : Program} {t tk te : Nat} {kk : IntKind} (ht : P.underlying t = some (.map tk te)) (hu : P.underlying tk = some (.int kk)) {z : Value} (hz : ∀ w, (zeroValue te).run P w = .ok z w) (r : Nat) (k : Int) (M : List (Int × Value)) (w : World) (h : (mp r kk M).p w) (ok : Bool) :
 (Instr.lookup t (.map (some r)) (.int kk k) ok).run P w = .ok (if ok then .tuple #[((lkp k M 0).map (·.2)).getD z, .bool (lkp k M 0).isSome] else ((lkp k M 0).map (·.2)).getD z) w := by
 obtain ⟨es, ck, h1, h2⟩ := h
 have h3 := run_findKey (P := P) hu k es.toList M w h2
 have h4 := fun b => run_checkKey (P := P) hu b k w
 unfold Instr.lookup
 cases hl : lkp k M 0 with
 | none =>
   rw [hl] at h3
   cases ok <;> simp [run_underlying ht, getObj, Sem.run, h1, h3, h4, hz]
 | some iv =>
   rw [hl] at h3
   cases ok <;> simp [run_underlying ht, getObj, Sem.run, h1, h3, h4, hz]
def mset (k : Int) (v : Value) : List (Int × Value) → List (Int × Value)
 | [] => [(k, v)]
 | (a, u) :: r => if k = a then (a, v) :: r else (a, u) :: mset k v r
theorem zhh {k : Int} {v u : Value} : ∀ {M : List (Int × Value)} {i j : Nat}, lkp k M i = some (j, u) → ∃ n, j = i + n ∧ n < M.length ∧ (∃ a, M[n]? = some (a, u) ∧ a = k) ∧ mset k v M = M.set n (k, v)
 | [], i, j, h => by cases h
 | (a, x) :: r, i, j, h => by
   unfold lkp at h
   unfold mset
   by_cases hk : k = a
   ·rw [if_pos hk] at h ⊢
    injection h with h
    injection h with h1 h2
    subst h1 h2 hk
    exact ⟨0, rfl, by simp, ⟨k, rfl, rfl⟩, rfl⟩
   ·rw [if_neg hk] at h ⊢
    obtain ⟨n, h1, h2, h3, h4⟩ := zhh h
    exact ⟨n + 1, by omega, by simp; omega, h3, by rw [h4]; rfl⟩
theorem zeI {k : Int} {v : Value} : ∀ {M : List (Int × Value)} {i : Nat}, lkp k M i = none → mset k v M = M ++ [(k, v)]
 | [], i, h => rfl
 | (a, x) :: r, i, h => by
   unfold lkp at h
   unfold mset
   by_cases hk : k = a
   ·rw [if_pos hk] at h; cases h
   ·rw [if_neg hk] at h ⊢
    rw [zeI h]; rfl
theorem stays {P : Program} (kk : IntKind) (k : Int) (w : World) : (Instr.keyThatStays (.int kk k) (.int kk k)).run P w = .ok (.int kk k) w := by
 have h : Instr.sameBits 10000 (.int kk k) (.int kk k) = true := by
  show Instr.sameBits (9999 + 1) (.int kk k) (.int kk k) = true
  generalize 9999 = n
  unfold Instr.sameBits
  simp
 unfold Instr.keyThatStays
 rw [if_pos h]
 rfl
theorem zfY {P : Program} {t tk te : Nat} {kk : IntKind} (ht : P.underlying t = some (.map tk te)) (hu : P.underlying tk = some (.int kk)) (r : Nat) (k : Int) (v : Value) (M : List (Int × Value)) (w : World) (h : (mp r kk M).p w) :
 ∃ es ck, (Instr.mapUpdate t (.map (some r)) (.int kk k) v).run P w = .ok () (w.putObj r (.map es ck)) ∧ es.toList.map (fun e => (e.key, e.val)) = (mset k v M).map (fun p => (Value.int kk p.1, p.2)) := by
 obtain ⟨es, ck, h1, h2⟩ := h
 have h3 := run_findKey (P := P) hu k es.toList M w h2
 have h4 := fun b => run_checkKey (P := P) hu b k w
 have hlen : es.size = M.length := by
  have := congrArg List.length h2
  simpa using this
 unfold Instr.mapUpdate
 cases hl : lkp k M 0 with
 | none =>
   rw [hl] at h3
   refine ⟨es.push { key := .int kk k, val := v, born := ck }, ck + 1, ?_, ?_⟩
   ·simp [run_underlying ht, getObj, setObj, Sem.run, h1, h3, h4, World.putObj]
   ·rw [zeI hl]
    simp [h2]
 | some iv =>
   obtain ⟨j, u⟩ := iv
   rw [hl] at h3
   obtain ⟨n, e1, e2, ⟨a, e3, e4⟩, e5⟩ := zhh (v := v) hl
   have hj : j = n := by omega
   subst hj
   subst e4
   have hes : es.toList.map (fun e => (e.key, e.val)) = M.map (fun p => (Value.int kk p.1, p.2)) := h2
   have hk : (es[j]?).map (·.key) = some (.int kk a) := by
    have h5 := congrArg (fun l => l[j]?) hes
    simp only [List.getElem?_map, e3] at h5
    cases hx : es[j]? with
    | none =>
      have : es.toList[j]? = none := by rw [Array.getElem?_toList]; exact hx
      rw [this] at h5; cases h5
    | some x =>
      have : es.toList[j]? = some x := by rw [Array.getElem?_toList]; exact hx
      rw [this] at h5
      have h6 := Option.some.inj h5
      rw [Option.map_some, (Prod.mk.inj h6).1]
   have h7 := stays (P := P) kk a w
   refine ⟨es.modify j fun e => { e with key := .int kk a, val := v }, ck, ?_, ?_⟩
   ·simp [run_underlying ht, getObj, setObj, Sem.run, h1, h3, h4, hk, h7, World.putObj]
   ·rw [e5]
    apply List.ext_getElem?
    intro m
    have h8 := congrArg (fun l => l[m]?) hes
    simp only [List.getElem?_map, Array.getElem?_toList] at h8
    simp only [List.getElem?_map, Array.getElem?_toList, Array.getElem?_modify, List.getElem?_set]
    by_cases hm : j = m
    ·subst hm
     rw [if_pos rfl, if_pos rfl, if_pos (by omega)]
     cases hx : es[j]? with
     | none => rw [hx] at hk; cases hk
     | some x => rfl
    ·rw [if_neg hm, if_neg hm]
     exact h8
def mdel (k : Int) (M : List (Int × Value)) : List (Int × Value) := match lkp k M 0 with | some (n, _) => M.eraseIdx n | none => M
theorem zfZ {P : Program} {t tk te : Nat} {kk : IntKind} (ht : P.underlying t = some (.map tk te)) (hu : P.underlying tk = some (.int kk)) (r : Nat) (k : Int) (M : List (Int × Value)) (w : World) (ty : TypeId) (h : (mp r kk M).p w) :
 ∃ es ck, (Builtin.delete_ #[t] ty #[.map (some r), .int kk k]).run P w = .ok (.tuple #[]) (w.putObj r (.map es ck)) ∧ es.toList.map (fun e => (e.key, e.val)) = (mdel k M).map (fun p => (Value.int kk p.1, p.2)) := by
 obtain ⟨es, ck, h1, h2⟩ := h
 have h3 := run_findKey (P := P) hu k es.toList M w h2
 have h4 := fun b => run_checkKey (P := P) hu b k w
 unfold Builtin.delete_ mdel
 cases hl : lkp k M 0 with
 | none =>
   rw [hl] at h3
   exact ⟨es, ck, by simp [run_underlying ht, getObj, setObj, Sem.run, h1, h3, h4, World.putObj], h2⟩
 | some iv =>
   obtain ⟨j, u⟩ := iv
   rw [hl] at h3
   refine ⟨es.eraseIdxIfInBounds j, ck, by simp [run_underlying ht, getObj, setObj, Sem.run, h1, h3, h4, World.putObj], ?_⟩
   have e1 : (es.eraseIdxIfInBounds j).toList = es.toList.eraseIdx j := by
    rw [Array.toList_eraseIdxIfInBounds]
   have e2 : ∀ {α β : Type} (g : α → β) (l : List α) (n : Nat), (l.eraseIdx n).map g = (l.map g).eraseIdx n := by
    intro α β g l
    induction l with
    | nil => intro n; rfl
    | cons x r ih =>
      intro n
      cases n with
      | zero => rfl
      | succ n => show g x :: (r.eraseIdx n).map g = g x :: (r.map g).eraseIdx n; rw [ih]
   rw [e1, e2, h2, e2]
section
variable {X : Cx} {f : Fr} {O O' R : List Fact} {ks k : List KI} {ops rest : List Oper} {o : Oper} {S : List Fact} {N : Fr → List Fact → List Fact → Prop}
theorem zgL {ty tk te r : Nat} {kk : IntKind} {x y : Operand} {b : Bool} {q : Int} {z : Value} {M : List (Int × Value)} (ho : o.op = .lookup ty x y b) (hx : look X.n f x = some (.map (some r))) (hy : look X.n f y = some (.int kk q))
 (ht : X.P.underlying ty = some (.map tk te)) (hu : X.P.underlying tk = some (.int kk)) (hz : ∀ w, (zeroValue te).run X.P w = .ok z w) (hm : mp r kk M ∈ S) : Ys X S f o (if b then .tuple #[((lkp q M 0).map (·.2)).getD z, .bool (lkp q M 0).isSome] else ((lkp q M 0).map (·.2)).getD z) := fun a w hr hS => by
 have h := zjO (P := X.P) ht hu hz r q M w (hS _ hm) b
 simp [execOp, ho, hr.look hx, hr.look hy, h]
theorem zea (hd : o.dst = none) {ty tk te r : Nat} {kk : IntKind} {m x y : Operand} {q : Int} {v : Value} {M : List (Int × Value)} (ho : o.op = .mapUpdate ty m x y) (hm : look X.n f m = some (.map (some r))) (hx : look X.n f x = some (.int kk q)) (hy : look X.n f y = some v)
 (ht : X.P.underlying ty = some (.map tk te)) (hu : X.P.underlying tk = some (.int kk)) (hU : Upd (mp r kk M) (mp r kk (mset q v M)) O O') (hg : N f O' R) : Mv X f O R o N := fun a w hr hk K Q hK => by
 obtain ⟨es, ck, h1, h2⟩ := zfY (P := X.P) ht hu r q v M w (hk.pO _ hU.mem)
 have hlt : r < w.heap.size := hk.ltO _ hU.mem r rfl
 unfold Oper.wp
 have : (execOp a.eval o).run X.P w = .ok .skip (w.putObj r (.map es ck)) := by
  simp [execOp, ho, hr.look hm, hr.look hx, hr.look hy, h1]
 rw [this]
 refine hK _ _ _ _ _ hg (hr.put0 hd _) (hk.upd hU rfl rfl rfl (by simp) (fun b hb hne => World.putObj_heap_other (fun e => hne e)) ⟨es, ck, World.putObj_heap_same hlt, h2⟩ (fun b hb => ?_))
 have : b = r := hb
 subst this
 exact ⟨.inl rfl, by simpa using hlt⟩
theorem zj0 {dd : Nat} (hd : o.dst = some dd) {ty : Nat} (kk : IntKind) (ho : o.op = .makeMap ty none) (hg : ∀ r, N ((dd, .map (some r)) :: f) (mp r kk [] :: O) R) : Mv X f O R o N := fun a w hr hk K Q hK => by
 unfold Oper.wp
 have : (execOp a.eval o).run X.P w = .ok (.value (.map (some w.heap.size))) (w.alloc (.map #[] 0)) := by
  simp [execOp, ho, Instr.makeMap, newObj, Sem.run]
 rw [this]
 refine hK _ _ _ _ _ (hg w.heap.size) (hr.put1 hd _) (hk.fresh (zaF (Below.refl _ _) _) [mp w.heap.size kk []] (fun φ hφ => ?_) (List.pairwise_singleton _ _))
 obtain rfl := List.mem_singleton.1 hφ
 refine ⟨⟨#[], 0, heap_alloc_new w _, rfl⟩, fun b hb => ?_⟩
 have : b = w.heap.size := hb
 subst this
 exact ⟨Nat.le_refl _, by simp⟩
theorem zhg (hd : o.dst = none) {c : Call} {ty tk te r : Nat} {kk : IntKind} {q : Int} {M : List (Int × Value)} (ho : o.op = .call c) (hc : c.callee = .builtin .delete) (ha : lookL X.n f c.args.toList = some [.map (some r), .int kk q]) (hat : c.argTypes.toList = [ty, tk])
 (ht : X.P.underlying ty = some (.map tk te)) (hu : X.P.underlying tk = some (.int kk)) (hU : Upd (mp r kk M) (mp r kk (mdel q M)) O O') (hg : N f O' R) : Mv X f O R o N := fun a w hr hk K Q hK => by
 have hargs := zaR hr ha
 obtain ⟨ca, args, tys⟩ := c
 obtain ⟨args⟩ := args
 obtain ⟨tys⟩ := tys
 simp only at hc hat hargs
 subst hc
 have hlt : r < w.heap.size := hk.ltO _ hU.mem r rfl
 match args, hargs with
 | [x, y], hargs =>
   simp at hargs
   obtain ⟨e1, e2⟩ := hargs
   subst hat
   obtain ⟨es, ck, h1, h2⟩ := zfZ (P := X.P) ht hu r q M w o.type (hk.pO _ hU.mem)
   have h1' : (Builtin.delete_ #[ty, tk] o.type #[.map (some r), .int kk q]).run X.P w = .ok (.tuple #[]) (w.putObj r (.map es ck)) := h1
   unfold Oper.wp execOp
   simp only [ho, resolve, invoke, builtin, Sem.run_bind, Sem.run_pure, Result.andThen_ok, List.map_toArray, List.map_cons, List.map_nil, e1, e2, h1']
   refine hK _ _ _ _ _ hg (hr.put0 hd _) (hk.upd hU rfl rfl rfl (by simp) (fun b hb hne => World.putObj_heap_other (fun e => hne e)) ⟨es, ck, World.putObj_heap_same hlt, h2⟩ (fun b hb => ?_))
   have : b = r := hb
   subst this
   exact ⟨.inl rfl, by simpa using hlt⟩
 | [], hargs => simp at hargs
 | [_], hargs => simp at hargs
 | _ :: _ :: _ :: _, hargs => simp at hargs
theorem zfI {ty tk te : Nat} {kk : IntKind} {x y : Operand} {b : Bool} {q : Int} {z : Value} (ho : o.op = .lookup ty x y b) (hx : look X.n f x = some (.map none)) (hy : look X.n f y = some (.int kk q))
 (ht : X.P.underlying ty = some (.map tk te)) (hu : X.P.underlying tk = some (.int kk)) (hz : ∀ w, (zeroValue te).run X.P w = .ok z w) : Ys X S f o (if b then .tuple #[z, .bool false] else z) := fun a w hr hS => by
 have h3 := run_findKey (P := X.P) hu q [] [] w rfl
 have h4 := fun b => run_checkKey (P := X.P) hu b q w
 have h : (Instr.lookup ty (.map none) (.int kk q) b).run X.P w = .ok (if b then .tuple #[z, .bool false] else z) w := by
  unfold Instr.lookup
  have h3' : (Instr.findKey tk (.int kk q) []).run X.P w = .ok none w := h3
  cases b <;> simp [run_underlying ht, h3', h4, hz]
 simp [execOp, ho, hr.look hx, hr.look hy, h]
theorem zcQ (hT : TabOk X.P X.T) {ty tk te : Nat} {x y : Operand} {yt : TypeId} {m : Option Nat} (ho : o.op = .binOp .eql ty x y yt) (hx : look X.n f x = some (.map m)) (hy : look X.n f y = some (.map none)) (ht : X.P.underlying ty = some (.map tk te)) : Ys X S f o (.bool m.isNone) := fun a w hr hS => by
 have hg : (eqGuard .eql ty x y (.map m) (.map none)).run X.P w = .ok () w := by
  unfold eqGuard
  split <;> rfl
 have he : (Op.equal ty (.map m) (.map none)).run X.P w = .ok m.isNone w := by
  show (Op.equalIn (9999 + 1) ty (.map m) (.map none)).run X.P w = _
  generalize 9999 = d
  unfold Op.equalIn
  cases m <;> simp only [Sem.run_bind, run_underlying ht, Result.andThen_ok] <;> rfl
 have h3 := zgE (P := X.P) w rfl he
 simp only [execOp, ho, hr.look hx, hr.look hy, Sem.run_bind, hg, Result.andThen_ok, h3]
 rfl
end
end Go.Proofs.YtaghmffgoomebaaGreat.Gx
namespace Go.Proofs.YtaghmffgoomebaaGreat.Gx
open Go.RowKit Mem
section
variable {K : Type}
structure Es (ek : K → Value) (es : Array MapEntry) (ck : Nat) (M : List (K × Value)) (B : List Nat) : Prop where
 kv : es.toList.map (fun e => (e.key, e.val)) = M.map (fun p => (ek p.1, p.2))
 born : es.toList.map (·.born) = B
 nodup : B.Nodup
 lt : ∀ b, b ∈ B → b < ck
def mpk (r : Nat) (ek : K → Value) (M : List (K × Value)) : Fact := ⟨fun b => b = r, fun w => ∃ es ck, w.heap[r]? = some (.map es ck) ∧ ∃ B, Es ek es ck M B, fun w w' h ⟨es, ck, h1, h2⟩ => ⟨es, ck, (h r rfl).trans h1, h2⟩⟩
theorem Es.size {ek : K → Value} {es : Array MapEntry} {ck : Nat} {M : List (K × Value)} {B : List Nat} (h : Es ek es ck M B) : es.size = M.length ∧ B.length = M.length := by
 have h1 := congrArg List.length h.kv
 have h2 := congrArg List.length h.born
 simp at h1 h2
 omega
theorem Es.key {ek : K → Value} {es : Array MapEntry} {ck : Nat} {M : List (K × Value)} {B : List Nat} (h : Es ek es ck M B) {j : Nat} {a : K} {u : Value} (hM : M[j]? = some (a, u)) : ∃ x : MapEntry, es[j]? = some x ∧ x.key = ek a ∧ x.val = u := by
 have h5 := congrArg (fun l => l[j]?) h.kv
 simp only [List.getElem?_map, hM, Array.getElem?_toList] at h5
 cases hx : es[j]? with
 | none => rw [hx] at h5; cases h5
 | some x =>
   rw [hx] at h5
   have h6 := Option.some.inj h5
   exact ⟨x, rfl, (Prod.mk.inj h6).1, (Prod.mk.inj h6).2⟩
theorem Es.modify {ek : K → Value} {es : Array MapEntry} {ck : Nat} {M : List (K × Value)} {B : List Nat} (h : Es ek es ck M B) {j : Nat} {a : K} {u v : Value} {g : MapEntry → MapEntry} (hM : M[j]? = some (a, u)) (hg : ∀ x : MapEntry, es[j]? = some x → (g x).key = ek a ∧ (g x).val = v ∧ (g x).born = x.born) : Es ek (es.modify j g) ck (M.set j (a, v)) B where
 kv := by
  apply List.ext_getElem?
  intro m
  have h8 := congrArg (fun l => l[m]?) h.kv
  simp only [List.getElem?_map, Array.getElem?_toList] at h8
  simp only [List.getElem?_map, Array.getElem?_toList, Array.getElem?_modify, List.getElem?_set]
  by_cases hm : j = m
  ·subst hm
   obtain ⟨x, hx, _⟩ := h.key hM
   obtain ⟨g1, g2, _⟩ := hg x hx
   rw [if_pos rfl, if_pos rfl, if_pos (List.getElem?_eq_some_iff.1 hM).1, hx]
   simp [g1, g2]
  ·rw [if_neg hm, if_neg hm]
   exact h8
 born := by
  rw [← h.born]
  apply List.ext_getElem?
  intro m
  simp only [List.getElem?_map, Array.getElem?_toList, Array.getElem?_modify]
  by_cases hm : j = m
  ·subst hm
   obtain ⟨x, hx, _⟩ := h.key hM
   rw [if_pos rfl, hx]
   simp [(hg x hx).2.2]
  ·rw [if_neg hm]
 nodup := h.nodup
 lt := h.lt
theorem Es.push {ek : K → Value} {es : Array MapEntry} {ck : Nat} {M : List (K × Value)} {B : List Nat} (h : Es ek es ck M B) (k : K) (v : Value) : Es ek (es.push { key := ek k, val := v, born := ck }) (ck + 1) (M ++ [(k, v)]) (B ++ [ck]) where
 kv := by simp [h.kv]
 born := by simp [h.born]
 nodup := List.nodup_append.2 ⟨h.nodup, by simp, fun a ha b hb e => by
  obtain rfl := List.mem_singleton.1 hb
  have := h.lt a ha
  omega⟩
 lt b hb := by
  rcases List.mem_append.1 hb with h1 | h1
  ·have := h.lt b h1; omega
  ·obtain rfl := List.mem_singleton.1 h1; omega
end
section
variable {K : Type} [DecidableEq K]
def lkG (k : K) : List (K × Value) → Nat → Option (Nat × Value)
 | [], _ => none
 | (a, v) :: r, i => if k = a then some (i, v) else lkG k r (i + 1)
structure KOk (P : Program) (tk : TypeId) (ek : K → Value) : Prop where
 check : ∀ b k w, (Instr.checkKey b 10000 tk (ek k)).run P w = .ok () w
 find : ∀ k (es : List MapEntry) (M : List (K × Value)) w, es.map (fun e => (e.key, e.val)) = M.map (fun p => (ek p.1, p.2)) → (Instr.findKey tk (ek k) es).run P w = .ok (lkG k M 0) w
 stays : ∀ k w, (Instr.keyThatStays (ek k) (ek k)).run P w = .ok (ek k) w
variable {P : Program} {t tk te : Nat} {ek : K → Value}
theorem zhJ (ht : P.underlying t = some (.map tk te)) (hu : KOk P tk ek) {z : Value} (hz : ∀ w, (zeroValue te).run P w = .ok z w) (r : Nat) (k : K) (M : List (K × Value)) (w : World) (h : (mpk r ek M).p w) (ok : Bool) :
 (Instr.lookup t (.map (some r)) (ek k) ok).run P w = .ok (if ok then .tuple #[((lkG k M 0).map (·.2)).getD z, .bool (lkG k M 0).isSome] else ((lkG k M 0).map (·.2)).getD z) w := by
 obtain ⟨es, ck, h1, B, h2⟩ := h
 have h3 := hu.find k es.toList M w h2.kv
 have h4 := fun b => hu.check b k w
 unfold Instr.lookup
 cases hl : lkG k M 0 with
 | none =>
   rw [hl] at h3
   cases ok <;> simp [run_underlying ht, getObj, Sem.run, h1, h3, h4, hz]
 | some iv =>
   rw [hl] at h3
   cases ok <;> simp [run_underlying ht, getObj, Sem.run, h1, h3, h4, hz]
def msG (k : K) (v : Value) : List (K × Value) → List (K × Value)
 | [] => [(k, v)]
 | (a, u) :: r => if k = a then (a, v) :: r else (a, u) :: msG k v r
theorem zi0 {k : K} {v u : Value} : ∀ {M : List (K × Value)} {i j : Nat}, lkG k M i = some (j, u) → ∃ n, j = i + n ∧ n < M.length ∧ (∃ a, M[n]? = some (a, u) ∧ a = k) ∧ msG k v M = M.set n (k, v)
 | [], i, j, h => by cases h
 | (a, x) :: r, i, j, h => by
   unfold lkG at h
   unfold msG
   by_cases hk : k = a
   ·rw [if_pos hk] at h ⊢
    injection h with h
    injection h with h1 h2
    subst h1 h2 hk
    exact ⟨0, rfl, by simp, ⟨k, rfl, rfl⟩, rfl⟩
   ·rw [if_neg hk] at h ⊢
    obtain ⟨n, h1, h2, h3, h4⟩ := zi0 h
    exact ⟨n + 1, by omega, by simp; omega, h3, by rw [h4]; rfl⟩
theorem zi1 {k : K} {v : Value} : ∀ {M : List (K × Value)} {i : Nat}, lkG k M i = none → msG k v M = M ++ [(k, v)]
 | [], i, h => rfl
 | (a, x) :: r, i, h => by
   unfold lkG at h
   unfold msG
   by_cases hk : k = a
   ·rw [if_pos hk] at h; cases h
   ·rw [if_neg hk] at h ⊢
    rw [zi1 h]; rfl
theorem zfj (ht : P.underlying t = some (.map tk te)) (hu : KOk P tk ek) (r : Nat) (k : K) (v : Value) (M : List (K × Value)) (w : World) (h : (mpk r ek M).p w) :
 ∃ es ck, (Instr.mapUpdate t (.map (some r)) (ek k) v).run P w = .ok () (w.putObj r (.map es ck)) ∧ ∃ B, Es ek es ck (msG k v M) B := by
 obtain ⟨es, ck, h1, B, h2⟩ := h
 have h3 := hu.find k es.toList M w h2.kv
 have h4 := fun b => hu.check b k w
 unfold Instr.mapUpdate
 cases hl : lkG k M 0 with
 | none =>
   rw [hl] at h3
   refine ⟨es.push { key := ek k, val := v, born := ck }, ck + 1, ?_, B ++ [ck], ?_⟩
   ·simp [run_underlying ht, getObj, setObj, Sem.run, h1, h3, h4, World.putObj]
   ·rw [zi1 hl]
    exact h2.push k v
 | some iv =>
   obtain ⟨j, u⟩ := iv
   rw [hl] at h3
   obtain ⟨n, e1, e2, ⟨a, e3, e4⟩, e5⟩ := zi0 (v := v) hl
   have hj : j = n := by omega
   subst hj
   subst e4
   obtain ⟨x, hx, hxk, hxv⟩ := h2.key e3
   have hk : (es[j]?).map (·.key) = some (ek a) := by rw [hx]; exact congrArg some hxk
   have h7 := hu.stays a w
   refine ⟨es.modify j fun e => { e with key := ek a, val := v }, ck, ?_, B, ?_⟩
   ·simp [run_underlying ht, getObj, setObj, Sem.run, h1, h3, h4, hk, h7, World.putObj]
   ·rw [e5]
    exact h2.modify e3 (fun x hx => ⟨rfl, rfl, rfl⟩)
def mdG (k : K) (M : List (K × Value)) : List (K × Value) := match lkG k M 0 with | some (n, _) => M.eraseIdx n | none => M
end
section
variable {K : Type} [DecidableEq K] {ek : K → Value}
variable {X : Cx} {f : Fr} {O O' R : List Fact} {ks k : List KI} {ops rest : List Oper} {o : Oper} {S : List Fact} {N : Fr → List Fact → List Fact → Prop}
theorem zbY {ty tk te r : Nat} {x y : Operand} {b : Bool} (q : K) {u z : Value} {M : List (K × Value)} (ho : o.op = .lookup ty x y b) (hx : look X.n f x = some (.map (some r))) (hy : look X.n f y = some u) (hq : u = ek q)
 (ht : X.P.underlying ty = some (.map tk te)) (hu : KOk X.P tk ek) (hz : ∀ w, (zeroValue te).run X.P w = .ok z w) (hm : mpk r ek M ∈ S) : Ys X S f o (if b then .tuple #[((lkG q M 0).map (·.2)).getD z, .bool (lkG q M 0).isSome] else ((lkG q M 0).map (·.2)).getD z) := fun a w hr hS => by
 subst hq
 have h := zhJ (P := X.P) ht hu hz r q M w (hS _ hm) b
 simp [execOp, ho, hr.look hx, hr.look hy, h]
theorem zbV (hd : o.dst = none) {ty tk te r : Nat} {m x y : Operand} (q : K) {u v : Value} {M : List (K × Value)} (ho : o.op = .mapUpdate ty m x y) (hm : look X.n f m = some (.map (some r))) (hx : look X.n f x = some u) (hq : u = ek q) (hy : look X.n f y = some v)
 (ht : X.P.underlying ty = some (.map tk te)) (hu : KOk X.P tk ek) (hU : Upd (mpk r ek M) (mpk r ek (msG q v M)) O O') (hg : N f O' R) : Mv X f O R o N := fun a w hr hk K Q hK => by
 subst hq
 obtain ⟨es, ck, h1, h2⟩ := zfj (P := X.P) ht hu r q v M w (hk.pO _ hU.mem)
 have hlt : r < w.heap.size := hk.ltO _ hU.mem r rfl
 unfold Oper.wp
 have : (execOp a.eval o).run X.P w = .ok .skip (w.putObj r (.map es ck)) := by
  simp [execOp, ho, hr.look hm, hr.look hx, hr.look hy, h1]
 rw [this]
 refine hK _ _ _ _ _ hg (hr.put0 hd _) (hk.upd hU rfl rfl rfl (by simp) (fun b hb hne => World.putObj_heap_other (fun e => hne e)) ⟨es, ck, World.putObj_heap_same hlt, h2⟩ (fun b hb => ?_))
 have : b = r := hb
 subst this
 exact ⟨.inl rfl, by simpa using hlt⟩
end
section
variable {K : Type} {ek : K → Value}
variable {X : Cx} {f : Fr} {O O' R : List Fact} {ks k : List KI} {ops rest : List Oper} {o : Oper} {S : List Fact} {N : Fr → List Fact → List Fact → Prop}
theorem zdd {dd : Nat} (hd : o.dst = some dd) {ty : Nat} (ek : K → Value) (ho : o.op = .makeMap ty none) (hg : ∀ r, N ((dd, .map (some r)) :: f) (mpk r ek [] :: O) R) : Mv X f O R o N := fun a w hr hk K Q hK => by
 unfold Oper.wp
 have : (execOp a.eval o).run X.P w = .ok (.value (.map (some w.heap.size))) (w.alloc (.map #[] 0)) := by
  simp [execOp, ho, Instr.makeMap, newObj, Sem.run]
 rw [this]
 refine hK _ _ _ _ _ (hg w.heap.size) (hr.put1 hd _) (hk.fresh (zaF (Below.refl _ _) _) [mpk w.heap.size ek []] (fun φ hφ => ?_) (List.pairwise_singleton _ _))
 obtain rfl := List.mem_singleton.1 hφ
 refine ⟨⟨#[], 0, heap_alloc_new w _, [], ⟨rfl, rfl, List.nodup_nil, fun b hb => by cases hb⟩⟩, fun b hb => ?_⟩
 have : b = w.heap.size := hb
 subst this
 exact ⟨Nat.le_refl _, by simp⟩
end
theorem zlr (k : Int) : ∀ (M : List (Int × Value)) (i : Nat), lkG k M i = lkp k M i
 | [], _ => rfl
 | (a, v) :: r, i => by
   unfold lkG lkp
   rw [zlr k r (i + 1)]
theorem zpB {P : Program} {tk : TypeId} {kk : IntKind} (hu : P.underlying tk = some (.int kk)) : KOk P tk (Value.int kk) where
 check b k w := run_checkKey hu b k w
 find k es M w h := by rw [zlr]; exact run_findKey hu k es M w h
 stays k w := stays kk k w
end Go.Proofs.YtaghmffgoomebaaGreat.Gx
