/- The walk by reckoned steps: a store of a whole element into one's own slice. -/
import Derived.Test.YtmmijcannahjhaaGxQ
namespace Go.Proofs.Ytmmijcannahjhaa.Gx
open Go.RowKit Mem
set_option linter.unusedVariables false
set_option linter.unusedSimpArgs false
theorem lay_setW {α : Type} [Inhabited α] {sz : Nat} {enc : α → Nat → Value} {L : List α} {rest : List Value} {i : Nat} {x y : α} (hx : L[i]? = some x) : lay (flatF sz enc L ++ rest) (i * sz) (encF enc y 0 sz) = flatF sz enc (L.set i y) ++ rest := by
  obtain ⟨hi, ex⟩ := List.getElem?_eq_some_iff.1 hx
  have e1 : L = L.take i ++ x :: L.drop (i + 1) := by
    rw [← ex, List.getElem_cons_drop, List.take_append_drop]
  have e2 : L.set i y = L.take i ++ y :: L.drop (i + 1) := by rw [List.set_eq_take_append_cons_drop, if_pos hi]
  have ht : (flatF sz enc (L.take i)).length = i * sz := by rw [flatF_length, List.length_take, Nat.min_eq_left (Nat.le_of_lt hi)]
  have e3 : flatF sz enc L = flatF sz enc (L.take i) ++ (encF enc x 0 sz ++ flatF sz enc (L.drop (i + 1))) := by
    conv => lhs; rw [e1]
    rw [flatF_append]
    rfl
  rw [e2, flatF_append, e3, List.append_assoc, lay_app _ _ _ ht.symm, encF_len, List.append_assoc, List.append_assoc, List.drop_left' (encF_len enc x sz 0)]
  show _ = flatF sz enc (L.take i) ++ (encF enc y 0 sz ++ flatF sz enc (L.drop (i + 1))) ++ rest
  simp only [List.append_assoc]
section
variable {X : Cx} {f : Fr} {O O' R : List Fact} {ks k : List KI} {o : Oper} {N : Fr → List Fact → List Fact → Prop}
/-- A store of an element into one's own slice. -/
theorem mv_store_ownW (hT : TabOk X.P X.T) {α : Type} [Inhabited α] {ty : Nat} {ad vl : Operand} {off t sz s g n c base e : Nat} {d : TD} {z : List Value} {v : Value} {enc : α → Nat → Value} {L : List α} (i : Nat) (x y : α) (ho : o.op = .store ty ad vl)
    (hx : look X.n f ad = some (.pointer (some ⟨g, off, none⟩))) (hoff : off = i * sz) (hv : look X.n f vl = some v) (hty : tfind X.T ty = some ⟨t, d, s, z⟩) (hc : cellsN v s (agg? d) = some (encF enc y 0 sz)) (h1 : (encF enc y 0 sz).all oneB = true)
    (hL : L[i]? = some x) (hsz : 0 < sz)
    (hu : Upd (own base e sz (.slice (some ⟨g, 0, none⟩) n c) enc L) (own base e sz (.slice (some ⟨g, 0, none⟩) n c) enc (L.set i y)) O O') (hd : o.dst = none) (hg : N f O' R) : Mv X f O R o N := by
  obtain ⟨OO, hOO⟩ := hu.via
  refine Mv.via (w1 := trivial) fun a w hr hk => ?_
  obtain ⟨rest, k1, k2, k3, k4, k5, k6⟩ := Kn.own_blk (O'' := fun cs => OO (blk g cs e)) hsz hk (fun cs => (hOO _).1)
  refine ⟨_, R, k1, ?_⟩
  have hi := (List.getElem?_eq_some_iff.1 hL).1
  have hlen : i * sz + sz ≤ L.length * sz := by
    have : (i + 1) * sz ≤ L.length * sz := Nat.mul_le_mul_right _ hi
    rw [Nat.add_mul] at this
    omega
  have hfl : (flatF sz enc L).length = L.length * sz := flatF_length _ _ L
  have hfl2 : (flatF sz enc (L.set i y)).length = L.length * sz := by rw [flatF_length, List.length_set]
  have hlay : lay (flatF sz enc L ++ rest) off (encF enc y 0 sz) = flatF sz enc (L.set i y) ++ rest := by rw [hoff]; exact lay_setW hL
  have hmv : Mv X f (OO (blk g (flatF sz enc L ++ rest) e)) R o (fun f' O1 R1 => f' = f ∧ R1 = R ∧ O1 = OO (blk g (flatF sz enc (L.set i y) ++ rest) e)) := by
    refine mv_storeL (cs := flatF sz enc L ++ rest) (T := e) hT ho hx hv hty hc h1 (O' := OO (blk g (flatF sz enc (L.set i y) ++ rest) e)) ?_ (by rw [List.length_append, hoff, encF_len]; omega) hd ⟨rfl, rfl, rfl⟩
    rw [hlay]
    exact (hOO _).2.2 _
  intro a w hr hk K Q hK
  refine hmv a w hr hk K Q fun a' w' f' O1 R1 ⟨q1, q2, q3⟩ hr' hk' => ?_
  subst q1
  subst q2
  subst q3
  refine hK _ _ _ _ _ hg hr' ?_
  exact Kn.blk_own hsz hk' (by rw [List.length_append] at k2 ⊢; omega) (by rw [List.length_set]; exact k3) k4 k5 k6 (by rw [k3, List.take_append_of_le_length (by omega), List.take_of_length_le (by omega)]) (hOO _).2.1
end
end Go.Proofs.Ytmmijcannahjhaa.Gx

