/- The walk by reckoned steps: a store into one element of one's own slice. -/
import Derived.Test.YtmmijcannahjhaaGxP
namespace Go.Proofs.Ytmmijcannahjhaa.Gx
open Go.RowKit Mem
set_option linter.unusedVariables false
set_option linter.unusedSimpArgs false
theorem flat_set1 {α : Type} [Inhabited α] {sz : Nat} {enc : α → Nat → Value} {L : List α} {i j : Nat} {x y : α} (hx : L[i]? = some x) (hj : j < sz) (hy : ∀ b, b < sz → b ≠ j → enc y b = enc x b) : (flatF sz enc L).set (i * sz + j) (enc y j) = flatF sz enc (L.set i y) := by
  have hi := (List.getElem?_eq_some_iff.1 hx).1
  have hlen : (flatF sz enc L).length = L.length * sz := flatF_length _ _ L
  have hlen2 : (flatF sz enc (L.set i y)).length = L.length * sz := by rw [flatF_length, List.length_set]
  apply List.ext_getElem?
  intro p
  by_cases hp : p < L.length * sz
  · have hsz : 0 < sz := by omega
    obtain ⟨a, b, ha, hb, rfl⟩ : ∃ a b, a < L.length ∧ b < sz ∧ p = a * sz + b := by
      refine ⟨p / sz, p % sz, ?_, Nat.mod_lt _ hsz, ?_⟩
      · exact Nat.div_lt_of_lt_mul (by rw [Nat.mul_comm]; exact hp)
      · rw [Nat.mul_comm]; exact (Nat.div_add_mod p sz).symm
    obtain ⟨z, hz⟩ : ∃ z, L[a]? = some z := ⟨L[a], List.getElem?_eq_getElem ha⟩
    by_cases e : a = i
    · subst e
      have e2 : (L.set a y)[a]? = some y := by simp [ha]
      rw [flatF_get sz enc (L.set a y) a b y e2 hb]
      by_cases e3 : b = j
      · subst e3
        rw [List.getElem?_set_self (by rw [hlen]; exact hp)]
      · rw [List.getElem?_set_ne (by omega), flatF_get sz enc L a b x hx hb, hy b hb e3]
    · have e2 : (L.set i y)[a]? = some z := by rw [List.getElem?_set_ne (fun h => e h.symm)]; exact hz
      rw [flatF_get sz enc (L.set i y) a b z e2 hb, List.getElem?_set_ne, flatF_get sz enc L a b z hz hb]
      intro h
      have h1 : (i * sz + j) / sz = (a * sz + b) / sz := by rw [h]
      rw [Nat.mul_comm, Nat.mul_add_div hsz, Nat.div_eq_of_lt hj, Nat.mul_comm a, Nat.mul_add_div hsz, Nat.div_eq_of_lt hb] at h1
      omega
  · rw [List.getElem?_eq_none (by rw [List.length_set]; omega), List.getElem?_eq_none (by omega)]
theorem lay_set1 {α : Type} [Inhabited α] {sz : Nat} {enc : α → Nat → Value} {L : List α} {rest : List Value} {i j : Nat} {x y : α} {v : Value} (hx : L[i]? = some x) (hj : j < sz) (hy : ∀ b, b < sz → b ≠ j → enc y b = enc x b) (hv : v = enc y j) : lay (flatF sz enc L ++ rest) (i * sz + j) [v] = flatF sz enc (L.set i y) ++ rest := by
  have hi := (List.getElem?_eq_some_iff.1 hx).1
  have h1 : i * sz + j < (flatF sz enc L).length := by
    rw [flatF_length]
    have : (i + 1) * sz ≤ L.length * sz := Nat.mul_le_mul_right _ hi
    rw [Nat.add_mul] at this
    omega
  have h2 : lay (flatF sz enc L ++ rest) (i * sz + j) [v] = (flatF sz enc L ++ rest).set (i * sz + j) v := by
    unfold lay
    rw [List.set_eq_take_append_cons_drop, if_pos (by rw [List.length_append]; omega)]
    simp
  rw [h2, List.set_append_left _ _ h1, hv, flat_set1 hx hj hy]
theorem Upd.via {φ ψ : Fact} {O O' : List Fact} (h : Upd φ ψ O O') : ∃ OO : Fact → List Fact, ∀ χ, Upd φ χ O (OO χ) ∧ Upd χ ψ (OO χ) O' ∧ ∀ χ', Upd χ χ' (OO χ) (OO χ') := by
  induction h with
  | here O => exact ⟨fun χ => χ :: O, fun χ => ⟨.here _, .here _, fun _ => .here _⟩⟩
  | there ζ h ih =>
    obtain ⟨OO, h⟩ := ih
    exact ⟨fun χ => ζ :: OO χ, fun χ => ⟨.there _ (h χ).1, .there _ (h χ).2.1, fun χ' => .there _ ((h χ).2.2 χ')⟩⟩
section
variable {X : Cx} {f : Fr} {O O' R : List Fact} {ks k : List KI} {o : Oper} {N : Fr → List Fact → List Fact → Prop}
theorem Mv.via {w1 : True} (h : ∀ a w, Rel X.n a f → Kn X.E X.w0 w O R → ∃ O1 R1, Kn X.E X.w0 w O1 R1 ∧ Mv X f O1 R1 o N) : Mv X f O R o N := fun a w hr hk K Q hK => by
  obtain ⟨O1, R1, h1, h2⟩ := h a w hr hk
  exact h2 a w hr h1 K Q hK
/-- A store of one cell into an element of one's own slice. -/
theorem mv_store_own (hT : TabOk X.P X.T) {α : Type} [Inhabited α] {ty : Nat} {ad vl : Operand} {off t sz s g n c base e : Nat} {d : TD} {z : List Value} {v : Value} {enc : α → Nat → Value} {L : List α} (i j : Nat) (x y : α) (ho : o.op = .store ty ad vl)
    (hx : look X.n f ad = some (.pointer (some ⟨g, off, none⟩))) (hoff : off = i * sz + j) (hv : look X.n f vl = some v) (hty : tfind X.T ty = some ⟨t, d, s, z⟩) (hc : cellsN v s (agg? d) = some [v]) (h1 : oneB v = true)
    (hL : L[i]? = some x) (hj : j < sz) (hy : ∀ b, b < sz → b ≠ j → enc y b = enc x b) (hyv : v = enc y j)
    (hu : Upd (own base e sz (.slice (some ⟨g, 0, none⟩) n c) enc L) (own base e sz (.slice (some ⟨g, 0, none⟩) n c) enc (L.set i y)) O O') (hd : o.dst = none) (hg : N f O' R) : Mv X f O R o N := by
  obtain ⟨OO, hOO⟩ := hu.via
  refine Mv.via (w1 := trivial) fun a w hr hk => ?_
  have hsz : 0 < sz := by omega
  obtain ⟨rest, k1, k2, k3, k4, k5, k6⟩ := Kn.own_blk (O'' := fun cs => OO (blk g cs e)) hsz hk (fun cs => (hOO _).1)
  refine ⟨_, R, k1, ?_⟩
  have hi := (List.getElem?_eq_some_iff.1 hL).1
  have hlen : i * sz + j + 1 ≤ L.length * sz := by
    have : (i + 1) * sz ≤ L.length * sz := Nat.mul_le_mul_right _ hi
    rw [Nat.add_mul] at this
    omega
  have hfl : (flatF sz enc L).length = L.length * sz := flatF_length _ _ L
  have hfl2 : (flatF sz enc (L.set i y)).length = L.length * sz := by rw [flatF_length, List.length_set]
  have hlay : lay (flatF sz enc L ++ rest) off [v] = flatF sz enc (L.set i y) ++ rest := by rw [hoff]; exact lay_set1 hL hj hy hyv
  have hmv : Mv X f (OO (blk g (flatF sz enc L ++ rest) e)) R o (fun f' O1 R1 => f' = f ∧ R1 = R ∧ O1 = OO (blk g (flatF sz enc (L.set i y) ++ rest) e)) := by
    refine mv_storeL (cs := flatF sz enc L ++ rest) (T := e) hT ho hx hv hty hc (by simp [h1]) (O' := OO (blk g (flatF sz enc (L.set i y) ++ rest) e)) ?_ (by rw [List.length_append, hoff]; simp; omega) hd ⟨rfl, rfl, rfl⟩
    rw [hlay]
    exact (hOO _).2.2 _
  intro a w hr hk K Q hK
  refine hmv a w hr hk K Q fun a' w' f' O1 R1 ⟨q1, q2, q3⟩ hr' hk' => ?_
  subst q1
  subst q2
  subst q3
  refine hK _ _ _ _ _ hg hr' ?_
  exact Kn.blk_own hsz hk' (by rw [List.length_append] at k2 ⊢; omega) (by rw [List.length_set]; exact k3) k4 k5 k6 (by rw [k3, List.take_append_of_le_length (by omega), List.take_of_length_le (by omega)]) (hOO _).2.1
end
end Go.Proofs.Ytmmijcannahjhaa.Gx

