/- The law NodeLeaves: what a leaf's entries become, as lists. -/
import Derived.Test.YtahfjkibononfaaNdN
namespace Go.Proofs.Ytahfjkibononfaa.Nd
open Go.RowKit Mem Gx
set_option linter.unusedVariables false
set_option linter.unusedSimpArgs false
theorem pos_ex (L : List KeyD) (t : KeyD) (ha : AscK L) : ∃ p, PosK L t p := by
  have key : ∀ j, j ≤ L.length → ∃ p, p ≤ j ∧ (∀ m, m < p → klt (L.getD m default) t) ∧ (∀ m, p ≤ m → m < j → ¬ klt (L.getD m default) t) := by
    intro j
    induction j with
    | zero => intro _; exact ⟨0, Nat.le_refl _, fun m h => by omega, fun m h1 h2 => by omega⟩
    | succ j ih =>
      intro hj
      obtain ⟨p, h1, h2, h3⟩ := ih (by omega)
      by_cases hk : klt (L.getD j default) t
      · refine ⟨j + 1, Nat.le_refl _, fun m hm => ?_, fun m h4 h5 => by omega⟩
        rcases Nat.lt_or_ge m j with h | h
        · exact klt_trans (ha m j h (by omega)) hk
        · obtain rfl : m = j := by omega
          exact hk
      · refine ⟨p, by omega, h2, fun m h4 h5 => ?_⟩
        rcases Nat.lt_or_ge m j with h | h
        · exact h3 m h4 h
        · obtain rfl : m = j := by omega
          exact hk
  obtain ⟨p, h1, h2, h3⟩ := key L.length (Nat.le_refl _)
  exact ⟨p, h1, h2, h3⟩
theorem pos_uniq {L : List KeyD} {t : KeyD} {p q : Nat} (hp : PosK L t p) (hq : PosK L t q) : p = q := by
  rcases Nat.lt_trichotomy p q with h | h | h
  · exact absurd (hq.lo p h) (hp.hi p (Nat.le_refl _) (by have := hq.le; omega))
  · exact h
  · exact absurd (hp.lo q h) (hq.hi q (Nat.le_refl _) (by have := hp.le; omega))
theorem key_eq {x y : KeyD} (h1 : ¬ klt x y) (h2 : ¬ klt y x) : x = y := by
  unfold klt at h1 h2
  exact key_ext (by omega) (by omega) (by omega)
theorem klt_irr {x : KeyD} : ¬ klt x x := by unfold klt; omega
theorem klt_asym {x y : KeyD} (h : klt x y) : ¬ klt y x := by unfold klt at *; omega
/-- How a key stands to the entries. -/
theorem pos_at {L : List KeyD} {t : KeyD} {p i : Nat} {h : Bool} {x : KeyD} (hp : PosK L t p) (ha : AscK L) (hh : tB (L[p]? = some t) = h) (hx : L[i]? = some x) : (klt t x ↔ (if h = true then p + 1 else p) ≤ i) ∧ (x = t ↔ (h = true ∧ i = p)) := by
  have hil := (List.getElem?_eq_some_iff.1 hx).1
  have hxd := getD_at hx
  rcases Nat.lt_trichotomy i p with h1 | h1 | h1
  · have h2 := hp.lo i h1
    rw [hxd] at h2
    refine ⟨⟨fun h3 => absurd h3 (klt_asym h2), fun h3 => by split at h3 <;> omega⟩, fun h3 => ?_, fun h3 => by omega⟩
    rw [h3] at h2
    exact absurd h2 klt_irr
  · subst h1
    have h2 := hp.hi i (Nat.le_refl _) hil
    rw [hxd] at h2
    cases h
    · have h3 : x ≠ t := by
        intro h4
        rw [hx, h4] at hh
        rw [tB_true rfl] at hh
        cases hh
      refine ⟨⟨fun _ => by simp, fun _ => ?_⟩, fun h4 => absurd h4 h3, fun h4 => by cases h4.1⟩
      by_cases h5 : klt t x
      · exact h5
      · exact absurd (key_eq h2 h5) h3
    · have h3 : x = t := by
        have := tB_iff.1 hh
        rw [hx] at this
        exact Option.some.inj this
      refine ⟨⟨fun h4 => ?_, fun h4 => by simp at h4; omega⟩, fun _ => ⟨rfl, rfl⟩, fun _ => h3⟩
      rw [h3] at h4
      exact absurd h4 klt_irr
  · have h2 := hp.hi p (Nat.le_refl _) (by omega)
    have h3 := ha p i h1 hil
    rw [hxd] at h3
    have h4 : klt t x := by
      by_cases h5 : klt t (L.getD p default)
      · exact klt_trans h5 h3
      · rw [← key_eq h2 h5]; exact h3
    refine ⟨⟨fun _ => by split <;> omega, fun _ => h4⟩, fun h5 => ?_, fun h5 => by omega⟩
    rw [h5] at h4
    exact absurd h4 klt_irr
/-- A row's first entries without one. -/
def wo (L : List EntD) (p : Nat) (h : Bool) (i : Nat) : List EntD := if h = true ∧ p < i then L.take p ++ (L.take i).drop (p + 1) else L.take i
theorem wo_skip {L : List EntD} {p i : Nat} {h : Bool} (hi : i < L.length) (h1 : h = true ∧ i = p) : wo L p h (i + 1) = wo L p h i := by
  unfold wo
  obtain ⟨h1, rfl⟩ := h1
  rw [if_pos ⟨h1, Nat.lt_succ_self _⟩, if_neg (by omega), List.drop_of_length_le (by rw [List.length_take]; omega), List.append_nil]
theorem wo_more {L : List EntD} {p i : Nat} {h : Bool} {y : EntD} (hy : L[i]? = some y) (h1 : ¬ (h = true ∧ i = p)) : wo L p h (i + 1) = wo L p h i ++ [y] := by
  have hi := (List.getElem?_eq_some_iff.1 hy).1
  have e : L.take (i + 1) = L.take i ++ [y] := by
    rw [List.take_succ_eq_append_getElem hi]
    rw [List.getElem?_eq_getElem hi] at hy
    injection hy with hy
    rw [hy]
  unfold wo
  by_cases h2 : h = true ∧ p < i
  · rw [if_pos ⟨h2.1, by omega⟩, if_pos h2, e, List.drop_append_of_le_length (by rw [List.length_take]; omega), List.append_assoc]
  · rw [if_neg (fun h3 => by
      have : ¬ i = p := fun h4 => h1 ⟨h3.1, h4⟩
      exact h2 ⟨h3.1, by omega⟩), if_neg h2, e]
theorem wo_len {L : List EntD} {p i : Nat} {h : Bool} (hi : i ≤ L.length) : (wo L p h i).length ≤ i := by
  unfold wo
  split
  · rename_i h1
    simp only [List.length_append, List.length_take, List.length_drop]
    omega
  · rw [List.length_take]; omega
/-- The row without one. -/
def woL (L : List EntD) (p : Nat) (h : Bool) : List EntD := if h = true then L.take p ++ L.drop (p + 1) else L
theorem wo_all {L : List EntD} {p : Nat} {h : Bool} (hp : h = true → p < L.length) : wo L p h L.length = woL L p h := by
  unfold wo woL
  cases h
  · simp
  · rw [if_pos ⟨rfl, hp rfl⟩, if_pos rfl, List.take_length]
theorem woL_take {L : List EntD} {p : Nat} {h : Bool} (hp : p ≤ L.length) : (woL L p h).take p = L.take p := by
  unfold woL
  split
  · rw [List.take_left' (by rw [List.length_take]; omega)]
  · rfl
theorem woL_drop {L : List EntD} {p : Nat} {h : Bool} (hp : p ≤ L.length) : (woL L p h).drop p = if h = true then L.drop (p + 1) else L.drop p := by
  unfold woL
  split
  · rw [List.drop_left' (by rw [List.length_take]; omega)]
  · rfl
theorem woL_le {L : List EntD} {p : Nat} {h : Bool} (hp : p ≤ L.length) (hh : h = true → p < L.length) : p ≤ (woL L p h).length ∧ (woL L p h).length ≤ L.length := by
  unfold woL
  split
  · rename_i h1
    have := hh h1
    simp only [List.length_append, List.length_take, List.length_drop]
    omega
  · exact ⟨hp, Nat.le_refl _⟩
/-- How a key stands to the others. -/
theorem woL_at {L : List EntD} {t : KeyD} {p i : Nat} {h : Bool} {x : EntD} (hp : PosK (L.map (·.k)) t p) (ha : AscK (L.map (·.k))) (hh : tB ((L.map (·.k))[p]? = some t) = h) (hx : (woL L p h)[i]? = some x) : klt t x.k ↔ p ≤ i := by
  have hpl : p ≤ L.length := by have := hp.le; rw [List.length_map] at this; exact this
  have key : ∀ j, L[j]? = some x → (klt t x.k ↔ (if h = true then p + 1 else p) ≤ j) := fun j hj => (pos_at hp ha hh (by rw [List.getElem?_map, hj]; rfl)).1
  unfold woL at hx
  cases h
  · exact key i hx
  · rw [if_pos rfl] at hx
    rcases Nat.lt_or_ge i p with h1 | h1
    · rw [List.getElem?_append_left (by rw [List.length_take]; omega), List.getElem?_take, if_pos h1] at hx
      rw [key i hx, if_pos rfl]
      omega
    · rw [List.getElem?_append_right (by rw [List.length_take]; omega), List.length_take, Nat.min_eq_left hpl, List.getElem?_drop] at hx
      rw [key _ hx, if_pos rfl]
      omega
/-- A row's first entries, and one more. -/
def ins (W : List EntD) (p : Nat) (e : EntD) (i : Nat) : List EntD := if p < i then W.take p ++ [e] ++ (W.take i).drop p else W.take i
theorem ins_len {W : List EntD} {p i : Nat} {e : EntD} (hi : i ≤ W.length) : (ins W p e i).length = if p < i then i + 1 else i := by
  unfold ins
  split
  · simp only [List.length_append, List.length_take, List.length_drop, List.length_cons, List.length_nil]; omega
  · rw [List.length_take]; omega
theorem ins_more {W : List EntD} {p i : Nat} {e y : EntD} (hy : W[i]? = some y) : ins W p e (i + 1) = (if i = p then ins W p e i ++ [e] else ins W p e i) ++ [y] := by
  have hi := (List.getElem?_eq_some_iff.1 hy).1
  have e1 : W.take (i + 1) = W.take i ++ [y] := by
    rw [List.take_succ_eq_append_getElem hi]
    rw [List.getElem?_eq_getElem hi] at hy
    injection hy with hy
    rw [hy]
  unfold ins
  rcases Nat.lt_trichotomy i p with h | h | h
  · rw [if_neg (by omega), if_neg (by omega), if_neg (by omega), e1]
  · subst h
    rw [if_pos (by omega), if_pos rfl, if_neg (by omega), e1, List.drop_left' (by rw [List.length_take]; omega)]
  · rw [if_pos (by omega), if_neg (by omega), if_pos h, e1, List.drop_append_of_le_length (by rw [List.length_take]; omega)]
    simp only [List.append_assoc]
theorem ins_all {W : List EntD} {p : Nat} {e : EntD} (hp : p ≤ W.length) : (if p < W.length then ins W p e W.length else ins W p e W.length ++ [e]) = W.take p ++ [e] ++ W.drop p := by
  unfold ins
  split
  · rw [List.take_length]
  · have : p = W.length := by omega
    subst this
    rw [List.take_length, List.drop_length, List.append_nil]
theorem with_eq {L : List EntD} {p : Nat} {h : Bool} {e : EntD} (hp : p ≤ L.length) (hh : h = true → p < L.length) : (woL L p h).take p ++ [e] ++ (woL L p h).drop p = if h = true then L.set p e else L.take p ++ [e] ++ L.drop p := by
  rw [woL_take hp, woL_drop hp]
  split
  · rename_i h1
    rw [List.set_eq_take_append_cons_drop, if_pos (hh h1)]
    simp
  · rfl
section
variable {X : Cx} {f : Fr} {O R : List Fact} {ks : List KI}
theorem gk_wk {f' : Fr} {O' R' : List Fact} (hf : FSub X.n f f') (hO : SelAll O' O) (hR : R' ⊆ R) (hg : GK X ks f' O' R') : GK X ks f O R := .mk fun a w hr hk => hg.out a w (hr.sub hf) (hk.sel hO hR)
end
end Go.Proofs.Ytahfjkibononfaa.Nd

