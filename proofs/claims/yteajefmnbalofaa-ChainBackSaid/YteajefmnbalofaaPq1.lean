/- Sorting in place, plain: a part of a list is turned; insertion; what partitions leave. -/
import Derived.Test.YteajefmnbalofaaHp1
namespace Go.Proofs.Yteajefmnbalofaa.Pq
open Hp
set_option linter.unusedVariables false
set_option linter.unusedSimpArgs false
section
variable {α : Type} {lt : α → α → Prop} {L L' L'' : List α} {a b i j k m n : Nat} {x y p : α}
/-- A part of a list. -/
def sg (a b : Nat) (L : List α) : List α := (L.drop a).take (b - a)
theorem mem_sg : x ∈ sg a b L ↔ ∃ i, a ≤ i ∧ i < b ∧ L[i]? = some x := by
  unfold sg
  constructor
  · intro h
    obtain ⟨j, hj⟩ := List.getElem?_of_mem h
    rw [List.getElem?_take] at hj
    by_cases h1 : j < b - a
    · rw [if_pos h1, List.getElem?_drop] at hj
      exact ⟨a + j, by omega, by omega, hj⟩
    · rw [if_neg h1] at hj
      cases hj
  · rintro ⟨i, h1, h2, h3⟩
    refine List.mem_of_getElem? (i := i - a) ?_
    rw [List.getElem?_take, if_pos (by omega), List.getElem?_drop, show a + (i - a) = i by omega]
    exact h3
/-- A part has been turned; the rest stands. -/
structure Seg (a b : Nat) (L L' : List α) : Prop where
  len : L'.length = L.length
  out : ∀ i, i < a ∨ b ≤ i → L'[i]? = L[i]?
  perm : L'.Perm L
theorem Seg.refl (a b : Nat) (L : List α) : Seg a b L L := ⟨rfl, fun _ _ => rfl, .refl _⟩
theorem Seg.trans (h : Seg a b L L') (g : Seg a b L' L'') : Seg a b L L'' := ⟨g.len.trans h.len, fun i hi => (g.out i hi).trans (h.out i hi), g.perm.trans h.perm⟩
theorem Seg.wide {c d : Nat} (h : Seg a b L L') (hc : c ≤ a) (hd : b ≤ d) : Seg c d L L' := ⟨h.len, fun i hi => h.out i (by omega), h.perm⟩
theorem Seg.swp (hi : a ≤ i) (hi2 : i < b) (hj : a ≤ j) (hj2 : j < b) (hx : L[i]? = some x) (hy : L[j]? = some y) : Seg a b L (swp L i j x y) := ⟨swp_len, fun k hk => by
  rw [swp_get (List.getElem?_eq_some_iff.1 hx).1 (List.getElem?_eq_some_iff.1 hy).1, if_neg (by omega), if_neg (by omega)], swp_perm hx hy⟩
theorem split3 (hab : a ≤ b) (L : List α) : L = L.take a ++ (sg a b L ++ L.drop b) := by
  unfold sg
  have h1 : L.drop a = (L.drop a).take (b - a) ++ (L.drop a).drop (b - a) := (List.take_append_drop _ _).symm
  rw [List.drop_drop, show a + (b - a) = b by omega] at h1
  rw [← h1, List.take_append_drop]
theorem Seg.mid (h : Seg a b L L') (hab : a ≤ b) : (sg a b L').Perm (sg a b L) := by
  have h1 := h.perm
  have e1 : L'.take a = L.take a := by
    apply List.ext_getElem?
    intro i
    rw [List.getElem?_take, List.getElem?_take]
    by_cases hi : i < a
    · rw [if_pos hi, if_pos hi, h.out i (.inl hi)]
    · rw [if_neg hi, if_neg hi]
  have e2 : L'.drop b = L.drop b := by
    apply List.ext_getElem?
    intro i
    rw [List.getElem?_drop, List.getElem?_drop, h.out (b + i) (.inr (by omega))]
  rw [split3 hab L', split3 hab L, e1, e2] at h1
  exact (List.perm_append_right_iff _).1 ((List.perm_append_left_iff _).1 h1)
/-- What all of a part are stays so. -/
theorem Seg.all {P : α → Prop} (h : Seg a b L L') (hab : a ≤ b) (hP : ∀ i x, a ≤ i → i < b → L[i]? = some x → P x) : ∀ i x, a ≤ i → i < b → L'[i]? = some x → P x := fun i x h1 h2 h3 => by
  have hm : x ∈ sg a b L' := mem_sg.2 ⟨i, h1, h2, h3⟩
  obtain ⟨k, k1, k2, k3⟩ := mem_sg.1 ((h.mid hab).mem_iff.1 hm)
  exact hP k x k1 k2 k3
/-- A part does not fall. -/
def SortedIn (lt : α → α → Prop) (a b : Nat) (L : List α) : Prop := ∀ i j x y, a ≤ i → i < j → j < b → L[i]? = some x → L[j]? = some y → ¬ lt y x
theorem SortedIn.small (h : b ≤ a + 1) : SortedIn lt a b L := fun i j x y h1 h2 h3 => by omega
theorem SortedIn.out {c d : Nat} (h : SortedIn lt a b L) (g : Seg c d L L') (hd : b ≤ c ∨ d ≤ a) : SortedIn lt a b L' := fun i j x y h1 h2 h3 h4 h5 => by
  rw [g.out i (by omega)] at h4
  rw [g.out j (by omega)] at h5
  exact h i j x y h1 h2 h3 h4 h5
/-- Two parts and what lies between. -/
theorem SortedIn.join (o : LtO lt) (hm : L[m]? = some p) (h1 : SortedIn lt a m L) (h2 : SortedIn lt (m + 1) b L) (g1 : ∀ i x, a ≤ i → i < m → L[i]? = some x → ¬ lt p x) (g2 : ∀ i x, m < i → i < b → L[i]? = some x → ¬ lt x p) : SortedIn lt a b L := fun i j x y i1 i2 i3 i4 i5 => by
  by_cases hj : j < m
  · exact h1 i j x y i1 i2 hj i4 i5
  · by_cases hi : m < i
    · exact h2 i j x y hi i2 i3 i4 i5
    · by_cases e1 : i = m
      · subst e1
        rw [hm] at i4
        obtain rfl := Option.some.inj i4
        exact g2 j y i2 i3 i5
      · by_cases e2 : j = m
        · subst e2
          rw [hm] at i5
          obtain rfl := Option.some.inj i5
          exact g1 i x i1 i2 i4
        · exact o.ntr (g1 i x i1 (by omega) i4) (g2 j y (by omega) i3 i5)
/-! ### insertion -/
/-- All are in order but for the one at a place, which may be too far behind. -/
def Ins (lt : α → α → Prop) (a m j : Nat) (L : List α) : Prop := ∀ i k x y, a ≤ i → i < k → k ≤ m → k ≠ j → L[i]? = some x → L[k]? = some y → ¬ lt y x
theorem Ins.start (h : SortedIn lt a m L) : Ins lt a m m L := fun i k x y h1 h2 h3 h4 => h i k x y h1 h2 (by omega)
theorem Ins.step (o : LtO lt) (h : Ins lt a m j L) (hj : a < j) (hm : j ≤ m) (hx : L[j]? = some x) (hy : L[j - 1]? = some y) (hl : lt x y) : Ins lt a m (j - 1) (Hp.swp L j (j - 1) x y) := fun i k u v i1 i2 i3 i4 i5 i6 => by
  have b1 := (List.getElem?_eq_some_iff.1 hx).1
  have b2 := (List.getElem?_eq_some_iff.1 hy).1
  rw [swp_get b1 b2] at i5 i6
  rw [if_neg i4] at i6
  by_cases ek : k = j
  · rw [if_pos ek] at i6
    obtain rfl := Option.some.inj i6
    by_cases ei : i = j - 1
    · rw [if_pos ei] at i5
      obtain rfl := Option.some.inj i5
      exact o.asym hl
    · rw [if_neg ei, if_neg (by omega)] at i5
      exact h i (j - 1) u y i1 (by omega) (by omega) (by omega) i5 hy
  · rw [if_neg ek] at i6
    by_cases ei : i = j - 1
    · rw [if_pos ei] at i5
      obtain rfl := Option.some.inj i5
      exact h j k x v (by omega) (by omega) i3 ek hx i6
    · rw [if_neg ei] at i5
      by_cases ej : i = j
      · rw [if_pos ej] at i5
        obtain rfl := Option.some.inj i5
        exact h (j - 1) k y v (by omega) (by omega) i3 ek hy i6
      · rw [if_neg ej] at i5
        exact h i k u v i1 i2 i3 ek i5 i6
theorem Ins.zero (h : Ins lt a m a L) : SortedIn lt a (m + 1) L := fun i k x y h1 h2 h3 h4 h5 => h i k x y h1 h2 (by omega) (by omega) h4 h5
theorem Ins.stop (o : LtO lt) (h : Ins lt a m j L) (hj : a < j) (hm : j ≤ m) (hx : L[j]? = some x) (hy : L[j - 1]? = some y) (hl : ¬ lt x y) : SortedIn lt a (m + 1) L := fun i k u v h1 h2 h3 h4 h5 => by
  by_cases ek : k = j
  · subst ek
    rw [hx] at h5
    obtain rfl := Option.some.inj h5
    by_cases ei : i = k - 1
    · subst ei
      rw [hy] at h4
      obtain rfl := Option.some.inj h4
      exact hl
    · exact o.ntr (h i (k - 1) u y h1 (by omega) (by omega) (by omega) h4 hy) hl
  · exact h i k u v h1 h2 (by omega) ek h4 h5
end
end Go.Proofs.Yteajefmnbalofaa.Pq

