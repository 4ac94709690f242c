/- Sorting in place, plain: the kit's arrays beside our lists (heap sort, partial insertion sort). -/
import Derived.Sort.LotA
import Derived.Sort.LotB
import Derived.Test.YteajefmnbalofaaPq4
namespace Go.Proofs.Yteajefmnbalofaa.Pq
open Hp
set_option linter.unusedVariables false
set_option linter.unusedSimpArgs false
section
variable {α : Type} [Inhabited α] {lt : α → α → Prop} {L L1 L' L'' : List α} {a b c d i j k m n : Nat} {x y p : α}
theorem arr_at (h : L[i]? = some x) : L.toArray[i]! = x := by
  obtain ⟨hi, e⟩ := List.getElem?_eq_some_iff.1 h
  rw [getElem!_pos _ i (by simpa using hi)]
  simpa using e
theorem arr_swp (hx : L[i]? = some x) (hy : L[j]? = some y) : Go.Sort.swp L.toArray i j = (Hp.swp L i j x y).toArray := by
  unfold Go.Sort.swp Hp.swp
  rw [arr_at hx, arr_at hy]
  simp
theorem at_arr (h : i < L.length) : L[i]? = some L.toArray[i]! := by
  obtain ⟨x, hx⟩ : ∃ x, L[i]? = some x := ⟨L[i], List.getElem?_eq_getElem h⟩
  rw [arr_at hx, hx]
theorem seg_of (h : Go.Sort.PermIn a b L.toArray L'.toArray) (hb : b ≤ L.length) : Seg a b L L' := by
  have h1 := Go.Sort.permIn_mono _ _ a b 0 L.length (Nat.zero_le _) hb (by simp) h
  obtain ⟨e1, e2, e3⟩ := h
  have hl : L'.length = L.length := by simpa using e1
  refine ⟨hl, fun i hi => ?_, ?_⟩
  · have := e2 i hi
    by_cases h : i < L.length
    · rw [at_arr h, at_arr (by omega), this]
    · rw [List.getElem?_eq_none (by omega), List.getElem?_eq_none (by omega)]
  · have h2 : (L'.take L.length).Perm (L.take L.length) := by simpa using h1.2.2
    rwa [List.take_of_length_le (by omega), List.take_of_length_le (Nat.le_refl _)] at h2
theorem sorted_of (h : Go.Sort.SortedIn (fun x y => Gx.tB (lt x y)) a b L.toArray) : SortedIn lt a b L := fun i j x y h1 h2 h3 h4 h5 => by
  have := h i j h1 h2 h3
  rw [arr_at h4, arr_at h5] at this
  replace this : Gx.tB (lt y x) = false := this
  intro hl
  rw [Gx.tB_true hl] at this
  cases this
omit [Inhabited α] in
theorem swo_of (o : LtO lt) : Go.Sort.SWO (fun x y => Gx.tB (lt x y)) where
  irrefl x := Gx.tB_false (o.irr x)
  trans x y z h1 h2 := by
    refine Gx.tB_true (Classical.byContradiction fun h => ?_)
    exact o.ntr (x := y) (y := z) (z := x) (o.asym (Gx.tB_iff.1 h2)) h (Gx.tB_iff.1 h1)
  ntrans x y z h1 h2 := by
    refine Gx.tB_false fun h => ?_
    have e1 : ¬ lt x y := fun h => by rw [Gx.tB_true h] at h1; cases h1
    have e2 : ¬ lt y z := fun h => by rw [Gx.tB_true h] at h2; cases h2
    exact o.ntr e2 e1 h
theorem below_of (h : Pre lt a b L) (hb : b ≤ L.length) (hab : a ≤ b) : Go.Sort.Below (fun x y => Gx.tB (lt x y)) a b L.toArray := by
  rcases Nat.eq_zero_or_pos a with h0 | h0
  · exact .inl h0
  · refine .inr fun i h1 h2 => Gx.tB_false ?_
    exact h _ h0 (at_arr (by omega)) i _ h1 h2 (at_arr (by omega))
/-- Heap sort. -/
theorem heap_seg (o : LtO lt) (hab : a ≤ b) (hb : b ≤ L.length) (h : Go.Sort.heapSort (fun x y => Gx.tB (lt x y)) L.toArray a b = L'.toArray) : Seg a b L L' ∧ SortedIn lt a b L' := by
  have := Go.Sort.heapSort_holds (swo_of o) L.toArray a b hab (by simpa using hb)
  rw [h] at this
  exact ⟨seg_of this.1 hb, sorted_of this.2⟩
/-- Partial insertion sort. -/
theorem part_seg {r : Bool} (o : LtO lt) (hab : a < b) (hb : b ≤ L.length) (hp : Pre lt a b L) (h : Go.Sort.partialInsertionSort (fun x y => Gx.tB (lt x y)) L.toArray a b = (L'.toArray, r)) : Seg a b L L' ∧ (r = true → SortedIn lt a b L') := by
  have := Go.Sort.partialInsertionSort_holds (swo_of o) L.toArray a b hab (by simpa using hb) (below_of hp hb (by omega))
  rw [h] at this
  exact ⟨seg_of this.1 hb, fun hr => sorted_of (this.2 hr)⟩
end
end Go.Proofs.Yteajefmnbalofaa.Pq

