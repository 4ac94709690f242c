/- Sorting in place, plain: the kit's arrays beside our lists, step by step. -/
import Derived.Test.YtgpfedmfbkhhcaaPq5
namespace Go.Proofs.Ytgpfedmfbkhhcaa.Pq
open Hp
set_option linter.unusedVariables false
set_option linter.unusedSimpArgs false
section
variable {α : Type} [Inhabited α] {f : α → α → Bool} {L L1 L' L'' : List α} {a b c d i j k m n hi F r ch s : Nat} {x y z u p : α}
theorem sift_no {d : Array α} (h : hi ≤ 2 * r + 1) : Go.Sort.siftDown f hi F r d = d := by rw [Go.Sort.siftDown, dif_pos h]
/-- The greater child. -/
def Ch (f : α → α → Bool) (hi F r ch : Nat) (L : List α) : Prop := (ch = 2 * r + 2 ∧ 2 * r + 2 < hi ∧ ∃ u z, L[F + (2 * r + 1)]? = some u ∧ L[F + (2 * r + 1) + 1]? = some z ∧ f u z = true) ∨ (ch = 2 * r + 1 ∧ 2 * r + 1 < hi ∧ ∀ u z, 2 * r + 2 < hi → L[F + (2 * r + 1)]? = some u → L[F + (2 * r + 1) + 1]? = some z → f u z = false)
omit [Inhabited α] in
theorem Ch.lt (h : Ch f hi F r ch L) : ch < hi ∧ r < ch := by rcases h with ⟨h1, h2, _⟩ | ⟨h1, h2, _⟩ <;> omega
theorem sift_eq (hc : Ch f hi F r ch L) (hl : F + hi ≤ L.length) (hx : L[F + r]? = some x) (hy : L[F + ch]? = some y) :
    Go.Sort.siftDown f hi F r L.toArray = if !f x y then L.toArray else Go.Sort.siftDown f hi F ch (Hp.swp L (F + r) (F + ch) x y).toArray := by
  rcases hc with ⟨rfl, h2, u, z, hu, hz, hl2⟩ | ⟨rfl, h1, hno⟩
  · rw [Go.Sort.siftDown, dif_neg (by omega), arr_at hu, arr_at hz, arr_at hx, arr_at hy, hl2, arr_swp hx hy]
    have h3 : decide (2 * r + 1 + 1 < hi) = true := decide_eq_true (by omega)
    simp only [h3, Bool.and_self, if_true]
    rw [dif_pos h2]
  · rw [Go.Sort.siftDown, dif_neg (by omega), arr_at hx, arr_at hy, arr_swp hx hy]
    have hcond : (decide (2 * r + 1 + 1 < hi) && f y L.toArray[F + (2 * r + 1) + 1]!) = false := by
      by_cases h2 : 2 * r + 2 < hi
      · rw [hno y _ h2 hy (at_arr (by omega)), Bool.and_false]
      · rw [decide_eq_false (by omega), Bool.false_and]
    rw [hcond]
    simp only [Bool.false_eq_true, if_false]
theorem sift_stop (hc : Ch f hi F r ch L) (hl : F + hi ≤ L.length) (hx : L[F + r]? = some x) (hy : L[F + ch]? = some y) (hn : f x y = false) : Go.Sort.siftDown f hi F r L.toArray = L.toArray := by
  rw [sift_eq hc hl hx hy, hn]; rfl
theorem sift_go (hc : Ch f hi F r ch L) (hl : F + hi ≤ L.length) (hx : L[F + r]? = some x) (hy : L[F + ch]? = some y) (hn : f x y = true) : Go.Sort.siftDown f hi F r L.toArray = Go.Sort.siftDown f hi F ch (Hp.swp L (F + r) (F + ch) x y).toArray := by
  rw [sift_eq hc hl hx hy, hn]; rfl
theorem scan_go (hb : i < b) (hx : L[i]? = some x) (hy : L[i - 1]? = some y) (hl : f x y = false) : Go.Sort.scanSorted f L.toArray b i = Go.Sort.scanSorted f L.toArray b (i + 1) := by
  rw [Go.Sort.scanSorted, arr_at hx, arr_at hy, hl, decide_eq_true hb]; rfl
theorem scan_end (hb : ¬ i < b) : Go.Sort.scanSorted f L.toArray b i = i := by
  rw [Go.Sort.scanSorted, decide_eq_false hb]; rfl
theorem scan_stop (hx : L[i]? = some x) (hy : L[i - 1]? = some y) (hl : f x y = true) : Go.Sort.scanSorted f L.toArray b i = i := by
  rw [Go.Sort.scanSorted, arr_at hx, arr_at hy, hl]; simp
theorem sd_zero {d : Array α} : Go.Sort.shiftDown f 0 d = d := rfl
theorem sd_stop (hj : 1 ≤ j) (hx : L[j]? = some x) (hy : L[j - 1]? = some y) (hl : f x y = false) : Go.Sort.shiftDown f j L.toArray = L.toArray := by
  obtain ⟨j, rfl⟩ : ∃ k, j = k + 1 := ⟨j - 1, by omega⟩
  rw [Nat.add_sub_cancel] at hy
  rw [Go.Sort.shiftDown, arr_at hx, arr_at hy, hl]; rfl
theorem sd_go (hj : 1 ≤ j) (hx : L[j]? = some x) (hy : L[j - 1]? = some y) (hl : f x y = true) : Go.Sort.shiftDown f j L.toArray = Go.Sort.shiftDown f (j - 1) (Hp.swp L j (j - 1) x y).toArray := by
  obtain ⟨j, rfl⟩ : ∃ k, j = k + 1 := ⟨j - 1, by omega⟩
  rw [Nat.add_sub_cancel] at hy ⊢
  rw [Go.Sort.shiftDown, arr_at hx, arr_at hy, hl, arr_swp hx hy]; rfl
theorem su_end {d : Array α} (hj : ¬ j < b) : Go.Sort.shiftUp f b j d = d := by rw [Go.Sort.shiftUp, if_neg hj]
theorem su_stop (hj : j < b) (hx : L[j]? = some x) (hy : L[j - 1]? = some y) (hl : f x y = false) : Go.Sort.shiftUp f b j L.toArray = L.toArray := by
  rw [Go.Sort.shiftUp, if_pos hj, arr_at hx, arr_at hy, hl]; rfl
theorem su_go (hj : j < b) (hx : L[j]? = some x) (hy : L[j - 1]? = some y) (hl : f x y = true) : Go.Sort.shiftUp f b j L.toArray = Go.Sort.shiftUp f b (j + 1) (Hp.swp L j (j - 1) x y).toArray := by
  rw [Go.Sort.shiftUp, if_pos hj, arr_at hx, arr_at hy, hl, arr_swp hx hy]; rfl
theorem par_true {d : Array α} (h : Go.Sort.scanSorted f d b i = b) : Go.Sort.partialIns f a b (s + 1) i d = (d, true) := by rw [Go.Sort.partialIns_succ, if_pos h]
theorem par_false {d : Array α} (h : Go.Sort.scanSorted f d b i ≠ b) (h5 : b - a < 50) : Go.Sort.partialIns f a b (s + 1) i d = (d, false) := by rw [Go.Sort.partialIns_succ, if_neg h, if_pos h5]
theorem par_step {d d4 d5 d1 : Array α} (h : Go.Sort.scanSorted f d b i = j) (hb : j ≠ b) (h5 : ¬ b - a < 50) (h1 : d1 = Go.Sort.swp d j (j - 1)) (h4 : d4 = Go.Sort.fixDown f a j d1) (h6 : d5 = Go.Sort.fixUp f b j d4) : Go.Sort.partialIns f a b (s + 1) i d = Go.Sort.partialIns f a b s j d5 := by
  rw [Go.Sort.partialIns_succ, h, if_neg hb, if_neg h5, h6, h4, h1]
theorem heapBuild_step {d : Array α} : Go.Sort.heapBuild f hi F (k + 1) d = Go.Sort.heapBuild f hi F k (Go.Sort.siftDown f hi F k d) := rfl
theorem heapPop_step {d : Array α} : Go.Sort.heapPop f F (k + 1) d = Go.Sort.heapPop f F k (Go.Sort.siftDown f k F 0 (Go.Sort.swp d F (F + k))) := rfl
end
end Go.Proofs.Ytgpfedmfbkhhcaa.Pq

