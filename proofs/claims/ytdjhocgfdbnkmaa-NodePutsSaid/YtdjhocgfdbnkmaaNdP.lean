/- The bytes of a node are read as what it was. -/
import Derived.Test.YtdjhocgfdbnkmaaNd9
import Derived.Test.YtdjhocgfdbnkmaaNd4
namespace Go.Proofs.Ytdjhocgfdbnkmaa.Nd
open Go.RowKit Mem Gx Rd Bytes
set_option linter.unusedVariables false
set_option linter.unusedSimpArgs false
theorem num_le_take {n : Int} {k : Nat} (R : List Int) (h0 : 0 ≤ n) (h1 : n < 256 ^ k) : num ((le n k ++ R).take k) = n := by
  rw [List.take_left' (le_length _ _), num_le n h0 k, Int.emod_eq_of_lt h0 h1]
theorem drop_more {B X R : List Int} {o k : Nat} (h : B.drop o = X ++ R) (hk : X.length = k) : B.drop (o + k) = R := by
  have : B.drop (o + k) = (B.drop o).drop k := by rw [List.drop_drop]
  rw [this, h]
  exact List.drop_left' hk
theorem entAt_of {B R : List Int} {o : Nat} {y : EntD} (hy : y.Bd) (h : B.drop o = entB y ++ R) : entAt B o = y := by
  obtain ⟨⟨y1, y2, y3⟩, y4⟩ := hy
  have h0 : B.drop o = le y.k.v 2 ++ (le y.k.b 4 ++ (le y.k.s 8 ++ (le y.a 4 ++ R))) := by
    rw [h]; unfold entB keyB; simp only [List.append_assoc]
  have h2 := drop_more h0 (le_length _ _)
  have h3 := drop_more h2 (le_length _ _)
  have h4 := drop_more h3 (le_length _ _)
  have e14 : o + 14 = o + 2 + 4 + 8 := by omega
  unfold entAt keyAt
  rw [e14, h0, h2, h3, h4, num_le_take _ y1.1 (by omega), num_le_take _ y2.1 (by omega), num_le_take _ y3.1 (by omega), num_le_take _ y4.1 (by omega)]
theorem drop_entsB (L : List EntD) : ∀ i, (entsB L).drop (18 * i) = entsB (L.drop i) := by
  induction L with
  | nil => intro i; simp [entsB]
  | cons x r ih =>
    intro i
    rcases i with _ | i
    · rfl
    · have : entsB (x :: r) = entB x ++ entsB r := rfl
      rw [this, List.drop_succ_cons, ← ih i, show 18 * (i + 1) = (entB x).length + 18 * i by rw [entB_len]; omega]
      rw [← List.drop_drop, List.drop_left]
theorem drop_nodeB {L : List EntD} {i : Nat} {y : EntD} (h : L[i]? = some y) : (nodeB L).drop (1 + 18 * i) = entB y ++ entsB (L.drop (i + 1)) := by
  have hi : i < L.length := by
    rcases Nat.lt_or_ge i L.length with h1 | h1
    · exact h1
    · rw [List.getElem?_eq_none h1] at h; cases h
  rw [List.getElem?_eq_getElem hi] at h
  injection h with h
  have e : (nodeB L).drop (1 + 18 * i) = (entsB L).drop (18 * i) := by
    unfold nodeB
    rw [Nat.add_comm]
    rfl
  rw [e, drop_entsB, List.drop_eq_getElem_cons hi, h]
  rfl
theorem decN_nodeB {L : List EntD} (hb : ∀ e ∈ L, e.Bd) : decN (nodeB L) L.length = L := by
  refine List.ext_getElem? fun i => ?_
  rcases Nat.lt_or_ge i L.length with h | h
  · have hy : L[i]? = some L[i] := List.getElem?_eq_getElem h
    unfold decN
    rw [List.getElem?_map, List.getElem?_range h, Option.map_some, entAt_of (hb _ (List.getElem_mem h)) (drop_nodeB hy), hy]
  · rw [List.getElem?_eq_none h, List.getElem?_eq_none (by rw [decN_len]; exact h)]
theorem manyB_nodeB (L : List EntD) : manyB (nodeB L) = L.length := by
  unfold manyB nodeB
  simp [num]
theorem nB_nodeB {L : List EntD} (h : L.length ≤ 6) : nB (nodeB L) = L.length := by
  unfold nB
  rw [manyB_nodeB, Int.toNat_natCast]
  omega
theorem ncode_nodeB {L : List EntD} {k : Int} (hk : k = 3 ∨ k = 4) (hb : ∀ e ∈ L, e.Bd) (h1 : 1 ≤ L.length) (h6 : L.length ≤ 6) (ha : Asc L) (hn : k = 4 → ∀ e ∈ L, e.a ≠ 0) : ncode (Page.page k (nodeB L)) = 0 := by
  rw [ncode_of (Page.getS_page (by omega) (by omega) (by rw [nodeB_len]; omega)), nc_full hk (by rw [nodeB_len, nB_nodeB h6]; omega), manyB_nodeB, nB_nodeB h6, nodeB_len, decN_nodeB hb, if_neg]
  rintro (h | h | h | h)
  · omega
  · omega
  · omega
  · obtain ⟨i, hi, hx⟩ := tB_iff.1 h
    rcases hx with ⟨h0, hx⟩ | ⟨h4, hx⟩
    · exact hx (ha i h0 hi)
    · rw [List.getD_eq_getElem?_getD, List.getElem?_eq_getElem hi] at hx
      exact hn h4 _ (List.getElem_mem hi) hx
end Go.Proofs.Ytdjhocgfdbnkmaa.Nd
