/- A list without what stands twice in a row, plain. -/
import Derived.Test.YteajefmnbalofaaPq5
namespace Go.Proofs.Yteajefmnbalofaa.Dd
open Pq Hp
set_option linter.unusedVariables false
set_option linter.unusedSimpArgs false
section
variable {α : Type} [DecidableEq α] {L : List α} {k i j : Nat} {x y : α}
def ddN (L : List α) : Nat → List α
  | 0 => []
  | k + 1 => ddN L k ++ (match L[k]? with
    | some x => if k ≠ 0 ∧ L[k - 1]? = some x then [] else [x]
    | none => [])
def dd (L : List α) : List α := ddN L L.length
theorem ddN_keep (hx : L[k]? = some x) (h : k = 0 ∨ L[k - 1]? ≠ some x) : ddN L (k + 1) = ddN L k ++ [x] := by
  rw [ddN, hx]
  simp only
  rw [if_neg (by rintro ⟨h1, h2⟩; rcases h with h | h; exact h1 h; exact h h2)]
theorem ddN_skip (hx : L[k]? = some x) (hk : k ≠ 0) (h : L[k - 1]? = some x) : ddN L (k + 1) = ddN L k := by
  rw [ddN, hx]
  simp only
  rw [if_pos ⟨hk, h⟩, List.append_nil]
theorem ddN_all (h : ∀ i x, 1 ≤ i → i < k → L[i]? = some x → L[i - 1]? ≠ some x) (hk : k ≤ L.length) : ddN L k = L.take k := by
  induction k with
  | zero => rfl
  | succ k ih =>
    obtain ⟨x, hx⟩ : ∃ x, L[k]? = some x := ⟨_, List.getElem?_eq_getElem (by omega)⟩
    rw [ddN_keep hx (by
      rcases Nat.eq_zero_or_pos k with e | e
      · exact .inl e
      · exact .inr (h k x e (Nat.lt_succ_self _) hx)), ih (fun i x h1 h2 => h i x h1 (by omega)) (by omega), List.take_succ_eq_append_getElem (by omega)]
    rw [List.getElem?_eq_getElem (by omega)] at hx
    injection hx with hx
    rw [hx]
theorem ddN_len : (ddN L k).length ≤ k := by
  induction k with
  | zero => exact Nat.le_refl _
  | succ k ih =>
    rw [ddN, List.length_append]
    split
    · split <;> simp <;> omega
    · simp; omega
theorem dd_small (h : L.length ≤ 1) : dd L = L := by
  unfold dd
  rw [ddN_all (fun i x h1 h2 => by omega) (Nat.le_refl _), List.take_length]
theorem mem_ddN : x ∈ ddN L k ↔ x ∈ L.take k := by
  induction k with
  | zero => simp [ddN]
  | succ k ih =>
    by_cases hk : k < L.length
    · obtain ⟨y, hy⟩ : ∃ y, L[k]? = some y := ⟨_, List.getElem?_eq_getElem hk⟩
      have e : L.take (k + 1) = L.take k ++ [y] := by
        rw [List.take_succ_eq_append_getElem hk]
        rw [List.getElem?_eq_getElem hk] at hy
        injection hy with hy
        rw [hy]
      by_cases h : k ≠ 0 ∧ L[k - 1]? = some y
      · rw [ddN_skip hy h.1 h.2, ih, e, List.mem_append]
        refine ⟨.inl, fun h' => h'.elim id fun h' => ?_⟩
        obtain rfl := List.mem_singleton.1 h'
        refine List.mem_of_getElem? (i := k - 1) ?_
        rw [List.getElem?_take, if_pos (by omega)]
        exact h.2
      · rw [ddN_keep hy (by by_cases e : k = 0; exact .inl e; exact .inr fun h' => h ⟨e, h'⟩), e, List.mem_append, List.mem_append, ih]
    · rw [ddN, List.getElem?_eq_none (by omega)]
      simp only [List.append_nil]
      rw [ih, List.take_of_length_le (by omega), List.take_of_length_le (by omega)]
theorem mem_dd : x ∈ dd L ↔ x ∈ L := by
  unfold dd
  rw [mem_ddN, List.take_length]
end
end Go.Proofs.Yteajefmnbalofaa.Dd

