/- Sorting by a heap, plain. -/
import Derived.Test.YteajefmnbalofaaPq2
namespace Go.Proofs.Yteajefmnbalofaa.Pq
open Hp
set_option linter.unusedVariables false
set_option linter.unusedSimpArgs false
section
variable {α : Type} {lt : α → α → Prop} {L L' L'' M M' M'' : List α} {a b i j k m n : Nat} {x y p : α}
abbrev gtR (lt : α → α → Prop) : α → α → Prop := fun x y => lt y x
theorem LtO.gt (o : LtO lt) : LtO (gtR lt) := ⟨fun h g => o.asym h g, fun {x y z} h1 h2 h3 => o.ntr (x := z) (y := y) (z := x) h2 h1 h3⟩
/-- The greatest ones lie behind, in order; the others are a heap. -/
structure HS (lt : α → α → Prop) (M : List α) (n : Nat) : Prop where
  heap : HeapN (gtR lt) M n
  srt : SortedIn lt n M.length M
  far : ∀ i k x y, i < n → n ≤ k → M[i]? = some x → M[k]? = some y → ¬ lt y x
theorem HS.start (h : HeapN (gtR lt) M M.length) : HS lt M M.length := ⟨h, fun i j x y h1 h2 h3 => by omega, fun i k x y h1 h2 h3 h4 => by have := (List.getElem?_eq_some_iff.1 h4).1; omega⟩
theorem HS.done (h : HS lt M 0) : SortedIn lt 0 M.length M := h.srt
theorem HS.step (o : LtO lt) (h : HS lt M (n + 1)) (hn : n < M.length) (hx : M[0]? = some x) (hy : M[n]? = some y) (g : Seg 0 n (swp M 0 n x y) M'') (hh : HeapN (gtR lt) M'' n) : HS lt M'' n := by
  have b1 := (List.getElem?_eq_some_iff.1 hx).1
  have b2 := (List.getElem?_eq_some_iff.1 hy).1
  have hlen : M''.length = M.length := g.len.trans swp_len
  have hroot : ∀ k z, k < n + 1 → M[k]? = some z → ¬ lt x z := fun k z hk hz => h.heap.root (LtO.gt o) (by omega) hx k hk z hz
  have hat : M''[n]? = some x := by rw [g.out n (.inr (Nat.le_refl _)), swp_get b1 b2, if_pos rfl]
  have hbeh : ∀ k z, n < k → M''[k]? = some z → M[k]? = some z := fun k z hk hz => by
    rw [g.out k (.inr (by omega)), swp_get b1 b2, if_neg (by omega), if_neg (by omega)] at hz
    exact hz
  have hlow : ∀ k z, k < n → M''[k]? = some z → ∃ i, i < n + 1 ∧ M[i]? = some z := fun k z hk hz => by
    refine g.all (Nat.zero_le n) (P := fun z => ∃ i, i < n + 1 ∧ M[i]? = some z) (fun i w _ i2 hw => ?_) k z (Nat.zero_le _) hk hz
    rw [swp_get b1 b2, if_neg (by omega)] at hw
    by_cases e : i = 0
    · rw [if_pos e] at hw
      obtain rfl := Option.some.inj hw
      exact ⟨n, by omega, hy⟩
    · rw [if_neg e] at hw
      exact ⟨i, by omega, hw⟩
  refine ⟨hh, fun i j u v h1 h2 h3 h4 h5 => ?_, fun i k u v h1 h2 h3 h4 => ?_⟩
  · rw [hlen] at h3
    have h5' := hbeh j v (by omega) h5
    by_cases e : i = n
    · subst e
      rw [hat] at h4
      obtain rfl := Option.some.inj h4
      exact h.far 0 j x v (by omega) (by omega) hx h5'
    · exact h.srt i j u v (by omega) h2 h3 (hbeh i u (by omega) h4) h5'
  · obtain ⟨i0, i1, i2⟩ := hlow i u h1 h3
    by_cases e : k = n
    · subst e
      rw [hat] at h4
      obtain rfl := Option.some.inj h4
      exact hroot i0 u i1 i2
    · exact h.far i0 k u v i1 (by omega) i2 (hbeh k v (by omega) h4)
end
end Go.Proofs.Yteajefmnbalofaa.Pq

