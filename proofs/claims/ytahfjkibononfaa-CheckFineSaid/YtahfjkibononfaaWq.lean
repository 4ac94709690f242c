/- How far a queue of trees has come: there is one way. -/
import Derived.Test.YtahfjkibononfaaTn
namespace Go.Proofs.Ytahfjkibononfaa.Wk
open Go.RowKit Mem Nd Gx Sk Tw
open Tr hiding T row
set_option linter.unusedVariables false
set_option linter.unusedSimpArgs false
theorem bfs_same {a : AT} {P : List AT} {i : Nat} (h : BfsR a P i) : ∀ {P' : List AT}, BfsR a P' i → P' = P := by
  induction h with
  | start =>
    intro P' h'
    cases h' with
    | start => rfl
  | @step Q i b h hb ih =>
    intro P' h'
    cases h' with
    | @step Q' _ b' h2 hb' =>
      obtain rfl := ih h2
      rw [hb] at hb'
      injection hb' with e
      rw [e]
theorem bfs_at {a : AT} {Q : List AT} {m : Nat} (h : BfsR a Q m) : ∀ i, i < m → ∃ P b S, BfsR a P i ∧ P[i]? = some b ∧ Q = P ++ b.kids ++ S := by
  induction h with
  | start => intro i hi; omega
  | @step Q m b h hb ih =>
    intro i hi
    by_cases hm : i = m
    · subst hm
      exact ⟨Q, b, [], h, hb, by rw [List.append_nil]⟩
    · obtain ⟨P, c, S, h1, h2, h3⟩ := ih i (by omega)
      exact ⟨P, c, S ++ b.kids, h1, h2, by rw [h3]; simp only [List.append_assoc]⟩
theorem bfs_le {P : List AT} {acc L : List EntD} (h : Bfs P acc L) : acc.length ≤ L.length := by
  obtain ⟨X, Y, m, _, _, _, h1, _⟩ := h
  rw [h1]
  simp only [List.length_append]
  omega
end Go.Proofs.Ytahfjkibononfaa.Wk

