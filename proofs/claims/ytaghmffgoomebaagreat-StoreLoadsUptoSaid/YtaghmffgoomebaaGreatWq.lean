/- Calls of a tree as arguments; a key. How far a queue of trees has come: there is one way. Calls of a tree as arguments, with what their keys are within; what a row has behind a change. -/
import Derived.Test.YtaghmffgoomebaaGreatNd2
import Derived.Test.YtaghmffgoomebaaGreatFlat3
import Derived.Test.YtaghmffgoomebaaGreatTn
import Derived.Test.YtaghmffgoomebaaGreatTr4
namespace Go.Proofs.YtaghmffgoomebaaGreat.Tw
open Go.RowKit Mem Nd Gx
open Go.ChangeShapes Go.WideShapes Go.Deep
set_option linter.unusedVariables false
set_option linter.unusedSimpArgs false
set_option maxRecDepth 100000
set_option maxHeartbeats 4000000
/-- A call. -/
structure OpD where
  del : Bool
  e : EntD
instance : Inhabited OpD := ⟨⟨false, default⟩⟩
abbrev OpD.val (x : OpD) : Value := .agg #[.bool x.del, .int .u16 x.e.k.v, .int .u32 x.e.k.b, .int .u64 x.e.k.s, .int .u32 x.e.a]
end Go.Proofs.YtaghmffgoomebaaGreat.Tw
namespace Go.Proofs.YtaghmffgoomebaaGreat.Wk
open Go.RowKit Mem Nd Gx Sk Tw
open Tr hiding T row
set_option linter.unusedVariables false
set_option linter.unusedSimpArgs false
theorem bfs_same {a : AT} {P : List AT} {i : Nat} (h : BfsR a P i) : ∀ {P' : List AT}, BfsR a P' i → P' = P := by
  induction h with
  | start =>
    intro P' h'
    cases h' with
    | start => rfl
  | @step Q i b h hb ih =>
    intro P' h'
    cases h' with
    | @step Q' _ b' h2 hb' =>
      obtain rfl := ih h2
      rw [hb] at hb'
      injection hb' with e
      rw [e]
theorem bfs_at {a : AT} {Q : List AT} {m : Nat} (h : BfsR a Q m) : ∀ i, i < m → ∃ P b S, BfsR a P i ∧ P[i]? = some b ∧ Q = P ++ b.kids ++ S := by
  induction h with
  | start => intro i hi; omega
  | @step Q m b h hb ih =>
    intro i hi
    by_cases hm : i = m
    · subst hm
      exact ⟨Q, b, [], h, hb, by rw [List.append_nil]⟩
    · obtain ⟨P, c, S, h1, h2, h3⟩ := ih i (by omega)
      exact ⟨P, c, S ++ b.kids, h1, h2, by rw [h3]; simp only [List.append_assoc]⟩
end Go.Proofs.YtaghmffgoomebaaGreat.Wk
namespace Go.Proofs.YtaghmffgoomebaaGreat.Wk
open Go.RowKit Mem Nd Gx Tw
open Go.ChangeShapes Go.WideShapes Go.Deep
open Tr hiding T row
set_option linter.unusedVariables false
set_option linter.unusedSimpArgs false
set_option maxRecDepth 100000
end Go.Proofs.YtaghmffgoomebaaGreat.Wk
