/- How far a queue of trees has come: there is one way. Calls of a tree as arguments, with what their keys are within; what a row has behind a change. -/
import Derived.Test.YtahfjkibononfaaTn
import Derived.Test.YtahfjkibononfaaTo
import Derived.Test.YtahfjkibononfaaTr4
namespace Go.Proofs.Ytahfjkibononfaa.Wk
open Go.RowKit Mem Nd Gx Sk Tw
open Tr hiding T row
set_option linter.unusedVariables false
set_option linter.unusedSimpArgs false
theorem bfs_same {a : AT} {P : List AT} {i : Nat} (h : BfsR a P i) : ∀ {P' : List AT}, BfsR a P' i → P' = P := by
  induction h with
  | start =>
    intro P' h'
    cases h' with
    | start => rfl
  | @step Q i b h hb ih =>
    intro P' h'
    cases h' with
    | @step Q' _ b' h2 hb' =>
      obtain rfl := ih h2
      rw [hb] at hb'
      injection hb' with e
      rw [e]
theorem bfs_at {a : AT} {Q : List AT} {m : Nat} (h : BfsR a Q m) : ∀ i, i < m → ∃ P b S, BfsR a P i ∧ P[i]? = some b ∧ Q = P ++ b.kids ++ S := by
  induction h with
  | start => intro i hi; omega
  | @step Q m b h hb ih =>
    intro i hi
    by_cases hm : i = m
    · subst hm
      exact ⟨Q, b, [], h, hb, by rw [List.append_nil]⟩
    · obtain ⟨P, c, S, h1, h2, h3⟩ := ih i (by omega)
      exact ⟨P, c, S ++ b.kids, h1, h2, by rw [h3]; simp only [List.append_assoc]⟩
theorem bfs_le {P : List AT} {acc L : List EntD} (h : Bfs P acc L) : acc.length ≤ L.length := by
  obtain ⟨X, Y, m, _, _, _, h1, _⟩ := h
  rw [h1]
  simp only [List.length_append]
  omega
end Go.Proofs.Ytahfjkibononfaa.Wk
namespace Go.Proofs.Ytahfjkibononfaa.Wk
open Go.RowKit Mem Nd Gx Tw
open Go.ChangeShapes Go.WideShapes Go.Deep
open Tr hiding T row
set_option linter.unusedVariables false
set_option linter.unusedSimpArgs false
set_option maxRecDepth 100000
theorem bd16 {x : Int} (h : (Lit.int .u16 x).wf = true) : 0 ≤ x ∧ x < 65536 := by
  simp [Lit.wf, IntKind.min, IntKind.max, IntKind.signed, IntKind.bits] at h; omega
theorem bd32 {x : Int} (h : (Lit.int .u32 x).wf = true) : 0 ≤ x ∧ x < 4294967296 := by
  simp [Lit.wf, IntKind.min, IntKind.max, IntKind.signed, IntKind.bits] at h; omega
theorem bd64 {x : Int} (h : (Lit.int .u64 x).wf = true) : 0 ≤ x ∧ x < 18446744073709551616 := by
  simp [Lit.wf, IntKind.min, IntKind.max, IntKind.signed, IntKind.bits] at h; omega
theorem op_leavesB {H : Type} {enc : TypeId × Value → H} {W : World} {V : Nat → Value} {l : List TypeId} (hl : l = [4, 23, 24, 25, 24]) (hV : ∀ (j : Nat) (tj : TypeId), l[j]? = some tj → Leaf enc Try.prog W tj (V j)) :
    ∃ y : OpD, (∀ j, j < 5 → V j = CE y j) ∧ y.e.k.Bd := by
  subst hl
  obtain ⟨b, e⟩ := leaf_bool Try.underlying4 (hV 0 _ rfl)
  obtain ⟨a0, e0, w0⟩ := leaf_int Try.underlying23 (hV 1 _ rfl)
  obtain ⟨a1, e1, w1⟩ := leaf_int Try.underlying24 (hV 2 _ rfl)
  obtain ⟨a2, e2, w2⟩ := leaf_int Try.underlying25 (hV 3 _ rfl)
  obtain ⟨a3, e3, w3⟩ := leaf_int Try.underlying24 (hV 4 _ rfl)
  refine ⟨⟨b, ⟨⟨a0, a1, a2⟩, a3⟩⟩, fun j hj => ?_, ⟨bd16 w0, bd32 w1, bd64 w2⟩⟩
  match j, hj with
  | 0, _ => exact e
  | 1, _ => exact e0
  | 2, _ => exact e1
  | 3, _ => exact e2
  | 4, _ => exact e3
theorem opsB_of {H : Type} {enc : TypeId × Value → H} {W : World} {base : Nat} {v : Value} {d : DataW H} {p : List MemPlace} (hv : Value.okWide Try.prog W .any base 47 v) (h : DataW.Trod enc Try.prog W 0 (fun _ => true) true 47 v d p) :
    ∃ (A : Option Addr) (n c : Nat) (L : List OpD), v = .slice A n c ∧ ((SlV.mk A n c).Ok L.length ∧ Sl W A 5 CE L ∧ ∀ o ∈ L, o.e.k.Bd) := by
  have hl : leaves Try.prog 8 65 = some [4, 23, 24, 25, 24] := by decide +kernel
  obtain ⟨A, n, c, F, rfl, hA, h1, h2, h3, h4⟩ := open_slices Try.underlying47 hl (by kernel_rfl) (by decide) hv h
  obtain ⟨L, hn, hs, hb⟩ := arr_list (enc := CE) (Q := fun o => o.e.k.Bd) hA (fun i hi => op_leavesB rfl (h4 i hi))
  exact ⟨A, n, c, L, rfl, ⟨hn, h1, h2, fun h => (h3 h).2⟩, hs, hb⟩
theorem keyB_of {H : Type} {enc : TypeId × Value → H} {W : World} {base : Nat} {v : Value} {d : DataW H} {p : List MemPlace} (hv : Value.okWide Try.prog W .any base 27 v) (h : DataW.Trod enc Try.prog W 0 (fun _ => true) true 27 v d p) :
    ∃ y : KeyD, v = y.val ∧ y.Bd := by
  have hl : leaves Try.prog 8 27 = some [23, 24, 25] := by decide +kernel
  obtain ⟨V, rfl, hV⟩ := open_flat hl (by kernel_rfl) (by kernel_rfl) hv h
  obtain ⟨a0, e0, w0⟩ := leaf_int Try.underlying23 (hV 0 _ rfl)
  obtain ⟨a1, e1, w1⟩ := leaf_int Try.underlying24 (hV 1 _ rfl)
  obtain ⟨a2, e2, w2⟩ := leaf_int Try.underlying25 (hV 2 _ rfl)
  refine ⟨⟨a0, a1, a2⟩, ?_, ⟨bd16 w0, bd32 w1, bd64 w2⟩⟩
  have e' : (List.range 3).map V = [V 0, V 1, V 2] := rfl
  show Value.agg ((List.range 3).map V).toArray = _
  rw [e', e0, e1, e2]
theorem setAt_mem {L : List EntD} {e x : EntD} {p : Nat} (h : x ∈ setAt L e p) : x = e ∨ x ∈ L := by
  unfold setAt at h
  split at h
  · exact (List.mem_or_eq_of_mem_set h).symm
  · rcases List.mem_append.1 h with h | h
    · rcases List.mem_append.1 h with h | h
      · exact .inr (List.mem_of_mem_take h)
      · exact .inl (List.mem_singleton.1 h)
    · exact .inr (List.mem_of_mem_drop h)
theorem delAt_mem {L : List EntD} {k : KeyD} {x : EntD} {p : Nat} (h : x ∈ delAt L k p) : x ∈ L := by
  unfold delAt at h
  split at h
  · rcases List.mem_append.1 h with h | h
    · exact List.mem_of_mem_take h
    · exact List.mem_of_mem_drop h
  · exact h
end Go.Proofs.Ytahfjkibononfaa.Wk

