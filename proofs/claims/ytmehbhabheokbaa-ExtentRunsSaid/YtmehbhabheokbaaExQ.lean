/- Runs as an argument. -/
import Derived.Test.YtmehbhabheokbaaEx0
import Derived.Test.YtmehbhabheokbaaFlat3
namespace Go.Proofs.Ytmehbhabheokbaa.Ex
open Go.RowKit Mem Gx
open Go.ChangeShapes Go.WideShapes Go.Deep
set_option linter.unusedVariables false
set_option linter.unusedSimpArgs false
set_option maxRecDepth 100000
set_option maxHeartbeats 4000000
theorem run_leaves {H : Type} {enc : TypeId × Value → H} {W : World} {V : Nat → Value} {l : List TypeId} (hl : l = [3, 3]) (hV : ∀ (j : Nat) (tj : TypeId), l[j]? = some tj → Leaf enc Try.prog W tj (V j)) :
    ∃ y : RunD, (∀ j, j < 2 → V j = RE y j) ∧ True := by
  subst hl
  obtain ⟨a0, e0, w0⟩ := leaf_int Try.underlying3 (hV 0 _ rfl)
  obtain ⟨a1, e1, w1⟩ := leaf_int Try.underlying3 (hV 1 _ rfl)
  refine ⟨⟨a0, a1⟩, fun j hj => ?_, trivial⟩
  match j, hj with
  | 0, _ => exact e0
  | 1, _ => exact e1
theorem runs_of {H : Type} {enc : TypeId × Value → H} {W : World} {base : Nat} {v : Value} {d : DataW H} {p : List MemPlace} (hv : Value.okWide Try.prog W .any base 81 v) (h : DataW.Trod enc Try.prog W 0 (fun _ => true) true 81 v d p) :
    ∃ (A : Option Addr) (n c : Nat) (L : List RunD), v = .slice A n c ∧ (n = L.length ∧ Sl W A 2 RE L) := by
  have hl : leaves Try.prog 8 111 = some [3, 3] := by decide +kernel
  obtain ⟨A, n, c, F, rfl, hA, h1, h2, h3, h4⟩ := open_slices Try.underlying81 hl (by kernel_rfl) (by decide) hv h
  obtain ⟨L, hn, hs, hb⟩ := arr_list (enc := RE) (Q := fun _ => True) hA (fun i hi => run_leaves rfl (h4 i hi))
  exact ⟨A, n, c, L, rfl, hn, hs⟩
end Go.Proofs.Ytmehbhabheokbaa.Ex

