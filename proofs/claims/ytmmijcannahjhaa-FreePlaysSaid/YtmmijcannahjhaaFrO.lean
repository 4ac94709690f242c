/- Calls of a list of blocks, as an argument. -/
import Derived.Test.YtmmijcannahjhaaFr9
import Derived.Test.YtmmijcannahjhaaFlat3
namespace Go.Proofs.Ytmmijcannahjhaa.Hp
open Go.RowKit Mem Gx
open Go.ChangeShapes Go.WideShapes Go.Deep
set_option linter.unusedVariables false
set_option linter.unusedSimpArgs false
set_option maxRecDepth 100000
theorem fop_leaves {H : Type} {enc : TypeId × Value → H} {W : World} {V : Nat → Value} {l : List TypeId} (hl : l = [3, 34]) (hV : ∀ (j : Nat) (tj : TypeId), l[j]? = some tj → Leaf enc Try.prog W tj (V j)) :
    ∃ y : Int × Int, (∀ j, j < 2 → V j = CE y j) ∧ True := by
  subst hl
  obtain ⟨a0, e0, w0⟩ := leaf_int Try.underlying3 (hV 0 _ rfl)
  obtain ⟨a1, e1, w1⟩ := leaf_int Try.underlying34 (hV 1 _ rfl)
  refine ⟨(a0, a1), fun j hj => ?_, trivial⟩
  match j, hj with
  | 0, _ => exact e0
  | 1, _ => exact e1
theorem fops_of {H : Type} {enc : TypeId × Value → H} {W : World} {base : Nat} {v : Value} {d : DataW H} {p : List MemPlace} (hv : Value.okWide Try.prog W .any base 28 v) (h : DataW.Trod enc Try.prog W 0 (fun _ => true) true 28 v d p) :
    ∃ (A : Option Addr) (n c : Nat) (L : List (Int × Int)), v = .slice A n c ∧ ((SlV.mk A n c).Ok L.length ∧ Sl W A 2 CE L) := by
  have hl : leaves Try.prog 8 36 = some [3, 34] := by decide +kernel
  obtain ⟨A, n, c, F, rfl, hA, h1, h2, h3, h4⟩ := open_slices Try.underlying28 hl (by kernel_rfl) (by decide) hv h
  obtain ⟨L, hn, hs, hb⟩ := arr_list (enc := CE) (Q := fun _ => True) hA (fun i hi => fop_leaves rfl (h4 i hi))
  exact ⟨A, n, c, L, rfl, ⟨hn, h1, h2, fun h => (h3 h).2⟩, hs⟩
end Go.Proofs.Ytmmijcannahjhaa.Hp

