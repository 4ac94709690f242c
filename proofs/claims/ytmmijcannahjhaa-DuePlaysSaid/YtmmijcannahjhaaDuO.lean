/- Timers, calls of a queue, as arguments. -/
import Derived.Test.YtmmijcannahjhaaDu9
import Derived.Test.YtmmijcannahjhaaFlat3
namespace Go.Proofs.Ytmmijcannahjhaa.Du
open Go.RowKit Mem Gx
open Go.ChangeShapes Go.WideShapes Go.Deep
set_option linter.unusedVariables false
set_option linter.unusedSimpArgs false
set_option maxRecDepth 100000
theorem tim_of {H : Type} {enc : TypeId × Value → H} {W : World} {base : Nat} {v : Value} {d : DataW H} {p : List MemPlace} (hv : Value.okWide Try.prog W .any base 24 v) (h : DataW.Trod enc Try.prog W 0 (fun _ => true) true 24 v d p) :
    ∃ y : Tim, v = y.val ∧ True := by
  have hl : leaves Try.prog 8 24 = some [22, 3, 3] := by decide +kernel
  obtain ⟨V, rfl, hV⟩ := open_flat hl (by kernel_rfl) (by kernel_rfl) hv h
  obtain ⟨a0, e0, w0⟩ := leaf_int Try.underlying22 (hV 0 _ rfl)
  obtain ⟨a1, e1, w1⟩ := leaf_int Try.underlying3 (hV 1 _ rfl)
  obtain ⟨a2, e2, w2⟩ := leaf_int Try.underlying3 (hV 2 _ rfl)
  refine ⟨⟨a0, a1, a2⟩, ?_, trivial⟩
  have e' : (List.range 3).map V = [V 0, V 1, V 2] := rfl
  show Value.agg ((List.range 3).map V).toArray = _
  rw [e', e0, e1, e2]
theorem dop_leaves {H : Type} {enc : TypeId × Value → H} {W : World} {V : Nat → Value} {l : List TypeId} (hl : l = [3, 22, 3, 3]) (hV : ∀ (j : Nat) (tj : TypeId), l[j]? = some tj → Leaf enc Try.prog W tj (V j)) :
    ∃ y : DOp, (∀ j, j < 4 → V j = DE y j) ∧ True := by
  subst hl
  obtain ⟨a0, e0, w0⟩ := leaf_int Try.underlying3 (hV 0 _ rfl)
  obtain ⟨a1, e1, w1⟩ := leaf_int Try.underlying22 (hV 1 _ rfl)
  obtain ⟨a2, e2, w2⟩ := leaf_int Try.underlying3 (hV 2 _ rfl)
  obtain ⟨a3, e3, w3⟩ := leaf_int Try.underlying3 (hV 3 _ rfl)
  refine ⟨⟨a0, a1, a2, a3⟩, fun j hj => ?_, trivial⟩
  match j, hj with
  | 0, _ => exact e0
  | 1, _ => exact e1
  | 2, _ => exact e2
  | 3, _ => exact e3
theorem dops_of {H : Type} {enc : TypeId × Value → H} {W : World} {base : Nat} {v : Value} {d : DataW H} {p : List MemPlace} (hv : Value.okWide Try.prog W .any base 46 v) (h : DataW.Trod enc Try.prog W 0 (fun _ => true) true 46 v d p) :
    ∃ (A : Option Addr) (n c : Nat) (L : List DOp), v = .slice A n c ∧ ((SlV.mk A n c).Ok L.length ∧ Sl W A 4 DE L) := by
  have hl : leaves Try.prog 8 55 = some [3, 22, 3, 3] := by decide +kernel
  obtain ⟨A, n, c, F, rfl, hA, h1, h2, h3, h4⟩ := open_slices Try.underlying46 hl (by kernel_rfl) (by decide) hv h
  obtain ⟨L, hn, hs, hb⟩ := arr_list (enc := DE) (Q := fun _ => True) hA (fun i hi => dop_leaves rfl (h4 i hi))
  exact ⟨A, n, c, L, rfl, ⟨hn, h1, h2, fun h => (h3 h).2⟩, hs⟩
end Go.Proofs.Ytmmijcannahjhaa.Du

