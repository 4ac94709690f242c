/- Calls of RefsPlays as an argument. -/
import Derived.Test.YtdkgmgfadpnhbaaRf1
import Derived.Test.YtdkgmgfadpnhbaaOpen
import Derived.Test.YtdkgmgfadpnhbaaFlat3
namespace Go.Proofs.Ytdkgmgfadpnhbaa.Rf
open Go.RowKit Mem Gx
open Go.ChangeShapes Go.WideShapes Go.Deep
set_option linter.unusedVariables false
set_option linter.unusedSimpArgs false
set_option maxRecDepth 100000
set_option maxHeartbeats 4000000
structure CallD where
  drop : Bool
  second : Bool
  b : Int
deriving Inhabited
def CE (c : CallD) : Nat → Value
  | 0 => .bool c.drop
  | 1 => .bool c.second
  | _ => .int .u32 c.b
theorem call_leaves {H : Type} {enc : TypeId × Value → H} {W : World} {V : Nat → Value} {l : List TypeId} (hl : l = [4, 4, 87]) (hV : ∀ (j : Nat) (tj : TypeId), l[j]? = some tj → Leaf enc Try.prog W tj (V j)) :
    ∃ y : CallD, (∀ j, j < 3 → V j = CE y j) ∧ True := by
  subst hl
  obtain ⟨a0, e0⟩ := leaf_bool Try.underlying4 (hV 0 _ rfl)
  obtain ⟨a1, e1⟩ := leaf_bool Try.underlying4 (hV 1 _ rfl)
  obtain ⟨a2, e2, w2⟩ := leaf_int Try.underlying87 (hV 2 _ rfl)
  refine ⟨⟨a0, a1, a2⟩, fun j hj => ?_, trivial⟩
  match j, hj with
  | 0, _ => exact e0
  | 1, _ => exact e1
  | 2, _ => exact e2
theorem calls_of {H : Type} {enc : TypeId × Value → H} {W : World} {base : Nat} {v : Value} {d : DataW H} {p : List MemPlace} (hv : Value.okWide Try.prog W .any base 79 v) (h : DataW.Trod enc Try.prog W 0 (fun _ => true) true 79 v d p) :
    ∃ (A : Option Addr) (n c : Nat) (L : List CallD), v = .slice A n c ∧ (n = L.length ∧ Sl W A 3 CE L) := by
  have hl : leaves Try.prog 8 89 = some [4, 4, 87] := by decide +kernel
  obtain ⟨A, n, c, F, rfl, hA, h1, h2, h3, h4⟩ := open_slices Try.underlying79 hl (by kernel_rfl) (by decide) hv h
  obtain ⟨L, hn, hs, hb⟩ := arr_list (enc := CE) (Q := fun _ => True) hA (fun i hi => call_leaves rfl (h4 i hi))
  exact ⟨A, n, c, L, rfl, hn, hs⟩
end Go.Proofs.Ytdkgmgfadpnhbaa.Rf

