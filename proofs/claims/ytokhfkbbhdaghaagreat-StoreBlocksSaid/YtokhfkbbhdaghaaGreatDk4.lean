/- A disk: Flush, Crash, Write. -/
import Derived.Test.YtokhfkbbhdaghaaGreatDk3
namespace Go.Proofs.YtokhfkbbhdaghaaGreat.Dk
open Go.RowKit Mem Gx Bytes
set_option linter.unusedVariables false
set_option linter.unusedSimpArgs false
set_option maxRecDepth 100000
set_option maxHeartbeats 1000000
structure DkOk (S : List SecD) (W : List WrD) : Prop where
  s : ∀ d ∈ S, d.Ok
  w : ∀ x ∈ W, x.d.Ok ∧ x.a < S.length
  n : S.length ≤ 4096
def BoE : Bool → Nat → Value := fun x _ => .bool x
end Go.Proofs.YtokhfkbbhdaghaaGreat.Dk
