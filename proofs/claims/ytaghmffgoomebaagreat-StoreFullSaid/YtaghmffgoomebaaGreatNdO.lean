/- The law NodeLeaves: what a leaf's entries become, as lists. -/
import Derived.Test.YtaghmffgoomebaaGreatNdN
namespace Go.Proofs.YtaghmffgoomebaaGreat.Nd
open Go.RowKit Mem Gx
set_option linter.unusedVariables false
set_option linter.unusedSimpArgs false
theorem key_eq {x y : KeyD} (h1 : ¬ klt x y) (h2 : ¬ klt y x) : x = y := by
  unfold klt at h1 h2
  exact key_ext (by omega) (by omega) (by omega)
theorem klt_irr {x : KeyD} : ¬ klt x x := by unfold klt; omega
theorem klt_asym {x y : KeyD} (h : klt x y) : ¬ klt y x := by unfold klt at *; omega
/-- A row's first entries, and one more. -/
def ins (W : List EntD) (p : Nat) (e : EntD) (i : Nat) : List EntD := if p < i then W.take p ++ [e] ++ (W.take i).drop p else W.take i
end Go.Proofs.YtaghmffgoomebaaGreat.Nd
