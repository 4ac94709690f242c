/- Late writes that may be are done. -/
import Derived.Test.YtokhfkbbhdaghaaGreatDk2
namespace Go.Proofs.YtokhfkbbhdaghaaGreat.Dk
open Go.RowKit Mem Gx Bytes
set_option linter.unusedVariables false
set_option linter.unusedSimpArgs false
set_option maxRecDepth 100000
set_option maxHeartbeats 1000000
theorem rds_ofA {w : World} : ∀ {l : List Fact}, (∀ φ, φ ∈ l → Rd1 w φ) → Rds w l
  | [], _ => .nil
  | φ :: l, h => .cons (h φ (.head _)) (rds_ofA fun ψ hψ => h ψ (.tail _ hψ))
theorem rds_ofK {E : List Nat} {w0 w : World} {O R : List Fact} (h : Kn E w0 w O R) : Rds w R := rds_ofA fun φ hφ => h.rR hφ
abbrev WrD.c (x : WrD) : Wr := (x.a, x.d.L)
end Go.Proofs.YtokhfkbbhdaghaaGreat.Dk
