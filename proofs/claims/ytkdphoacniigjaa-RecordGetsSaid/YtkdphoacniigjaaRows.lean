/-
  No cell of these rows narrows 'for every input' (looked for: loops, veiled, ifaces, maps, wideKeys, modest, calm, conditions, laid).
  DERIVED. THE GIVEN ROWS OF THIS SEAT. 10 by the template 'for every input the law returns true; each argument reads behind the call as it read before'; 0 by the template 'total and deterministic' (their statements: YtkdphoacniigjaaTotals.lean).
  GIVEN WITH THE SEED: the statements are not yours to turn. If you find one false, say at which input.
  Laid BY PROGRAM, IN A SANDBOX (cutbox-rows.mjs): the forced cells as the released guide's own fill.sh prints them over the translation 2c54190b6cbada8e… (all of the seat's roots in one cut). By AI agents, Wed Nov 11 2026. No macro, syntax, notation, axiom, sorry.
-/
import Derived.Test.YtkdphoacniigjaaChecked
import GoSem.Claim
import GoSem.ClaimJoined
import GoSem.ClaimMapViews
import Derived.JoinedTies
import Derived.KernelRfl
namespace Go.Proofs.Ytkdphoacniigjaa
/- THE CELL 'sum', in the pinned program and in every row, IS THE sha256 OF THE DUMP (.gsa) THAT YtkdphoacniigjaaProg.lean LOADS. Nothing in Lean hashes anything: it is a label: what it is worth is what the hold of that sum in a sandbox is worth. -/
noncomputable def Try.pinned : Pinned := { name := "ytkdphoacniigjaa", sum := "2c54190b6cbada8e0509976e4a2767d92e2776c812b55439051d9fcf0a168723", checked := Try.checked }
namespace Rows
def none {H : Type} : Left H := { results := [], args := [] }

/-- 'yesteryearlaw05.PagePuts': WHATEVER THE INPUT: true; the input reads as it did. -/
def pagePutsSpec : ChangeSpec := { name := "pagePuts", fn := fun _ => fun
  | [d1, d2] => { results := [.lit (.bool true)], args := [d1, d2] }
  | _ => none }
def pagePutsRow : OpenClaim := { program := "ytkdphoacniigjaa", sum := "2c54190b6cbada8e0509976e4a2767d92e2776c812b55439051d9fcf0a168723", func := "yesteryear/yesteryearlaw05.PagePuts", spec := "pagePuts", unfollowed := true, recurses := true, apart := false }
def PagePutsSaid : Prop := pagePutsRow.holds Try.pinned (OpenSpec.ofChange pagePutsSpec)

/-- ITS FALSE NEIGHBOUR: 'it returns false'. Refute it at one input. -/
def pagePutsWrong : ChangeSpec := { name := "pagePuts", fn := fun _ => fun
  | [d1, d2] => { results := [.lit (.bool false)], args := [d1, d2] }
  | _ => none }
def PagePutsWrongFalsely : Prop := pagePutsRow.holds Try.pinned (OpenSpec.ofChange pagePutsWrong)

/-- 'yesteryearlaw05.PageGets': WHATEVER THE INPUT: true; the input reads as it did. -/
def pageGetsSpec : ChangeSpec := { name := "pageGets", fn := fun _ => fun
  | [d1, d2] => { results := [.lit (.bool true)], args := [d1, d2] }
  | _ => none }
def pageGetsRow : OpenClaim := { program := "ytkdphoacniigjaa", sum := "2c54190b6cbada8e0509976e4a2767d92e2776c812b55439051d9fcf0a168723", func := "yesteryear/yesteryearlaw05.PageGets", spec := "pageGets", unfollowed := true, recurses := true, apart := false }
def PageGetsSaid : Prop := pageGetsRow.holds Try.pinned (OpenSpec.ofChange pageGetsSpec)

/-- ITS FALSE NEIGHBOUR: 'it returns false'. Refute it at one input. -/
def pageGetsWrong : ChangeSpec := { name := "pageGets", fn := fun _ => fun
  | [d1, d2] => { results := [.lit (.bool false)], args := [d1, d2] }
  | _ => none }
def PageGetsWrongFalsely : Prop := pageGetsRow.holds Try.pinned (OpenSpec.ofChange pageGetsWrong)

/-- 'yesteryearlaw13.OpTells': WHATEVER THE INPUT: true; the input reads as it did. -/
def opTellsSpec : ChangeSpec := { name := "opTells", fn := fun _ => fun
  | [d1, d2] => { results := [.lit (.bool true)], args := [d1, d2] }
  | _ => none }
def opTellsRow : OpenClaim := { program := "ytkdphoacniigjaa", sum := "2c54190b6cbada8e0509976e4a2767d92e2776c812b55439051d9fcf0a168723", func := "yesteryear/yesteryearlaw13.OpTells", spec := "opTells", apart := false }
def OpTellsSaid : Prop := opTellsRow.holds Try.pinned (OpenSpec.ofChange opTellsSpec)

/-- ITS FALSE NEIGHBOUR: 'it returns false'. Refute it at one input. -/
def opTellsWrong : ChangeSpec := { name := "opTells", fn := fun _ => fun
  | [d1, d2] => { results := [.lit (.bool false)], args := [d1, d2] }
  | _ => none }
def OpTellsWrongFalsely : Prop := opTellsRow.holds Try.pinned (OpenSpec.ofChange opTellsWrong)

/-- 'yesteryearlaw13.OpGets': WHATEVER THE INPUT: true; the input reads as it did. -/
def opGetsSpec : ChangeSpec := { name := "opGets", fn := fun _ => fun
  | [d] => { results := [.lit (.bool true)], args := [d] }
  | _ => none }
def opGetsRow : OpenClaim := { program := "ytkdphoacniigjaa", sum := "2c54190b6cbada8e0509976e4a2767d92e2776c812b55439051d9fcf0a168723", func := "yesteryear/yesteryearlaw13.OpGets", spec := "opGets", apart := false }
def OpGetsSaid : Prop := opGetsRow.holds Try.pinned (OpenSpec.ofChange opGetsSpec)

/-- ITS FALSE NEIGHBOUR: 'it returns false'. Refute it at one input. -/
def opGetsWrong : ChangeSpec := { name := "opGets", fn := fun _ => fun
  | [d] => { results := [.lit (.bool false)], args := [d] }
  | _ => none }
def OpGetsWrongFalsely : Prop := opGetsRow.holds Try.pinned (OpenSpec.ofChange opGetsWrong)

/-- 'yesteryearlaw13.OpPuts': WHATEVER THE INPUT: true; the input reads as it did. -/
def opPutsSpec : ChangeSpec := { name := "opPuts", fn := fun _ => fun
  | [d] => { results := [.lit (.bool true)], args := [d] }
  | _ => none }
def opPutsRow : OpenClaim := { program := "ytkdphoacniigjaa", sum := "2c54190b6cbada8e0509976e4a2767d92e2776c812b55439051d9fcf0a168723", func := "yesteryear/yesteryearlaw13.OpPuts", spec := "opPuts", apart := false }
def OpPutsSaid : Prop := opPutsRow.holds Try.pinned (OpenSpec.ofChange opPutsSpec)

/-- ITS FALSE NEIGHBOUR: 'it returns false'. Refute it at one input. -/
def opPutsWrong : ChangeSpec := { name := "opPuts", fn := fun _ => fun
  | [d] => { results := [.lit (.bool false)], args := [d] }
  | _ => none }
def OpPutsWrongFalsely : Prop := opPutsRow.holds Try.pinned (OpenSpec.ofChange opPutsWrong)

/-- 'yesteryearlaw12.SuperGets': WHATEVER THE INPUT: true; the input reads as it did. -/
def superGetsSpec : ChangeSpec := { name := "superGets", fn := fun _ => fun
  | [d1, d2] => { results := [.lit (.bool true)], args := [d1, d2] }
  | _ => none }
def superGetsRow : OpenClaim := { program := "ytkdphoacniigjaa", sum := "2c54190b6cbada8e0509976e4a2767d92e2776c812b55439051d9fcf0a168723", func := "yesteryear/yesteryearlaw12.SuperGets", spec := "superGets", unfollowed := true, recurses := true, apart := false }
def SuperGetsSaid : Prop := superGetsRow.holds Try.pinned (OpenSpec.ofChange superGetsSpec)

/-- ITS FALSE NEIGHBOUR: 'it returns false'. Refute it at one input. -/
def superGetsWrong : ChangeSpec := { name := "superGets", fn := fun _ => fun
  | [d1, d2] => { results := [.lit (.bool false)], args := [d1, d2] }
  | _ => none }
def SuperGetsWrongFalsely : Prop := superGetsRow.holds Try.pinned (OpenSpec.ofChange superGetsWrong)

/-- 'yesteryearlaw12.SuperLater': WHATEVER THE INPUT: true; the input reads as it did. -/
def superLaterSpec : ChangeSpec := { name := "superLater", fn := fun _ => fun
  | [d1, d2] => { results := [.lit (.bool true)], args := [d1, d2] }
  | _ => none }
def superLaterRow : OpenClaim := { program := "ytkdphoacniigjaa", sum := "2c54190b6cbada8e0509976e4a2767d92e2776c812b55439051d9fcf0a168723", func := "yesteryear/yesteryearlaw12.SuperLater", spec := "superLater", unfollowed := true, recurses := true, apart := false }
def SuperLaterSaid : Prop := superLaterRow.holds Try.pinned (OpenSpec.ofChange superLaterSpec)

/-- ITS FALSE NEIGHBOUR: 'it returns false'. Refute it at one input. -/
def superLaterWrong : ChangeSpec := { name := "superLater", fn := fun _ => fun
  | [d1, d2] => { results := [.lit (.bool false)], args := [d1, d2] }
  | _ => none }
def SuperLaterWrongFalsely : Prop := superLaterRow.holds Try.pinned (OpenSpec.ofChange superLaterWrong)

/-- 'yesteryearlaw12.SuperPuts': WHATEVER THE INPUT: true; the input reads as it did. -/
def superPutsSpec : ChangeSpec := { name := "superPuts", fn := fun _ => fun
  | [d] => { results := [.lit (.bool true)], args := [d] }
  | _ => none }
def superPutsRow : OpenClaim := { program := "ytkdphoacniigjaa", sum := "2c54190b6cbada8e0509976e4a2767d92e2776c812b55439051d9fcf0a168723", func := "yesteryear/yesteryearlaw12.SuperPuts", spec := "superPuts", unfollowed := true, recurses := true, apart := false }
def SuperPutsSaid : Prop := superPutsRow.holds Try.pinned (OpenSpec.ofChange superPutsSpec)

/-- ITS FALSE NEIGHBOUR: 'it returns false'. Refute it at one input. -/
def superPutsWrong : ChangeSpec := { name := "superPuts", fn := fun _ => fun
  | [d] => { results := [.lit (.bool false)], args := [d] }
  | _ => none }
def SuperPutsWrongFalsely : Prop := superPutsRow.holds Try.pinned (OpenSpec.ofChange superPutsWrong)

/-- 'yesteryearlaw23.RecordGets': WHATEVER THE INPUT: true; the input reads as it did. -/
def recordGetsSpec : ChangeSpec := { name := "recordGets", fn := fun _ => fun
  | [d1, d2, d3] => { results := [.lit (.bool true)], args := [d1, d2, d3] }
  | _ => none }
def recordGetsRow : OpenClaim := { program := "ytkdphoacniigjaa", sum := "2c54190b6cbada8e0509976e4a2767d92e2776c812b55439051d9fcf0a168723", func := "yesteryear/yesteryearlaw23.RecordGets", spec := "recordGets", unfollowed := true, recurses := true, apart := false }
def RecordGetsSaid : Prop := recordGetsRow.holds Try.pinned (OpenSpec.ofChange recordGetsSpec)

/-- ITS FALSE NEIGHBOUR: 'it returns false'. Refute it at one input. -/
def recordGetsWrong : ChangeSpec := { name := "recordGets", fn := fun _ => fun
  | [d1, d2, d3] => { results := [.lit (.bool false)], args := [d1, d2, d3] }
  | _ => none }
def RecordGetsWrongFalsely : Prop := recordGetsRow.holds Try.pinned (OpenSpec.ofChange recordGetsWrong)

/-- 'yesteryearlaw23.RecordPuts': WHATEVER THE INPUT: true; the input reads as it did. -/
def recordPutsSpec : ChangeSpec := { name := "recordPuts", fn := fun _ => fun
  | [d] => { results := [.lit (.bool true)], args := [d] }
  | _ => none }
def recordPutsRow : OpenClaim := { program := "ytkdphoacniigjaa", sum := "2c54190b6cbada8e0509976e4a2767d92e2776c812b55439051d9fcf0a168723", func := "yesteryear/yesteryearlaw23.RecordPuts", spec := "recordPuts", unfollowed := true, recurses := true, apart := false }
def RecordPutsSaid : Prop := recordPutsRow.holds Try.pinned (OpenSpec.ofChange recordPutsSpec)

/-- ITS FALSE NEIGHBOUR: 'it returns false'. Refute it at one input. -/
def recordPutsWrong : ChangeSpec := { name := "recordPuts", fn := fun _ => fun
  | [d] => { results := [.lit (.bool false)], args := [d] }
  | _ => none }
def RecordPutsWrongFalsely : Prop := recordPutsRow.holds Try.pinned (OpenSpec.ofChange recordPutsWrong)

/- THE SECOND FORM. 'bulk': how many values and letters a reading holds, each counted each time it is reached (what is shared counts as often as it is met; a slice's spare places count too). A statement '..UptoSaid' is the law's where the arguments, and the package variables that the reading takes, are together of bulk at most 1048576: NARROWER than '..Said'. Prove '..Said' where nothing that the law and all that it calls make is longer than what came in: it says more and counts as full. Else prove '..UptoSaid'. A law counts once. -/
mutual
def uptoBulk {H : Type} : DataW H → Nat
  | .lit (.string bytes) => bytes.length + 1
  | .lit _ => 1
  | .nil => 1
  | .ptr d => uptoBulk d + 1
  | .slice elems spare => uptoBulkAll elems + uptoBulkAll spare + 1
  | .agg parts => uptoBulkAll parts + 1
  | .iface _ d => uptoBulk d + 1
  | .map entries => uptoBulkEntries entries + 1
  | .held _ => 1
def uptoBulkAll {H : Type} : List (DataW H) → Nat
  | [] => 0
  | d :: r => uptoBulk d + uptoBulkAll r
def uptoBulkEntries {H : Type} : List (Lit × DataW H) → Nat
  | [] => 0
  | x :: r => uptoBulkEntry x + uptoBulkEntries r
def uptoBulkEntry {H : Type} : Lit × DataW H → Nat
  | (.string bytes, d) => bytes.length + uptoBulk d + 1
  | (_, d) => uptoBulk d + 1
 end
def uptoSmall : (H : Type) → List (DataW H) → Bool := fun _ ds => decide (uptoBulkAll ds ≤ 1048576)
def OpenSpec.upto (s : _root_.Go.ChangeSpec) : _root_.Go.OpenSpec := { _root_.Go.OpenSpec.ofChange s with cond := some uptoSmall }

/-- 'yesteryearlaw05.PagePuts', WHERE WHAT IT READS IS OF BULK AT MOST 1048576: true; the input reads as it did. -/
def pagePutsUptoRow : OpenClaim := { program := "ytkdphoacniigjaa", sum := "2c54190b6cbada8e0509976e4a2767d92e2776c812b55439051d9fcf0a168723", func := "yesteryear/yesteryearlaw05.PagePuts", spec := "pagePuts", unfollowed := true, recurses := true, apart := false, narrowed := true }
def PagePutsUptoSaid : Prop := pagePutsUptoRow.holds Try.pinned (OpenSpec.upto pagePutsSpec)

/-- 'yesteryearlaw05.PageGets', WHERE WHAT IT READS IS OF BULK AT MOST 1048576: true; the input reads as it did. -/
def pageGetsUptoRow : OpenClaim := { program := "ytkdphoacniigjaa", sum := "2c54190b6cbada8e0509976e4a2767d92e2776c812b55439051d9fcf0a168723", func := "yesteryear/yesteryearlaw05.PageGets", spec := "pageGets", unfollowed := true, recurses := true, apart := false, narrowed := true }
def PageGetsUptoSaid : Prop := pageGetsUptoRow.holds Try.pinned (OpenSpec.upto pageGetsSpec)

/-- 'yesteryearlaw13.OpTells', WHERE WHAT IT READS IS OF BULK AT MOST 1048576: true; the input reads as it did. -/
def opTellsUptoRow : OpenClaim := { program := "ytkdphoacniigjaa", sum := "2c54190b6cbada8e0509976e4a2767d92e2776c812b55439051d9fcf0a168723", func := "yesteryear/yesteryearlaw13.OpTells", spec := "opTells", apart := false, narrowed := true }
def OpTellsUptoSaid : Prop := opTellsUptoRow.holds Try.pinned (OpenSpec.upto opTellsSpec)

/-- 'yesteryearlaw13.OpGets', WHERE WHAT IT READS IS OF BULK AT MOST 1048576: true; the input reads as it did. -/
def opGetsUptoRow : OpenClaim := { program := "ytkdphoacniigjaa", sum := "2c54190b6cbada8e0509976e4a2767d92e2776c812b55439051d9fcf0a168723", func := "yesteryear/yesteryearlaw13.OpGets", spec := "opGets", apart := false, narrowed := true }
def OpGetsUptoSaid : Prop := opGetsUptoRow.holds Try.pinned (OpenSpec.upto opGetsSpec)

/-- 'yesteryearlaw13.OpPuts', WHERE WHAT IT READS IS OF BULK AT MOST 1048576: true; the input reads as it did. -/
def opPutsUptoRow : OpenClaim := { program := "ytkdphoacniigjaa", sum := "2c54190b6cbada8e0509976e4a2767d92e2776c812b55439051d9fcf0a168723", func := "yesteryear/yesteryearlaw13.OpPuts", spec := "opPuts", apart := false, narrowed := true }
def OpPutsUptoSaid : Prop := opPutsUptoRow.holds Try.pinned (OpenSpec.upto opPutsSpec)

/-- 'yesteryearlaw12.SuperGets', WHERE WHAT IT READS IS OF BULK AT MOST 1048576: true; the input reads as it did. -/
def superGetsUptoRow : OpenClaim := { program := "ytkdphoacniigjaa", sum := "2c54190b6cbada8e0509976e4a2767d92e2776c812b55439051d9fcf0a168723", func := "yesteryear/yesteryearlaw12.SuperGets", spec := "superGets", unfollowed := true, recurses := true, apart := false, narrowed := true }
def SuperGetsUptoSaid : Prop := superGetsUptoRow.holds Try.pinned (OpenSpec.upto superGetsSpec)

/-- 'yesteryearlaw12.SuperLater', WHERE WHAT IT READS IS OF BULK AT MOST 1048576: true; the input reads as it did. -/
def superLaterUptoRow : OpenClaim := { program := "ytkdphoacniigjaa", sum := "2c54190b6cbada8e0509976e4a2767d92e2776c812b55439051d9fcf0a168723", func := "yesteryear/yesteryearlaw12.SuperLater", spec := "superLater", unfollowed := true, recurses := true, apart := false, narrowed := true }
def SuperLaterUptoSaid : Prop := superLaterUptoRow.holds Try.pinned (OpenSpec.upto superLaterSpec)

/-- 'yesteryearlaw12.SuperPuts', WHERE WHAT IT READS IS OF BULK AT MOST 1048576: true; the input reads as it did. -/
def superPutsUptoRow : OpenClaim := { program := "ytkdphoacniigjaa", sum := "2c54190b6cbada8e0509976e4a2767d92e2776c812b55439051d9fcf0a168723", func := "yesteryear/yesteryearlaw12.SuperPuts", spec := "superPuts", unfollowed := true, recurses := true, apart := false, narrowed := true }
def SuperPutsUptoSaid : Prop := superPutsUptoRow.holds Try.pinned (OpenSpec.upto superPutsSpec)

/-- 'yesteryearlaw23.RecordGets', WHERE WHAT IT READS IS OF BULK AT MOST 1048576: true; the input reads as it did. -/
def recordGetsUptoRow : OpenClaim := { program := "ytkdphoacniigjaa", sum := "2c54190b6cbada8e0509976e4a2767d92e2776c812b55439051d9fcf0a168723", func := "yesteryear/yesteryearlaw23.RecordGets", spec := "recordGets", unfollowed := true, recurses := true, apart := false, narrowed := true }
def RecordGetsUptoSaid : Prop := recordGetsUptoRow.holds Try.pinned (OpenSpec.upto recordGetsSpec)

/-- 'yesteryearlaw23.RecordPuts', WHERE WHAT IT READS IS OF BULK AT MOST 1048576: true; the input reads as it did. -/
def recordPutsUptoRow : OpenClaim := { program := "ytkdphoacniigjaa", sum := "2c54190b6cbada8e0509976e4a2767d92e2776c812b55439051d9fcf0a168723", func := "yesteryear/yesteryearlaw23.RecordPuts", spec := "recordPuts", unfollowed := true, recurses := true, apart := false, narrowed := true }
def RecordPutsUptoSaid : Prop := recordPutsUptoRow.holds Try.pinned (OpenSpec.upto recordPutsSpec)

end Rows
end Go.Proofs.Ytkdphoacniigjaa
