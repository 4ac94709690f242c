/-
  No cell of these rows narrows 'for every input' (looked for: loops, veiled, ifaces, maps, wideKeys, modest, calm, conditions, laid).
  DERIVED. THE GIVEN ROWS OF THIS SEAT. 11 by the template 'for every input the law returns true; each argument reads behind the call as it read before'; 0 by the template 'total and deterministic' (their statements: YtfdnpdolpfnlgaaTotals.lean).
  GIVEN WITH THE SEED: the statements are not yours to turn. If you find one false, say at which input.
  Laid BY PROGRAM, IN A SANDBOX (cutbox-rows.mjs): the forced cells as the released guide's own fill.sh prints them over the translation e8eba41d9064a817… (all of the seat's roots in one cut). By AI agents, Wed Nov 11 2026. No macro, syntax, notation, axiom, sorry.
-/
import Derived.Test.YtfdnpdolpfnlgaaChecked
import GoSem.Claim
import GoSem.ClaimJoined
import GoSem.ClaimMapViews
import Derived.JoinedTies
import Derived.KernelRfl
namespace Go.Proofs.Ytfdnpdolpfnlgaa
/- THE CELL 'sum', in the pinned program and in every row, IS THE sha256 OF THE DUMP (.gsa) THAT YtfdnpdolpfnlgaaProg.lean LOADS. Nothing in Lean hashes anything: it is a label: what it is worth is what the hold of that sum in a sandbox is worth. -/
noncomputable def Try.pinned : Pinned := { name := "ytfdnpdolpfnlgaa", sum := "e8eba41d9064a81723a5e2d0380895b5b0e7ad263b2c7f45202662e25d0d243c", checked := Try.checked }
namespace Rows
def none {H : Type} : Left H := { results := [], args := [] }

/-- 'yesteryearlaw26.NodeSplits': WHATEVER THE INPUT: true; the input reads as it did. -/
def nodeSplitsSpec : ChangeSpec := { name := "nodeSplits", fn := fun _ => fun
  | [d1, d2] => { results := [.lit (.bool true)], args := [d1, d2] }
  | _ => none }
def nodeSplitsRow : OpenClaim := { program := "ytfdnpdolpfnlgaa", sum := "e8eba41d9064a81723a5e2d0380895b5b0e7ad263b2c7f45202662e25d0d243c", func := "yesteryear/yesteryearlaw26.NodeSplits", spec := "nodeSplits", plainKeys := false, apart := false }
def NodeSplitsSaid : Prop := nodeSplitsRow.holds Try.pinned (OpenSpec.ofChange nodeSplitsSpec)

/-- ITS FALSE NEIGHBOUR: 'it returns false'. Refute it at one input. -/
def nodeSplitsWrong : ChangeSpec := { name := "nodeSplits", fn := fun _ => fun
  | [d1, d2] => { results := [.lit (.bool false)], args := [d1, d2] }
  | _ => none }
def NodeSplitsWrongFalsely : Prop := nodeSplitsRow.holds Try.pinned (OpenSpec.ofChange nodeSplitsWrong)

/-- 'yesteryearlaw20.TimesTells': WHATEVER THE INPUT: true; the input reads as it did. -/
def timesTellsSpec : ChangeSpec := { name := "timesTells", fn := fun _ => fun
  | [d1, d2, d3] => { results := [.lit (.bool true)], args := [d1, d2, d3] }
  | _ => none }
def timesTellsRow : OpenClaim := { program := "ytfdnpdolpfnlgaa", sum := "e8eba41d9064a81723a5e2d0380895b5b0e7ad263b2c7f45202662e25d0d243c", func := "yesteryear/yesteryearlaw20.TimesTells", spec := "timesTells", unfollowed := true, recurses := true, plainKeys := false, apart := false }
def TimesTellsSaid : Prop := timesTellsRow.holds Try.pinned (OpenSpec.ofChange timesTellsSpec)

/-- ITS FALSE NEIGHBOUR: 'it returns false'. Refute it at one input. -/
def timesTellsWrong : ChangeSpec := { name := "timesTells", fn := fun _ => fun
  | [d1, d2, d3] => { results := [.lit (.bool false)], args := [d1, d2, d3] }
  | _ => none }
def TimesTellsWrongFalsely : Prop := timesTellsRow.holds Try.pinned (OpenSpec.ofChange timesTellsWrong)

/-- 'yesteryearlaw20.TimesKeep': WHATEVER THE INPUT: true; the input reads as it did. -/
def timesKeepSpec : ChangeSpec := { name := "timesKeep", fn := fun _ => fun
  | [d1, d2, d3] => { results := [.lit (.bool true)], args := [d1, d2, d3] }
  | _ => none }
def timesKeepRow : OpenClaim := { program := "ytfdnpdolpfnlgaa", sum := "e8eba41d9064a81723a5e2d0380895b5b0e7ad263b2c7f45202662e25d0d243c", func := "yesteryear/yesteryearlaw20.TimesKeep", spec := "timesKeep", unfollowed := true, recurses := true, plainKeys := false, apart := false }
def TimesKeepSaid : Prop := timesKeepRow.holds Try.pinned (OpenSpec.ofChange timesKeepSpec)

/-- ITS FALSE NEIGHBOUR: 'it returns false'. Refute it at one input. -/
def timesKeepWrong : ChangeSpec := { name := "timesKeep", fn := fun _ => fun
  | [d1, d2, d3] => { results := [.lit (.bool false)], args := [d1, d2, d3] }
  | _ => none }
def TimesKeepWrongFalsely : Prop := timesKeepRow.holds Try.pinned (OpenSpec.ofChange timesKeepWrong)

/-- 'yesteryearlaw27.VolsChange': WHATEVER THE INPUT: true; the input reads as it did. -/
def volsChangeSpec : ChangeSpec := { name := "volsChange", fn := fun _ => fun
  | [d1, d2, d3] => { results := [.lit (.bool true)], args := [d1, d2, d3] }
  | _ => none }
def volsChangeRow : OpenClaim := { program := "ytfdnpdolpfnlgaa", sum := "e8eba41d9064a81723a5e2d0380895b5b0e7ad263b2c7f45202662e25d0d243c", func := "yesteryear/yesteryearlaw27.VolsChange", spec := "volsChange", unfollowed := true, recurses := true, plainKeys := false, apart := false }
def VolsChangeSaid : Prop := volsChangeRow.holds Try.pinned (OpenSpec.ofChange volsChangeSpec)

/-- ITS FALSE NEIGHBOUR: 'it returns false'. Refute it at one input. -/
def volsChangeWrong : ChangeSpec := { name := "volsChange", fn := fun _ => fun
  | [d1, d2, d3] => { results := [.lit (.bool false)], args := [d1, d2, d3] }
  | _ => none }
def VolsChangeWrongFalsely : Prop := volsChangeRow.holds Try.pinned (OpenSpec.ofChange volsChangeWrong)

/-- 'yesteryearlaw28.GroupsChange': WHATEVER THE INPUT: true; the input reads as it did. -/
def groupsChangeSpec : ChangeSpec := { name := "groupsChange", fn := fun _ => fun
  | [d1, d2, d3] => { results := [.lit (.bool true)], args := [d1, d2, d3] }
  | _ => none }
def groupsChangeRow : OpenClaim := { program := "ytfdnpdolpfnlgaa", sum := "e8eba41d9064a81723a5e2d0380895b5b0e7ad263b2c7f45202662e25d0d243c", func := "yesteryear/yesteryearlaw28.GroupsChange", spec := "groupsChange", unfollowed := true, recurses := true, plainKeys := false, apart := false }
def GroupsChangeSaid : Prop := groupsChangeRow.holds Try.pinned (OpenSpec.ofChange groupsChangeSpec)

/-- ITS FALSE NEIGHBOUR: 'it returns false'. Refute it at one input. -/
def groupsChangeWrong : ChangeSpec := { name := "groupsChange", fn := fun _ => fun
  | [d1, d2, d3] => { results := [.lit (.bool false)], args := [d1, d2, d3] }
  | _ => none }
def GroupsChangeWrongFalsely : Prop := groupsChangeRow.holds Try.pinned (OpenSpec.ofChange groupsChangeWrong)

/-- 'yesteryearlaw28.GroupsTells': WHATEVER THE INPUT: true; the input reads as it did. -/
def groupsTellsSpec : ChangeSpec := { name := "groupsTells", fn := fun _ => fun
  | [d1, d2, d3] => { results := [.lit (.bool true)], args := [d1, d2, d3] }
  | _ => none }
def groupsTellsRow : OpenClaim := { program := "ytfdnpdolpfnlgaa", sum := "e8eba41d9064a81723a5e2d0380895b5b0e7ad263b2c7f45202662e25d0d243c", func := "yesteryear/yesteryearlaw28.GroupsTells", spec := "groupsTells", unfollowed := true, recurses := true, plainKeys := false, apart := false }
def GroupsTellsSaid : Prop := groupsTellsRow.holds Try.pinned (OpenSpec.ofChange groupsTellsSpec)

/-- ITS FALSE NEIGHBOUR: 'it returns false'. Refute it at one input. -/
def groupsTellsWrong : ChangeSpec := { name := "groupsTells", fn := fun _ => fun
  | [d1, d2, d3] => { results := [.lit (.bool false)], args := [d1, d2, d3] }
  | _ => none }
def GroupsTellsWrongFalsely : Prop := groupsTellsRow.holds Try.pinned (OpenSpec.ofChange groupsTellsWrong)

/-- 'yesteryearlaw16.DueOrder': WHATEVER THE INPUT: true; the input reads as it did. -/
def dueOrderSpec : ChangeSpec := { name := "dueOrder", fn := fun _ => fun
  | [d1, d2] => { results := [.lit (.bool true)], args := [d1, d2] }
  | _ => none }
def dueOrderRow : OpenClaim := { program := "ytfdnpdolpfnlgaa", sum := "e8eba41d9064a81723a5e2d0380895b5b0e7ad263b2c7f45202662e25d0d243c", func := "yesteryear/yesteryearlaw16.DueOrder", spec := "dueOrder", unfollowed := true, recurses := true, plainKeys := false, apart := false }
def DueOrderSaid : Prop := dueOrderRow.holds Try.pinned (OpenSpec.ofChange dueOrderSpec)

/-- ITS FALSE NEIGHBOUR: 'it returns false'. Refute it at one input. -/
def dueOrderWrong : ChangeSpec := { name := "dueOrder", fn := fun _ => fun
  | [d1, d2] => { results := [.lit (.bool false)], args := [d1, d2] }
  | _ => none }
def DueOrderWrongFalsely : Prop := dueOrderRow.holds Try.pinned (OpenSpec.ofChange dueOrderWrong)

/-- 'yesteryearlaw14.FreePlays': WHATEVER THE INPUT: true; the input reads as it did. -/
def freePlaysSpec : ChangeSpec := { name := "freePlays", fn := fun _ => fun
  | [d1, d2] => { results := [.lit (.bool true)], args := [d1, d2] }
  | _ => none }
def freePlaysRow : OpenClaim := { program := "ytfdnpdolpfnlgaa", sum := "e8eba41d9064a81723a5e2d0380895b5b0e7ad263b2c7f45202662e25d0d243c", func := "yesteryear/yesteryearlaw14.FreePlays", spec := "freePlays", unfollowed := true, recurses := true, plainKeys := false, apart := false }
def FreePlaysSaid : Prop := freePlaysRow.holds Try.pinned (OpenSpec.ofChange freePlaysSpec)

/-- ITS FALSE NEIGHBOUR: 'it returns false'. Refute it at one input. -/
def freePlaysWrong : ChangeSpec := { name := "freePlays", fn := fun _ => fun
  | [d1, d2] => { results := [.lit (.bool false)], args := [d1, d2] }
  | _ => none }
def FreePlaysWrongFalsely : Prop := freePlaysRow.holds Try.pinned (OpenSpec.ofChange freePlaysWrong)

/-- 'yesteryearlaw21.PointsNeeded': WHATEVER THE INPUT: true; the input reads as it did. -/
def pointsNeededSpec : ChangeSpec := { name := "pointsNeeded", fn := fun _ => fun
  | [d1, d2, d3] => { results := [.lit (.bool true)], args := [d1, d2, d3] }
  | _ => none }
def pointsNeededRow : OpenClaim := { program := "ytfdnpdolpfnlgaa", sum := "e8eba41d9064a81723a5e2d0380895b5b0e7ad263b2c7f45202662e25d0d243c", func := "yesteryear/yesteryearlaw21.PointsNeeded", spec := "pointsNeeded", recurses := true, plainKeys := false, apart := false }
def PointsNeededSaid : Prop := pointsNeededRow.holds Try.pinned (OpenSpec.ofChange pointsNeededSpec)

/-- ITS FALSE NEIGHBOUR: 'it returns false'. Refute it at one input. -/
def pointsNeededWrong : ChangeSpec := { name := "pointsNeeded", fn := fun _ => fun
  | [d1, d2, d3] => { results := [.lit (.bool false)], args := [d1, d2, d3] }
  | _ => none }
def PointsNeededWrongFalsely : Prop := pointsNeededRow.holds Try.pinned (OpenSpec.ofChange pointsNeededWrong)

/-- 'yesteryearlaw24.PolicyRetains': WHATEVER THE INPUT: true; the input reads as it did. -/
def policyRetainsSpec : ChangeSpec := { name := "policyRetains", fn := fun _ => fun
  | [d1, d2, d3] => { results := [.lit (.bool true)], args := [d1, d2, d3] }
  | _ => none }
def policyRetainsRow : OpenClaim := { program := "ytfdnpdolpfnlgaa", sum := "e8eba41d9064a81723a5e2d0380895b5b0e7ad263b2c7f45202662e25d0d243c", func := "yesteryear/yesteryearlaw24.PolicyRetains", spec := "policyRetains", inPlace := ["math/bits.Sub64"], unfollowed := true, recurses := true, plainKeys := false, apart := false }
def PolicyRetainsSaid : Prop := policyRetainsRow.holds Try.pinned (OpenSpec.ofChange policyRetainsSpec)

/-- ITS FALSE NEIGHBOUR: 'it returns false'. Refute it at one input. -/
def policyRetainsWrong : ChangeSpec := { name := "policyRetains", fn := fun _ => fun
  | [d1, d2, d3] => { results := [.lit (.bool false)], args := [d1, d2, d3] }
  | _ => none }
def PolicyRetainsWrongFalsely : Prop := policyRetainsRow.holds Try.pinned (OpenSpec.ofChange policyRetainsWrong)

/-- 'yesteryearlaw24.PolicyLeaves': WHATEVER THE INPUT: true; the input reads as it did. -/
def policyLeavesSpec : ChangeSpec := { name := "policyLeaves", fn := fun _ => fun
  | [d1, d2, d3] => { results := [.lit (.bool true)], args := [d1, d2, d3] }
  | _ => none }
def policyLeavesRow : OpenClaim := { program := "ytfdnpdolpfnlgaa", sum := "e8eba41d9064a81723a5e2d0380895b5b0e7ad263b2c7f45202662e25d0d243c", func := "yesteryear/yesteryearlaw24.PolicyLeaves", spec := "policyLeaves", inPlace := ["math/bits.Sub64"], unfollowed := true, recurses := true, plainKeys := false, apart := false }
def PolicyLeavesSaid : Prop := policyLeavesRow.holds Try.pinned (OpenSpec.ofChange policyLeavesSpec)

/-- ITS FALSE NEIGHBOUR: 'it returns false'. Refute it at one input. -/
def policyLeavesWrong : ChangeSpec := { name := "policyLeaves", fn := fun _ => fun
  | [d1, d2, d3] => { results := [.lit (.bool false)], args := [d1, d2, d3] }
  | _ => none }
def PolicyLeavesWrongFalsely : Prop := policyLeavesRow.holds Try.pinned (OpenSpec.ofChange policyLeavesWrong)

/- THE SECOND FORM. 'bulk': how many values and letters a reading holds, each counted each time it is reached (what is shared counts as often as it is met; a slice's spare places count too). A statement '..UptoSaid' is the law's where the arguments, and the package variables that the reading takes, are together of bulk at most 1048576: NARROWER than '..Said'. Prove '..Said' where nothing that the law and all that it calls make is longer than what came in: it says more and counts as full. Else prove '..UptoSaid'. A law counts once. -/
mutual
def uptoBulk {H : Type} : DataW H → Nat
  | .lit (.string bytes) => bytes.length + 1
  | .lit _ => 1
  | .nil => 1
  | .ptr d => uptoBulk d + 1
  | .slice elems spare => uptoBulkAll elems + uptoBulkAll spare + 1
  | .agg parts => uptoBulkAll parts + 1
  | .iface _ d => uptoBulk d + 1
  | .map entries => uptoBulkEntries entries + 1
  | .held _ => 1
def uptoBulkAll {H : Type} : List (DataW H) → Nat
  | [] => 0
  | d :: r => uptoBulk d + uptoBulkAll r
def uptoBulkEntries {H : Type} : List (Lit × DataW H) → Nat
  | [] => 0
  | x :: r => uptoBulkEntry x + uptoBulkEntries r
def uptoBulkEntry {H : Type} : Lit × DataW H → Nat
  | (.string bytes, d) => bytes.length + uptoBulk d + 1
  | (_, d) => uptoBulk d + 1
 end
def uptoSmall : (H : Type) → List (DataW H) → Bool := fun _ ds => decide (uptoBulkAll ds ≤ 1048576)
def OpenSpec.upto (s : _root_.Go.ChangeSpec) : _root_.Go.OpenSpec := { _root_.Go.OpenSpec.ofChange s with cond := some uptoSmall }

/-- 'yesteryearlaw26.NodeSplits', WHERE WHAT IT READS IS OF BULK AT MOST 1048576: true; the input reads as it did. -/
def nodeSplitsUptoRow : OpenClaim := { program := "ytfdnpdolpfnlgaa", sum := "e8eba41d9064a81723a5e2d0380895b5b0e7ad263b2c7f45202662e25d0d243c", func := "yesteryear/yesteryearlaw26.NodeSplits", spec := "nodeSplits", plainKeys := false, apart := false, narrowed := true }
def NodeSplitsUptoSaid : Prop := nodeSplitsUptoRow.holds Try.pinned (OpenSpec.upto nodeSplitsSpec)

/-- 'yesteryearlaw20.TimesTells', WHERE WHAT IT READS IS OF BULK AT MOST 1048576: true; the input reads as it did. -/
def timesTellsUptoRow : OpenClaim := { program := "ytfdnpdolpfnlgaa", sum := "e8eba41d9064a81723a5e2d0380895b5b0e7ad263b2c7f45202662e25d0d243c", func := "yesteryear/yesteryearlaw20.TimesTells", spec := "timesTells", unfollowed := true, recurses := true, plainKeys := false, apart := false, narrowed := true }
def TimesTellsUptoSaid : Prop := timesTellsUptoRow.holds Try.pinned (OpenSpec.upto timesTellsSpec)

/-- 'yesteryearlaw20.TimesKeep', WHERE WHAT IT READS IS OF BULK AT MOST 1048576: true; the input reads as it did. -/
def timesKeepUptoRow : OpenClaim := { program := "ytfdnpdolpfnlgaa", sum := "e8eba41d9064a81723a5e2d0380895b5b0e7ad263b2c7f45202662e25d0d243c", func := "yesteryear/yesteryearlaw20.TimesKeep", spec := "timesKeep", unfollowed := true, recurses := true, plainKeys := false, apart := false, narrowed := true }
def TimesKeepUptoSaid : Prop := timesKeepUptoRow.holds Try.pinned (OpenSpec.upto timesKeepSpec)

/-- 'yesteryearlaw27.VolsChange', WHERE WHAT IT READS IS OF BULK AT MOST 1048576: true; the input reads as it did. -/
def volsChangeUptoRow : OpenClaim := { program := "ytfdnpdolpfnlgaa", sum := "e8eba41d9064a81723a5e2d0380895b5b0e7ad263b2c7f45202662e25d0d243c", func := "yesteryear/yesteryearlaw27.VolsChange", spec := "volsChange", unfollowed := true, recurses := true, plainKeys := false, apart := false, narrowed := true }
def VolsChangeUptoSaid : Prop := volsChangeUptoRow.holds Try.pinned (OpenSpec.upto volsChangeSpec)

/-- 'yesteryearlaw28.GroupsChange', WHERE WHAT IT READS IS OF BULK AT MOST 1048576: true; the input reads as it did. -/
def groupsChangeUptoRow : OpenClaim := { program := "ytfdnpdolpfnlgaa", sum := "e8eba41d9064a81723a5e2d0380895b5b0e7ad263b2c7f45202662e25d0d243c", func := "yesteryear/yesteryearlaw28.GroupsChange", spec := "groupsChange", unfollowed := true, recurses := true, plainKeys := false, apart := false, narrowed := true }
def GroupsChangeUptoSaid : Prop := groupsChangeUptoRow.holds Try.pinned (OpenSpec.upto groupsChangeSpec)

/-- 'yesteryearlaw28.GroupsTells', WHERE WHAT IT READS IS OF BULK AT MOST 1048576: true; the input reads as it did. -/
def groupsTellsUptoRow : OpenClaim := { program := "ytfdnpdolpfnlgaa", sum := "e8eba41d9064a81723a5e2d0380895b5b0e7ad263b2c7f45202662e25d0d243c", func := "yesteryear/yesteryearlaw28.GroupsTells", spec := "groupsTells", unfollowed := true, recurses := true, plainKeys := false, apart := false, narrowed := true }
def GroupsTellsUptoSaid : Prop := groupsTellsUptoRow.holds Try.pinned (OpenSpec.upto groupsTellsSpec)

/-- 'yesteryearlaw16.DueOrder', WHERE WHAT IT READS IS OF BULK AT MOST 1048576: true; the input reads as it did. -/
def dueOrderUptoRow : OpenClaim := { program := "ytfdnpdolpfnlgaa", sum := "e8eba41d9064a81723a5e2d0380895b5b0e7ad263b2c7f45202662e25d0d243c", func := "yesteryear/yesteryearlaw16.DueOrder", spec := "dueOrder", unfollowed := true, recurses := true, plainKeys := false, apart := false, narrowed := true }
def DueOrderUptoSaid : Prop := dueOrderUptoRow.holds Try.pinned (OpenSpec.upto dueOrderSpec)

/-- 'yesteryearlaw14.FreePlays', WHERE WHAT IT READS IS OF BULK AT MOST 1048576: true; the input reads as it did. -/
def freePlaysUptoRow : OpenClaim := { program := "ytfdnpdolpfnlgaa", sum := "e8eba41d9064a81723a5e2d0380895b5b0e7ad263b2c7f45202662e25d0d243c", func := "yesteryear/yesteryearlaw14.FreePlays", spec := "freePlays", unfollowed := true, recurses := true, plainKeys := false, apart := false, narrowed := true }
def FreePlaysUptoSaid : Prop := freePlaysUptoRow.holds Try.pinned (OpenSpec.upto freePlaysSpec)

/-- 'yesteryearlaw21.PointsNeeded', WHERE WHAT IT READS IS OF BULK AT MOST 1048576: true; the input reads as it did. -/
def pointsNeededUptoRow : OpenClaim := { program := "ytfdnpdolpfnlgaa", sum := "e8eba41d9064a81723a5e2d0380895b5b0e7ad263b2c7f45202662e25d0d243c", func := "yesteryear/yesteryearlaw21.PointsNeeded", spec := "pointsNeeded", recurses := true, plainKeys := false, apart := false, narrowed := true }
def PointsNeededUptoSaid : Prop := pointsNeededUptoRow.holds Try.pinned (OpenSpec.upto pointsNeededSpec)

/-- 'yesteryearlaw24.PolicyRetains', WHERE WHAT IT READS IS OF BULK AT MOST 1048576: true; the input reads as it did. -/
def policyRetainsUptoRow : OpenClaim := { program := "ytfdnpdolpfnlgaa", sum := "e8eba41d9064a81723a5e2d0380895b5b0e7ad263b2c7f45202662e25d0d243c", func := "yesteryear/yesteryearlaw24.PolicyRetains", spec := "policyRetains", inPlace := ["math/bits.Sub64"], unfollowed := true, recurses := true, plainKeys := false, apart := false, narrowed := true }
def PolicyRetainsUptoSaid : Prop := policyRetainsUptoRow.holds Try.pinned (OpenSpec.upto policyRetainsSpec)

/-- 'yesteryearlaw24.PolicyLeaves', WHERE WHAT IT READS IS OF BULK AT MOST 1048576: true; the input reads as it did. -/
def policyLeavesUptoRow : OpenClaim := { program := "ytfdnpdolpfnlgaa", sum := "e8eba41d9064a81723a5e2d0380895b5b0e7ad263b2c7f45202662e25d0d243c", func := "yesteryear/yesteryearlaw24.PolicyLeaves", spec := "policyLeaves", inPlace := ["math/bits.Sub64"], unfollowed := true, recurses := true, plainKeys := false, apart := false, narrowed := true }
def PolicyLeavesUptoSaid : Prop := policyLeavesUptoRow.holds Try.pinned (OpenSpec.upto policyLeavesSpec)

end Rows
end Go.Proofs.Ytfdnpdolpfnlgaa
