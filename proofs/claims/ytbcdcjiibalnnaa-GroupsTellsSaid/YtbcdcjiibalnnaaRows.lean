/-
  No cell of these rows narrows 'for every input' (looked for: loops, veiled, ifaces, maps, wideKeys, modest, calm, conditions, laid).
  DERIVED. THE GIVEN ROWS OF THIS SEAT. 3 by the template 'for every input the law returns true; each argument reads behind the call as it read before'; 0 by the template 'total and deterministic' (their statements: YtbcdcjiibalnnaaTotals.lean).
  GIVEN WITH THE SEED: the statements are not yours to turn. If you find one false, say at which input.
  Laid BY PROGRAM, IN A SANDBOX (cutbox-rows.mjs): the forced cells as the released guide's own fill.sh prints them over the translation d5611171e412f2cc… (all of the seat's roots in one cut). By AI agents, Wed Nov 11 2026. No macro, syntax, notation, axiom, sorry.
-/
import Derived.Test.YtbcdcjiibalnnaaChecked
import GoSem.Claim
import GoSem.ClaimJoined
import GoSem.ClaimMapViews
import Derived.JoinedTies
import Derived.KernelRfl
namespace Go.Proofs.Ytbcdcjiibalnnaa
/- THE CELL 'sum', in the pinned program and in every row, IS THE sha256 OF THE DUMP (.gsa) THAT YtbcdcjiibalnnaaProg.lean LOADS. Nothing in Lean hashes anything: it is a label: what it is worth is what the hold of that sum in a sandbox is worth. -/
noncomputable def Try.pinned : Pinned := { name := "ytbcdcjiibalnnaa", sum := "d5611171e412f2cc7435c143e9fa98b7f5376e8186aa3174d30137f30f4aa9ea", checked := Try.checked }
namespace Rows
def none {H : Type} : Left H := { results := [], args := [] }

/-- 'yesteryearlaw27.VolsChange': WHATEVER THE INPUT: true; the input reads as it did. -/
def volsChangeSpec : ChangeSpec := { name := "volsChange", fn := fun _ => fun
  | [d1, d2, d3] => { results := [.lit (.bool true)], args := [d1, d2, d3] }
  | _ => none }
def volsChangeRow : OpenClaim := { program := "ytbcdcjiibalnnaa", sum := "d5611171e412f2cc7435c143e9fa98b7f5376e8186aa3174d30137f30f4aa9ea", func := "yesteryear/yesteryearlaw27.VolsChange", spec := "volsChange", unfollowed := true, recurses := true, apart := false }
def VolsChangeSaid : Prop := volsChangeRow.holds Try.pinned (OpenSpec.ofChange volsChangeSpec)

/-- ITS FALSE NEIGHBOUR: 'it returns false'. Refute it at one input. -/
def volsChangeWrong : ChangeSpec := { name := "volsChange", fn := fun _ => fun
  | [d1, d2, d3] => { results := [.lit (.bool false)], args := [d1, d2, d3] }
  | _ => none }
def VolsChangeWrongFalsely : Prop := volsChangeRow.holds Try.pinned (OpenSpec.ofChange volsChangeWrong)

/-- 'yesteryearlaw28.GroupsChange': WHATEVER THE INPUT: true; the input reads as it did. -/
def groupsChangeSpec : ChangeSpec := { name := "groupsChange", fn := fun _ => fun
  | [d1, d2, d3] => { results := [.lit (.bool true)], args := [d1, d2, d3] }
  | _ => none }
def groupsChangeRow : OpenClaim := { program := "ytbcdcjiibalnnaa", sum := "d5611171e412f2cc7435c143e9fa98b7f5376e8186aa3174d30137f30f4aa9ea", func := "yesteryear/yesteryearlaw28.GroupsChange", spec := "groupsChange", unfollowed := true, recurses := true, apart := false }
def GroupsChangeSaid : Prop := groupsChangeRow.holds Try.pinned (OpenSpec.ofChange groupsChangeSpec)

/-- ITS FALSE NEIGHBOUR: 'it returns false'. Refute it at one input. -/
def groupsChangeWrong : ChangeSpec := { name := "groupsChange", fn := fun _ => fun
  | [d1, d2, d3] => { results := [.lit (.bool false)], args := [d1, d2, d3] }
  | _ => none }
def GroupsChangeWrongFalsely : Prop := groupsChangeRow.holds Try.pinned (OpenSpec.ofChange groupsChangeWrong)

/-- 'yesteryearlaw28.GroupsTells': WHATEVER THE INPUT: true; the input reads as it did. -/
def groupsTellsSpec : ChangeSpec := { name := "groupsTells", fn := fun _ => fun
  | [d1, d2, d3] => { results := [.lit (.bool true)], args := [d1, d2, d3] }
  | _ => none }
def groupsTellsRow : OpenClaim := { program := "ytbcdcjiibalnnaa", sum := "d5611171e412f2cc7435c143e9fa98b7f5376e8186aa3174d30137f30f4aa9ea", func := "yesteryear/yesteryearlaw28.GroupsTells", spec := "groupsTells", unfollowed := true, recurses := true, apart := false }
def GroupsTellsSaid : Prop := groupsTellsRow.holds Try.pinned (OpenSpec.ofChange groupsTellsSpec)

/-- ITS FALSE NEIGHBOUR: 'it returns false'. Refute it at one input. -/
def groupsTellsWrong : ChangeSpec := { name := "groupsTells", fn := fun _ => fun
  | [d1, d2, d3] => { results := [.lit (.bool false)], args := [d1, d2, d3] }
  | _ => none }
def GroupsTellsWrongFalsely : Prop := groupsTellsRow.holds Try.pinned (OpenSpec.ofChange groupsTellsWrong)

/- THE SECOND FORM. 'bulk': how many values and letters a reading holds, each counted each time it is reached (what is shared counts as often as it is met; a slice's spare places count too). A statement '..UptoSaid' is the law's where the arguments, and the package variables that the reading takes, are together of bulk at most 1048576: NARROWER than '..Said'. Prove '..Said' where nothing that the law and all that it calls make is longer than what came in: it says more and counts as full. Else prove '..UptoSaid'. A law counts once. -/
mutual
def uptoBulk {H : Type} : DataW H → Nat
  | .lit (.string bytes) => bytes.length + 1
  | .lit _ => 1
  | .nil => 1
  | .ptr d => uptoBulk d + 1
  | .slice elems spare => uptoBulkAll elems + uptoBulkAll spare + 1
  | .agg parts => uptoBulkAll parts + 1
  | .iface _ d => uptoBulk d + 1
  | .map entries => uptoBulkEntries entries + 1
  | .held _ => 1
def uptoBulkAll {H : Type} : List (DataW H) → Nat
  | [] => 0
  | d :: r => uptoBulk d + uptoBulkAll r
def uptoBulkEntries {H : Type} : List (Lit × DataW H) → Nat
  | [] => 0
  | x :: r => uptoBulkEntry x + uptoBulkEntries r
def uptoBulkEntry {H : Type} : Lit × DataW H → Nat
  | (.string bytes, d) => bytes.length + uptoBulk d + 1
  | (_, d) => uptoBulk d + 1
 end
def uptoSmall : (H : Type) → List (DataW H) → Bool := fun _ ds => decide (uptoBulkAll ds ≤ 1048576)
def OpenSpec.upto (s : _root_.Go.ChangeSpec) : _root_.Go.OpenSpec := { _root_.Go.OpenSpec.ofChange s with cond := some uptoSmall }

/-- 'yesteryearlaw27.VolsChange', WHERE WHAT IT READS IS OF BULK AT MOST 1048576: true; the input reads as it did. -/
def volsChangeUptoRow : OpenClaim := { program := "ytbcdcjiibalnnaa", sum := "d5611171e412f2cc7435c143e9fa98b7f5376e8186aa3174d30137f30f4aa9ea", func := "yesteryear/yesteryearlaw27.VolsChange", spec := "volsChange", unfollowed := true, recurses := true, apart := false, narrowed := true }
def VolsChangeUptoSaid : Prop := volsChangeUptoRow.holds Try.pinned (OpenSpec.upto volsChangeSpec)

/-- 'yesteryearlaw28.GroupsChange', WHERE WHAT IT READS IS OF BULK AT MOST 1048576: true; the input reads as it did. -/
def groupsChangeUptoRow : OpenClaim := { program := "ytbcdcjiibalnnaa", sum := "d5611171e412f2cc7435c143e9fa98b7f5376e8186aa3174d30137f30f4aa9ea", func := "yesteryear/yesteryearlaw28.GroupsChange", spec := "groupsChange", unfollowed := true, recurses := true, apart := false, narrowed := true }
def GroupsChangeUptoSaid : Prop := groupsChangeUptoRow.holds Try.pinned (OpenSpec.upto groupsChangeSpec)

/-- 'yesteryearlaw28.GroupsTells', WHERE WHAT IT READS IS OF BULK AT MOST 1048576: true; the input reads as it did. -/
def groupsTellsUptoRow : OpenClaim := { program := "ytbcdcjiibalnnaa", sum := "d5611171e412f2cc7435c143e9fa98b7f5376e8186aa3174d30137f30f4aa9ea", func := "yesteryear/yesteryearlaw28.GroupsTells", spec := "groupsTells", unfollowed := true, recurses := true, apart := false, narrowed := true }
def GroupsTellsUptoSaid : Prop := groupsTellsUptoRow.holds Try.pinned (OpenSpec.upto groupsTellsSpec)

end Rows
end Go.Proofs.Ytbcdcjiibalnnaa
