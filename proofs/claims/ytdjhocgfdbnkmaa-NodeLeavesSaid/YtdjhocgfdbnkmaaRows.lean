/-
  No cell of these rows narrows 'for every input' (looked for: loops, veiled, ifaces, maps, wideKeys, modest, calm, conditions, laid).
  DERIVED. THE GIVEN ROWS OF THIS SEAT. 12 by the template 'for every input the law returns true; each argument reads behind the call as it read before'; 0 by the template 'total and deterministic' (their statements: YtdjhocgfdbnkmaaTotals.lean).
  GIVEN WITH THE SEED: the statements are not yours to turn. If you find one false, say at which input.
  Laid BY PROGRAM, IN A SANDBOX (cutbox-rows.mjs): the forced cells as the released guide's own fill.sh prints them over the translation 5f1568a1ff0dafe6… (all of the seat's roots in one cut). By AI agents, Wed Nov 11 2026. No macro, syntax, notation, axiom, sorry.
-/
import Derived.Test.YtdjhocgfdbnkmaaChecked
import GoSem.Claim
import GoSem.ClaimJoined
import GoSem.ClaimMapViews
import Derived.JoinedTies
import Derived.KernelRfl
namespace Go.Proofs.Ytdjhocgfdbnkmaa
/- THE CELL 'sum', in the pinned program and in every row, IS THE sha256 OF THE DUMP (.gsa) THAT YtdjhocgfdbnkmaaProg.lean LOADS. Nothing in Lean hashes anything: it is a label: what it is worth is what the hold of that sum in a sandbox is worth. -/
noncomputable def Try.pinned : Pinned := { name := "ytdjhocgfdbnkmaa", sum := "5f1568a1ff0dafe65eb51945c490535785b473c233285ea7ffa79cc42b8af2fd", checked := Try.checked }
namespace Rows
def none {H : Type} : Left H := { results := [], args := [] }

/-- 'yesteryearlaw26.NodeSplits': WHATEVER THE INPUT: true; the input reads as it did. -/
def nodeSplitsSpec : ChangeSpec := { name := "nodeSplits", fn := fun _ => fun
  | [d1, d2] => { results := [.lit (.bool true)], args := [d1, d2] }
  | _ => none }
def nodeSplitsRow : OpenClaim := { program := "ytdjhocgfdbnkmaa", sum := "5f1568a1ff0dafe65eb51945c490535785b473c233285ea7ffa79cc42b8af2fd", func := "yesteryear/yesteryearlaw26.NodeSplits", spec := "nodeSplits", plainKeys := false, apart := false }
def NodeSplitsSaid : Prop := nodeSplitsRow.holds Try.pinned (OpenSpec.ofChange nodeSplitsSpec)

/-- ITS FALSE NEIGHBOUR: 'it returns false'. Refute it at one input. -/
def nodeSplitsWrong : ChangeSpec := { name := "nodeSplits", fn := fun _ => fun
  | [d1, d2] => { results := [.lit (.bool false)], args := [d1, d2] }
  | _ => none }
def NodeSplitsWrongFalsely : Prop := nodeSplitsRow.holds Try.pinned (OpenSpec.ofChange nodeSplitsWrong)

/-- 'yesteryearlaw27.VolsChange': WHATEVER THE INPUT: true; the input reads as it did. -/
def volsChangeSpec : ChangeSpec := { name := "volsChange", fn := fun _ => fun
  | [d1, d2, d3] => { results := [.lit (.bool true)], args := [d1, d2, d3] }
  | _ => none }
def volsChangeRow : OpenClaim := { program := "ytdjhocgfdbnkmaa", sum := "5f1568a1ff0dafe65eb51945c490535785b473c233285ea7ffa79cc42b8af2fd", func := "yesteryear/yesteryearlaw27.VolsChange", spec := "volsChange", unfollowed := true, recurses := true, plainKeys := false, apart := false }
def VolsChangeSaid : Prop := volsChangeRow.holds Try.pinned (OpenSpec.ofChange volsChangeSpec)

/-- ITS FALSE NEIGHBOUR: 'it returns false'. Refute it at one input. -/
def volsChangeWrong : ChangeSpec := { name := "volsChange", fn := fun _ => fun
  | [d1, d2, d3] => { results := [.lit (.bool false)], args := [d1, d2, d3] }
  | _ => none }
def VolsChangeWrongFalsely : Prop := volsChangeRow.holds Try.pinned (OpenSpec.ofChange volsChangeWrong)

/-- 'yesteryearlaw28.GroupsChange': WHATEVER THE INPUT: true; the input reads as it did. -/
def groupsChangeSpec : ChangeSpec := { name := "groupsChange", fn := fun _ => fun
  | [d1, d2, d3] => { results := [.lit (.bool true)], args := [d1, d2, d3] }
  | _ => none }
def groupsChangeRow : OpenClaim := { program := "ytdjhocgfdbnkmaa", sum := "5f1568a1ff0dafe65eb51945c490535785b473c233285ea7ffa79cc42b8af2fd", func := "yesteryear/yesteryearlaw28.GroupsChange", spec := "groupsChange", unfollowed := true, recurses := true, plainKeys := false, apart := false }
def GroupsChangeSaid : Prop := groupsChangeRow.holds Try.pinned (OpenSpec.ofChange groupsChangeSpec)

/-- ITS FALSE NEIGHBOUR: 'it returns false'. Refute it at one input. -/
def groupsChangeWrong : ChangeSpec := { name := "groupsChange", fn := fun _ => fun
  | [d1, d2, d3] => { results := [.lit (.bool false)], args := [d1, d2, d3] }
  | _ => none }
def GroupsChangeWrongFalsely : Prop := groupsChangeRow.holds Try.pinned (OpenSpec.ofChange groupsChangeWrong)

/-- 'yesteryearlaw28.GroupsTells': WHATEVER THE INPUT: true; the input reads as it did. -/
def groupsTellsSpec : ChangeSpec := { name := "groupsTells", fn := fun _ => fun
  | [d1, d2, d3] => { results := [.lit (.bool true)], args := [d1, d2, d3] }
  | _ => none }
def groupsTellsRow : OpenClaim := { program := "ytdjhocgfdbnkmaa", sum := "5f1568a1ff0dafe65eb51945c490535785b473c233285ea7ffa79cc42b8af2fd", func := "yesteryear/yesteryearlaw28.GroupsTells", spec := "groupsTells", unfollowed := true, recurses := true, plainKeys := false, apart := false }
def GroupsTellsSaid : Prop := groupsTellsRow.holds Try.pinned (OpenSpec.ofChange groupsTellsSpec)

/-- ITS FALSE NEIGHBOUR: 'it returns false'. Refute it at one input. -/
def groupsTellsWrong : ChangeSpec := { name := "groupsTells", fn := fun _ => fun
  | [d1, d2, d3] => { results := [.lit (.bool false)], args := [d1, d2, d3] }
  | _ => none }
def GroupsTellsWrongFalsely : Prop := groupsTellsRow.holds Try.pinned (OpenSpec.ofChange groupsTellsWrong)

/-- 'yesteryearlaw16.DueOrder': WHATEVER THE INPUT: true; the input reads as it did. -/
def dueOrderSpec : ChangeSpec := { name := "dueOrder", fn := fun _ => fun
  | [d1, d2] => { results := [.lit (.bool true)], args := [d1, d2] }
  | _ => none }
def dueOrderRow : OpenClaim := { program := "ytdjhocgfdbnkmaa", sum := "5f1568a1ff0dafe65eb51945c490535785b473c233285ea7ffa79cc42b8af2fd", func := "yesteryear/yesteryearlaw16.DueOrder", spec := "dueOrder", unfollowed := true, recurses := true, plainKeys := false, apart := false }
def DueOrderSaid : Prop := dueOrderRow.holds Try.pinned (OpenSpec.ofChange dueOrderSpec)

/-- ITS FALSE NEIGHBOUR: 'it returns false'. Refute it at one input. -/
def dueOrderWrong : ChangeSpec := { name := "dueOrder", fn := fun _ => fun
  | [d1, d2] => { results := [.lit (.bool false)], args := [d1, d2] }
  | _ => none }
def DueOrderWrongFalsely : Prop := dueOrderRow.holds Try.pinned (OpenSpec.ofChange dueOrderWrong)

/-- 'yesteryearlaw14.FreePlays': WHATEVER THE INPUT: true; the input reads as it did. -/
def freePlaysSpec : ChangeSpec := { name := "freePlays", fn := fun _ => fun
  | [d1, d2] => { results := [.lit (.bool true)], args := [d1, d2] }
  | _ => none }
def freePlaysRow : OpenClaim := { program := "ytdjhocgfdbnkmaa", sum := "5f1568a1ff0dafe65eb51945c490535785b473c233285ea7ffa79cc42b8af2fd", func := "yesteryear/yesteryearlaw14.FreePlays", spec := "freePlays", unfollowed := true, recurses := true, plainKeys := false, apart := false }
def FreePlaysSaid : Prop := freePlaysRow.holds Try.pinned (OpenSpec.ofChange freePlaysSpec)

/-- ITS FALSE NEIGHBOUR: 'it returns false'. Refute it at one input. -/
def freePlaysWrong : ChangeSpec := { name := "freePlays", fn := fun _ => fun
  | [d1, d2] => { results := [.lit (.bool false)], args := [d1, d2] }
  | _ => none }
def FreePlaysWrongFalsely : Prop := freePlaysRow.holds Try.pinned (OpenSpec.ofChange freePlaysWrong)

/-- 'yesteryearlaw16.DuePlays': WHATEVER THE INPUT: true; the input reads as it did. -/
def duePlaysSpec : ChangeSpec := { name := "duePlays", fn := fun _ => fun
  | [d] => { results := [.lit (.bool true)], args := [d] }
  | _ => none }
def duePlaysRow : OpenClaim := { program := "ytdjhocgfdbnkmaa", sum := "5f1568a1ff0dafe65eb51945c490535785b473c233285ea7ffa79cc42b8af2fd", func := "yesteryear/yesteryearlaw16.DuePlays", spec := "duePlays", unfollowed := true, recurses := true, plainKeys := false, apart := false }
def DuePlaysSaid : Prop := duePlaysRow.holds Try.pinned (OpenSpec.ofChange duePlaysSpec)

/-- ITS FALSE NEIGHBOUR: 'it returns false'. Refute it at one input. -/
def duePlaysWrong : ChangeSpec := { name := "duePlays", fn := fun _ => fun
  | [d] => { results := [.lit (.bool false)], args := [d] }
  | _ => none }
def DuePlaysWrongFalsely : Prop := duePlaysRow.holds Try.pinned (OpenSpec.ofChange duePlaysWrong)

/-- 'yesteryearlaw64.CachedPlays': WHATEVER THE INPUT: true; the input reads as it did. -/
def cachedPlaysSpec : ChangeSpec := { name := "cachedPlays", fn := fun _ => fun
  | [d1, d2, d3] => { results := [.lit (.bool true)], args := [d1, d2, d3] }
  | _ => none }
def cachedPlaysRow : OpenClaim := { program := "ytdjhocgfdbnkmaa", sum := "5f1568a1ff0dafe65eb51945c490535785b473c233285ea7ffa79cc42b8af2fd", func := "yesteryear/yesteryearlaw64.CachedPlays", spec := "cachedPlays", unfollowed := true, recurses := true, plainKeys := false, apart := false }
def CachedPlaysSaid : Prop := cachedPlaysRow.holds Try.pinned (OpenSpec.ofChange cachedPlaysSpec)

/-- ITS FALSE NEIGHBOUR: 'it returns false'. Refute it at one input. -/
def cachedPlaysWrong : ChangeSpec := { name := "cachedPlays", fn := fun _ => fun
  | [d1, d2, d3] => { results := [.lit (.bool false)], args := [d1, d2, d3] }
  | _ => none }
def CachedPlaysWrongFalsely : Prop := cachedPlaysRow.holds Try.pinned (OpenSpec.ofChange cachedPlaysWrong)

/-- 'yesteryearlaw26.NodeGets': WHATEVER THE INPUT: true; the input reads as it did. -/
def nodeGetsSpec : ChangeSpec := { name := "nodeGets", fn := fun _ => fun
  | [d] => { results := [.lit (.bool true)], args := [d] }
  | _ => none }
def nodeGetsRow : OpenClaim := { program := "ytdjhocgfdbnkmaa", sum := "5f1568a1ff0dafe65eb51945c490535785b473c233285ea7ffa79cc42b8af2fd", func := "yesteryear/yesteryearlaw26.NodeGets", spec := "nodeGets", unfollowed := true, recurses := true, plainKeys := false, apart := false }
def NodeGetsSaid : Prop := nodeGetsRow.holds Try.pinned (OpenSpec.ofChange nodeGetsSpec)

/-- ITS FALSE NEIGHBOUR: 'it returns false'. Refute it at one input. -/
def nodeGetsWrong : ChangeSpec := { name := "nodeGets", fn := fun _ => fun
  | [d] => { results := [.lit (.bool false)], args := [d] }
  | _ => none }
def NodeGetsWrongFalsely : Prop := nodeGetsRow.holds Try.pinned (OpenSpec.ofChange nodeGetsWrong)

/-- 'yesteryearlaw17.MergeRows': WHATEVER THE INPUT: true; the input reads as it did. -/
def mergeRowsSpec : ChangeSpec := { name := "mergeRows", fn := fun _ => fun
  | [d] => { results := [.lit (.bool true)], args := [d] }
  | _ => none }
def mergeRowsRow : OpenClaim := { program := "ytdjhocgfdbnkmaa", sum := "5f1568a1ff0dafe65eb51945c490535785b473c233285ea7ffa79cc42b8af2fd", func := "yesteryear/yesteryearlaw17.MergeRows", spec := "mergeRows", unfollowed := true, recurses := true, plainKeys := false, apart := false }
def MergeRowsSaid : Prop := mergeRowsRow.holds Try.pinned (OpenSpec.ofChange mergeRowsSpec)

/-- ITS FALSE NEIGHBOUR: 'it returns false'. Refute it at one input. -/
def mergeRowsWrong : ChangeSpec := { name := "mergeRows", fn := fun _ => fun
  | [d] => { results := [.lit (.bool false)], args := [d] }
  | _ => none }
def MergeRowsWrongFalsely : Prop := mergeRowsRow.holds Try.pinned (OpenSpec.ofChange mergeRowsWrong)

/-- 'yesteryearlaw26.NodeLeaves': WHATEVER THE INPUT: true; the input reads as it did. -/
def nodeLeavesSpec : ChangeSpec := { name := "nodeLeaves", fn := fun _ => fun
  | [d1, d2] => { results := [.lit (.bool true)], args := [d1, d2] }
  | _ => none }
def nodeLeavesRow : OpenClaim := { program := "ytdjhocgfdbnkmaa", sum := "5f1568a1ff0dafe65eb51945c490535785b473c233285ea7ffa79cc42b8af2fd", func := "yesteryear/yesteryearlaw26.NodeLeaves", spec := "nodeLeaves", inPlace := ["slices.overlaps[yesteryear/api.Entry]"], unfollowed := true, recurses := true, plainKeys := false, apart := false }
def NodeLeavesSaid : Prop := nodeLeavesRow.holds Try.pinned (OpenSpec.ofChange nodeLeavesSpec)

/-- ITS FALSE NEIGHBOUR: 'it returns false'. Refute it at one input. -/
def nodeLeavesWrong : ChangeSpec := { name := "nodeLeaves", fn := fun _ => fun
  | [d1, d2] => { results := [.lit (.bool false)], args := [d1, d2] }
  | _ => none }
def NodeLeavesWrongFalsely : Prop := nodeLeavesRow.holds Try.pinned (OpenSpec.ofChange nodeLeavesWrong)

/-- 'yesteryearlaw26.NodePuts': WHATEVER THE INPUT: true; the input reads as it did. -/
def nodePutsSpec : ChangeSpec := { name := "nodePuts", fn := fun _ => fun
  | [d1, d2] => { results := [.lit (.bool true)], args := [d1, d2] }
  | _ => none }
def nodePutsRow : OpenClaim := { program := "ytdjhocgfdbnkmaa", sum := "5f1568a1ff0dafe65eb51945c490535785b473c233285ea7ffa79cc42b8af2fd", func := "yesteryear/yesteryearlaw26.NodePuts", spec := "nodePuts", unfollowed := true, recurses := true, plainKeys := false, apart := false }
def NodePutsSaid : Prop := nodePutsRow.holds Try.pinned (OpenSpec.ofChange nodePutsSpec)

/-- ITS FALSE NEIGHBOUR: 'it returns false'. Refute it at one input. -/
def nodePutsWrong : ChangeSpec := { name := "nodePuts", fn := fun _ => fun
  | [d1, d2] => { results := [.lit (.bool false)], args := [d1, d2] }
  | _ => none }
def NodePutsWrongFalsely : Prop := nodePutsRow.holds Try.pinned (OpenSpec.ofChange nodePutsWrong)

/- THE SECOND FORM. 'bulk': how many values and letters a reading holds, each counted each time it is reached (what is shared counts as often as it is met; a slice's spare places count too). A statement '..UptoSaid' is the law's where the arguments, and the package variables that the reading takes, are together of bulk at most 1048576: NARROWER than '..Said'. Prove '..Said' where nothing that the law and all that it calls make is longer than what came in: it says more and counts as full. Else prove '..UptoSaid'. A law counts once. -/
mutual
def uptoBulk {H : Type} : DataW H → Nat
  | .lit (.string bytes) => bytes.length + 1
  | .lit _ => 1
  | .nil => 1
  | .ptr d => uptoBulk d + 1
  | .slice elems spare => uptoBulkAll elems + uptoBulkAll spare + 1
  | .agg parts => uptoBulkAll parts + 1
  | .iface _ d => uptoBulk d + 1
  | .map entries => uptoBulkEntries entries + 1
  | .held _ => 1
def uptoBulkAll {H : Type} : List (DataW H) → Nat
  | [] => 0
  | d :: r => uptoBulk d + uptoBulkAll r
def uptoBulkEntries {H : Type} : List (Lit × DataW H) → Nat
  | [] => 0
  | x :: r => uptoBulkEntry x + uptoBulkEntries r
def uptoBulkEntry {H : Type} : Lit × DataW H → Nat
  | (.string bytes, d) => bytes.length + uptoBulk d + 1
  | (_, d) => uptoBulk d + 1
 end
def uptoSmall : (H : Type) → List (DataW H) → Bool := fun _ ds => decide (uptoBulkAll ds ≤ 1048576)
def OpenSpec.upto (s : _root_.Go.ChangeSpec) : _root_.Go.OpenSpec := { _root_.Go.OpenSpec.ofChange s with cond := some uptoSmall }

/-- 'yesteryearlaw26.NodeSplits', WHERE WHAT IT READS IS OF BULK AT MOST 1048576: true; the input reads as it did. -/
def nodeSplitsUptoRow : OpenClaim := { program := "ytdjhocgfdbnkmaa", sum := "5f1568a1ff0dafe65eb51945c490535785b473c233285ea7ffa79cc42b8af2fd", func := "yesteryear/yesteryearlaw26.NodeSplits", spec := "nodeSplits", plainKeys := false, apart := false, narrowed := true }
def NodeSplitsUptoSaid : Prop := nodeSplitsUptoRow.holds Try.pinned (OpenSpec.upto nodeSplitsSpec)

/-- 'yesteryearlaw27.VolsChange', WHERE WHAT IT READS IS OF BULK AT MOST 1048576: true; the input reads as it did. -/
def volsChangeUptoRow : OpenClaim := { program := "ytdjhocgfdbnkmaa", sum := "5f1568a1ff0dafe65eb51945c490535785b473c233285ea7ffa79cc42b8af2fd", func := "yesteryear/yesteryearlaw27.VolsChange", spec := "volsChange", unfollowed := true, recurses := true, plainKeys := false, apart := false, narrowed := true }
def VolsChangeUptoSaid : Prop := volsChangeUptoRow.holds Try.pinned (OpenSpec.upto volsChangeSpec)

/-- 'yesteryearlaw28.GroupsChange', WHERE WHAT IT READS IS OF BULK AT MOST 1048576: true; the input reads as it did. -/
def groupsChangeUptoRow : OpenClaim := { program := "ytdjhocgfdbnkmaa", sum := "5f1568a1ff0dafe65eb51945c490535785b473c233285ea7ffa79cc42b8af2fd", func := "yesteryear/yesteryearlaw28.GroupsChange", spec := "groupsChange", unfollowed := true, recurses := true, plainKeys := false, apart := false, narrowed := true }
def GroupsChangeUptoSaid : Prop := groupsChangeUptoRow.holds Try.pinned (OpenSpec.upto groupsChangeSpec)

/-- 'yesteryearlaw28.GroupsTells', WHERE WHAT IT READS IS OF BULK AT MOST 1048576: true; the input reads as it did. -/
def groupsTellsUptoRow : OpenClaim := { program := "ytdjhocgfdbnkmaa", sum := "5f1568a1ff0dafe65eb51945c490535785b473c233285ea7ffa79cc42b8af2fd", func := "yesteryear/yesteryearlaw28.GroupsTells", spec := "groupsTells", unfollowed := true, recurses := true, plainKeys := false, apart := false, narrowed := true }
def GroupsTellsUptoSaid : Prop := groupsTellsUptoRow.holds Try.pinned (OpenSpec.upto groupsTellsSpec)

/-- 'yesteryearlaw16.DueOrder', WHERE WHAT IT READS IS OF BULK AT MOST 1048576: true; the input reads as it did. -/
def dueOrderUptoRow : OpenClaim := { program := "ytdjhocgfdbnkmaa", sum := "5f1568a1ff0dafe65eb51945c490535785b473c233285ea7ffa79cc42b8af2fd", func := "yesteryear/yesteryearlaw16.DueOrder", spec := "dueOrder", unfollowed := true, recurses := true, plainKeys := false, apart := false, narrowed := true }
def DueOrderUptoSaid : Prop := dueOrderUptoRow.holds Try.pinned (OpenSpec.upto dueOrderSpec)

/-- 'yesteryearlaw14.FreePlays', WHERE WHAT IT READS IS OF BULK AT MOST 1048576: true; the input reads as it did. -/
def freePlaysUptoRow : OpenClaim := { program := "ytdjhocgfdbnkmaa", sum := "5f1568a1ff0dafe65eb51945c490535785b473c233285ea7ffa79cc42b8af2fd", func := "yesteryear/yesteryearlaw14.FreePlays", spec := "freePlays", unfollowed := true, recurses := true, plainKeys := false, apart := false, narrowed := true }
def FreePlaysUptoSaid : Prop := freePlaysUptoRow.holds Try.pinned (OpenSpec.upto freePlaysSpec)

/-- 'yesteryearlaw16.DuePlays', WHERE WHAT IT READS IS OF BULK AT MOST 1048576: true; the input reads as it did. -/
def duePlaysUptoRow : OpenClaim := { program := "ytdjhocgfdbnkmaa", sum := "5f1568a1ff0dafe65eb51945c490535785b473c233285ea7ffa79cc42b8af2fd", func := "yesteryear/yesteryearlaw16.DuePlays", spec := "duePlays", unfollowed := true, recurses := true, plainKeys := false, apart := false, narrowed := true }
def DuePlaysUptoSaid : Prop := duePlaysUptoRow.holds Try.pinned (OpenSpec.upto duePlaysSpec)

/-- 'yesteryearlaw64.CachedPlays', WHERE WHAT IT READS IS OF BULK AT MOST 1048576: true; the input reads as it did. -/
def cachedPlaysUptoRow : OpenClaim := { program := "ytdjhocgfdbnkmaa", sum := "5f1568a1ff0dafe65eb51945c490535785b473c233285ea7ffa79cc42b8af2fd", func := "yesteryear/yesteryearlaw64.CachedPlays", spec := "cachedPlays", unfollowed := true, recurses := true, plainKeys := false, apart := false, narrowed := true }
def CachedPlaysUptoSaid : Prop := cachedPlaysUptoRow.holds Try.pinned (OpenSpec.upto cachedPlaysSpec)

/-- 'yesteryearlaw26.NodeGets', WHERE WHAT IT READS IS OF BULK AT MOST 1048576: true; the input reads as it did. -/
def nodeGetsUptoRow : OpenClaim := { program := "ytdjhocgfdbnkmaa", sum := "5f1568a1ff0dafe65eb51945c490535785b473c233285ea7ffa79cc42b8af2fd", func := "yesteryear/yesteryearlaw26.NodeGets", spec := "nodeGets", unfollowed := true, recurses := true, plainKeys := false, apart := false, narrowed := true }
def NodeGetsUptoSaid : Prop := nodeGetsUptoRow.holds Try.pinned (OpenSpec.upto nodeGetsSpec)

/-- 'yesteryearlaw17.MergeRows', WHERE WHAT IT READS IS OF BULK AT MOST 1048576: true; the input reads as it did. -/
def mergeRowsUptoRow : OpenClaim := { program := "ytdjhocgfdbnkmaa", sum := "5f1568a1ff0dafe65eb51945c490535785b473c233285ea7ffa79cc42b8af2fd", func := "yesteryear/yesteryearlaw17.MergeRows", spec := "mergeRows", unfollowed := true, recurses := true, plainKeys := false, apart := false, narrowed := true }
def MergeRowsUptoSaid : Prop := mergeRowsUptoRow.holds Try.pinned (OpenSpec.upto mergeRowsSpec)

/-- 'yesteryearlaw26.NodeLeaves', WHERE WHAT IT READS IS OF BULK AT MOST 1048576: true; the input reads as it did. -/
def nodeLeavesUptoRow : OpenClaim := { program := "ytdjhocgfdbnkmaa", sum := "5f1568a1ff0dafe65eb51945c490535785b473c233285ea7ffa79cc42b8af2fd", func := "yesteryear/yesteryearlaw26.NodeLeaves", spec := "nodeLeaves", inPlace := ["slices.overlaps[yesteryear/api.Entry]"], unfollowed := true, recurses := true, plainKeys := false, apart := false, narrowed := true }
def NodeLeavesUptoSaid : Prop := nodeLeavesUptoRow.holds Try.pinned (OpenSpec.upto nodeLeavesSpec)

/-- 'yesteryearlaw26.NodePuts', WHERE WHAT IT READS IS OF BULK AT MOST 1048576: true; the input reads as it did. -/
def nodePutsUptoRow : OpenClaim := { program := "ytdjhocgfdbnkmaa", sum := "5f1568a1ff0dafe65eb51945c490535785b473c233285ea7ffa79cc42b8af2fd", func := "yesteryear/yesteryearlaw26.NodePuts", spec := "nodePuts", unfollowed := true, recurses := true, plainKeys := false, apart := false, narrowed := true }
def NodePutsUptoSaid : Prop := nodePutsUptoRow.holds Try.pinned (OpenSpec.upto nodePutsSpec)

end Rows
end Go.Proofs.Ytdjhocgfdbnkmaa
