/-
  No cell of these rows narrows 'for every input' (looked for: loops, veiled, ifaces, maps, wideKeys, modest, calm, conditions, laid).
  DERIVED. THE GIVEN ROWS OF THIS SEAT. 5 by the template 'for every input the law returns true; each argument reads behind the call as it read before'; 0 by the template 'total and deterministic' (their statements: YtmbphmckakigaaaTotals.lean).
  GIVEN WITH THE SEED: the statements are not yours to turn. If you find one false, say at which input.
  Laid BY PROGRAM, IN A SANDBOX (cutbox-rows.mjs): the forced cells as the released guide's own fill.sh prints them over the translation 6f4e761d1808610b… (all of the seat's roots in one cut). By AI agents, Wed Nov 11 2026. No macro, syntax, notation, axiom, sorry.
-/
import Derived.Test.YtmbphmckakigaaaChecked
import GoSem.Claim
import GoSem.ClaimJoined
import GoSem.ClaimMapViews
import Derived.JoinedTies
import Derived.KernelRfl
namespace Go.Proofs.Ytmbphmckakigaaa
/- THE CELL 'sum', in the pinned program and in every row, IS THE sha256 OF THE DUMP (.gsa) THAT YtmbphmckakigaaaProg.lean LOADS. Nothing in Lean hashes anything: it is a label: what it is worth is what the hold of that sum in a sandbox is worth. -/
noncomputable def Try.pinned : Pinned := { name := "ytmbphmckakigaaa", sum := "6f4e761d1808610bd98262c39c363f0c84e77632b3c2ff03297c0aa10d23d723", checked := Try.checked }
namespace Rows
def none {H : Type} : Left H := { results := [], args := [] }

/-- 'yesteryearlaw17.MergeRows': WHATEVER THE INPUT: true; the input reads as it did. -/
def mergeRowsSpec : ChangeSpec := { name := "mergeRows", fn := fun _ => fun
  | [d] => { results := [.lit (.bool true)], args := [d] }
  | _ => none }
def mergeRowsRow : OpenClaim := { program := "ytmbphmckakigaaa", sum := "6f4e761d1808610bd98262c39c363f0c84e77632b3c2ff03297c0aa10d23d723", func := "yesteryear/yesteryearlaw17.MergeRows", spec := "mergeRows", unfollowed := true, recurses := true, apart := false }
def MergeRowsSaid : Prop := mergeRowsRow.holds Try.pinned (OpenSpec.ofChange mergeRowsSpec)

/-- ITS FALSE NEIGHBOUR: 'it returns false'. Refute it at one input. -/
def mergeRowsWrong : ChangeSpec := { name := "mergeRows", fn := fun _ => fun
  | [d] => { results := [.lit (.bool false)], args := [d] }
  | _ => none }
def MergeRowsWrongFalsely : Prop := mergeRowsRow.holds Try.pinned (OpenSpec.ofChange mergeRowsWrong)

/-- 'yesteryearlaw35.CheckFinds': WHATEVER THE INPUT: true; the input reads as it did. -/
def checkFindsSpec : ChangeSpec := { name := "checkFinds", fn := fun _ => fun
  | [d1, d2, d3] => { results := [.lit (.bool true)], args := [d1, d2, d3] }
  | _ => none }
def checkFindsRow : OpenClaim := { program := "ytmbphmckakigaaa", sum := "6f4e761d1808610bd98262c39c363f0c84e77632b3c2ff03297c0aa10d23d723", func := "yesteryear/yesteryearlaw35.CheckFinds", spec := "checkFinds", unfollowed := true, recurses := true, apart := false }
def CheckFindsSaid : Prop := checkFindsRow.holds Try.pinned (OpenSpec.ofChange checkFindsSpec)

/-- ITS FALSE NEIGHBOUR: 'it returns false'. Refute it at one input. -/
def checkFindsWrong : ChangeSpec := { name := "checkFinds", fn := fun _ => fun
  | [d1, d2, d3] => { results := [.lit (.bool false)], args := [d1, d2, d3] }
  | _ => none }
def CheckFindsWrongFalsely : Prop := checkFindsRow.holds Try.pinned (OpenSpec.ofChange checkFindsWrong)

/-- 'yesteryearlaw34.WalkNodes': WHATEVER THE INPUT: true; the input reads as it did. -/
def walkNodesSpec : ChangeSpec := { name := "walkNodes", fn := fun _ => fun
  | [d] => { results := [.lit (.bool true)], args := [d] }
  | _ => none }
def walkNodesRow : OpenClaim := { program := "ytmbphmckakigaaa", sum := "6f4e761d1808610bd98262c39c363f0c84e77632b3c2ff03297c0aa10d23d723", func := "yesteryear/yesteryearlaw34.WalkNodes", spec := "walkNodes", inPlace := ["slices.overlaps[*yesteryear/node.Node]", "slices.overlaps[yesteryear/api.Entry]"], unfollowed := true, recurses := true, apart := false }
def WalkNodesSaid : Prop := walkNodesRow.holds Try.pinned (OpenSpec.ofChange walkNodesSpec)

/-- ITS FALSE NEIGHBOUR: 'it returns false'. Refute it at one input. -/
def walkNodesWrong : ChangeSpec := { name := "walkNodes", fn := fun _ => fun
  | [d] => { results := [.lit (.bool false)], args := [d] }
  | _ => none }
def WalkNodesWrongFalsely : Prop := walkNodesRow.holds Try.pinned (OpenSpec.ofChange walkNodesWrong)

/-- 'yesteryearlaw34.WalkRanges': WHATEVER THE INPUT: true; the input reads as it did. -/
def walkRangesSpec : ChangeSpec := { name := "walkRanges", fn := fun _ => fun
  | [d1, d2, d3] => { results := [.lit (.bool true)], args := [d1, d2, d3] }
  | _ => none }
def walkRangesRow : OpenClaim := { program := "ytmbphmckakigaaa", sum := "6f4e761d1808610bd98262c39c363f0c84e77632b3c2ff03297c0aa10d23d723", func := "yesteryear/yesteryearlaw34.WalkRanges", spec := "walkRanges", inPlace := ["slices.overlaps[*yesteryear/node.Node]", "slices.overlaps[yesteryear/api.Entry]"], unfollowed := true, recurses := true, apart := false }
def WalkRangesSaid : Prop := walkRangesRow.holds Try.pinned (OpenSpec.ofChange walkRangesSpec)

/-- ITS FALSE NEIGHBOUR: 'it returns false'. Refute it at one input. -/
def walkRangesWrong : ChangeSpec := { name := "walkRanges", fn := fun _ => fun
  | [d1, d2, d3] => { results := [.lit (.bool false)], args := [d1, d2, d3] }
  | _ => none }
def WalkRangesWrongFalsely : Prop := walkRangesRow.holds Try.pinned (OpenSpec.ofChange walkRangesWrong)

/-- 'yesteryearlaw35.CheckFine': WHATEVER THE INPUT: true; the input reads as it did. -/
def checkFineSpec : ChangeSpec := { name := "checkFine", fn := fun _ => fun
  | [d] => { results := [.lit (.bool true)], args := [d] }
  | _ => none }
def checkFineRow : OpenClaim := { program := "ytmbphmckakigaaa", sum := "6f4e761d1808610bd98262c39c363f0c84e77632b3c2ff03297c0aa10d23d723", func := "yesteryear/yesteryearlaw35.CheckFine", spec := "checkFine", inPlace := ["slices.overlaps[*yesteryear/node.Node]", "slices.overlaps[yesteryear/api.Entry]"], unfollowed := true, recurses := true, apart := false }
def CheckFineSaid : Prop := checkFineRow.holds Try.pinned (OpenSpec.ofChange checkFineSpec)

/-- ITS FALSE NEIGHBOUR: 'it returns false'. Refute it at one input. -/
def checkFineWrong : ChangeSpec := { name := "checkFine", fn := fun _ => fun
  | [d] => { results := [.lit (.bool false)], args := [d] }
  | _ => none }
def CheckFineWrongFalsely : Prop := checkFineRow.holds Try.pinned (OpenSpec.ofChange checkFineWrong)

/- THE SECOND FORM. 'bulk': how many values and letters a reading holds, each counted each time it is reached (what is shared counts as often as it is met; a slice's spare places count too). A statement '..UptoSaid' is the law's where the arguments, and the package variables that the reading takes, are together of bulk at most 1048576: NARROWER than '..Said'. Prove '..Said' where nothing that the law and all that it calls make is longer than what came in: it says more and counts as full. Else prove '..UptoSaid'. A law counts once. -/
mutual
def uptoBulk {H : Type} : DataW H → Nat
  | .lit (.string bytes) => bytes.length + 1
  | .lit _ => 1
  | .nil => 1
  | .ptr d => uptoBulk d + 1
  | .slice elems spare => uptoBulkAll elems + uptoBulkAll spare + 1
  | .agg parts => uptoBulkAll parts + 1
  | .iface _ d => uptoBulk d + 1
  | .map entries => uptoBulkEntries entries + 1
  | .held _ => 1
def uptoBulkAll {H : Type} : List (DataW H) → Nat
  | [] => 0
  | d :: r => uptoBulk d + uptoBulkAll r
def uptoBulkEntries {H : Type} : List (Lit × DataW H) → Nat
  | [] => 0
  | x :: r => uptoBulkEntry x + uptoBulkEntries r
def uptoBulkEntry {H : Type} : Lit × DataW H → Nat
  | (.string bytes, d) => bytes.length + uptoBulk d + 1
  | (_, d) => uptoBulk d + 1
 end
def uptoSmall : (H : Type) → List (DataW H) → Bool := fun _ ds => decide (uptoBulkAll ds ≤ 1048576)
def OpenSpec.upto (s : _root_.Go.ChangeSpec) : _root_.Go.OpenSpec := { _root_.Go.OpenSpec.ofChange s with cond := some uptoSmall }

/-- 'yesteryearlaw17.MergeRows', WHERE WHAT IT READS IS OF BULK AT MOST 1048576: true; the input reads as it did. -/
def mergeRowsUptoRow : OpenClaim := { program := "ytmbphmckakigaaa", sum := "6f4e761d1808610bd98262c39c363f0c84e77632b3c2ff03297c0aa10d23d723", func := "yesteryear/yesteryearlaw17.MergeRows", spec := "mergeRows", unfollowed := true, recurses := true, apart := false, narrowed := true }
def MergeRowsUptoSaid : Prop := mergeRowsUptoRow.holds Try.pinned (OpenSpec.upto mergeRowsSpec)

/-- 'yesteryearlaw35.CheckFinds', WHERE WHAT IT READS IS OF BULK AT MOST 1048576: true; the input reads as it did. -/
def checkFindsUptoRow : OpenClaim := { program := "ytmbphmckakigaaa", sum := "6f4e761d1808610bd98262c39c363f0c84e77632b3c2ff03297c0aa10d23d723", func := "yesteryear/yesteryearlaw35.CheckFinds", spec := "checkFinds", unfollowed := true, recurses := true, apart := false, narrowed := true }
def CheckFindsUptoSaid : Prop := checkFindsUptoRow.holds Try.pinned (OpenSpec.upto checkFindsSpec)

/-- 'yesteryearlaw34.WalkNodes', WHERE WHAT IT READS IS OF BULK AT MOST 1048576: true; the input reads as it did. -/
def walkNodesUptoRow : OpenClaim := { program := "ytmbphmckakigaaa", sum := "6f4e761d1808610bd98262c39c363f0c84e77632b3c2ff03297c0aa10d23d723", func := "yesteryear/yesteryearlaw34.WalkNodes", spec := "walkNodes", inPlace := ["slices.overlaps[*yesteryear/node.Node]", "slices.overlaps[yesteryear/api.Entry]"], unfollowed := true, recurses := true, apart := false, narrowed := true }
def WalkNodesUptoSaid : Prop := walkNodesUptoRow.holds Try.pinned (OpenSpec.upto walkNodesSpec)

/-- 'yesteryearlaw34.WalkRanges', WHERE WHAT IT READS IS OF BULK AT MOST 1048576: true; the input reads as it did. -/
def walkRangesUptoRow : OpenClaim := { program := "ytmbphmckakigaaa", sum := "6f4e761d1808610bd98262c39c363f0c84e77632b3c2ff03297c0aa10d23d723", func := "yesteryear/yesteryearlaw34.WalkRanges", spec := "walkRanges", inPlace := ["slices.overlaps[*yesteryear/node.Node]", "slices.overlaps[yesteryear/api.Entry]"], unfollowed := true, recurses := true, apart := false, narrowed := true }
def WalkRangesUptoSaid : Prop := walkRangesUptoRow.holds Try.pinned (OpenSpec.upto walkRangesSpec)

/-- 'yesteryearlaw35.CheckFine', WHERE WHAT IT READS IS OF BULK AT MOST 1048576: true; the input reads as it did. -/
def checkFineUptoRow : OpenClaim := { program := "ytmbphmckakigaaa", sum := "6f4e761d1808610bd98262c39c363f0c84e77632b3c2ff03297c0aa10d23d723", func := "yesteryear/yesteryearlaw35.CheckFine", spec := "checkFine", inPlace := ["slices.overlaps[*yesteryear/node.Node]", "slices.overlaps[yesteryear/api.Entry]"], unfollowed := true, recurses := true, apart := false, narrowed := true }
def CheckFineUptoSaid : Prop := checkFineUptoRow.holds Try.pinned (OpenSpec.upto checkFineSpec)

end Rows
end Go.Proofs.Ytmbphmckakigaaa
