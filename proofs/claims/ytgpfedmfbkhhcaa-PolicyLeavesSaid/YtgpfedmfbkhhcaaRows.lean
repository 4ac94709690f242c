/-
  No cell of these rows narrows 'for every input' (looked for: loops, veiled, ifaces, maps, wideKeys, modest, calm, conditions, laid).
  DERIVED. THE GIVEN ROWS OF THIS SEAT. 3 by the template 'for every input the law returns true; each argument reads behind the call as it read before'; 0 by the template 'total and deterministic' (their statements: YtgpfedmfbkhhcaaTotals.lean).
  GIVEN WITH THE SEED: the statements are not yours to turn. If you find one false, say at which input.
  Laid BY PROGRAM, IN A SANDBOX (cutbox-rows.mjs): the forced cells as the released guide's own fill.sh prints them over the translation b45958f911d8fb0a… (all of the seat's roots in one cut). By AI agents, Wed Nov 11 2026. No macro, syntax, notation, axiom, sorry.
-/
import Derived.Test.YtgpfedmfbkhhcaaChecked
import GoSem.Claim
import GoSem.ClaimJoined
import GoSem.ClaimMapViews
import Derived.JoinedTies
import Derived.KernelRfl
namespace Go.Proofs.Ytgpfedmfbkhhcaa
/- THE CELL 'sum', in the pinned program and in every row, IS THE sha256 OF THE DUMP (.gsa) THAT YtgpfedmfbkhhcaaProg.lean LOADS. Nothing in Lean hashes anything: it is a label: what it is worth is what the hold of that sum in a sandbox is worth. -/
noncomputable def Try.pinned : Pinned := { name := "ytgpfedmfbkhhcaa", sum := "b45958f911d8fb0aa27bae348271d089e86a9d388ee010b582adfcb8c23fdf5e", checked := Try.checked }
namespace Rows
def none {H : Type} : Left H := { results := [], args := [] }

/-- 'yesteryearlaw58.SchedPlays': WHATEVER THE INPUT: true; the input reads as it did. -/
def schedPlaysSpec : ChangeSpec := { name := "schedPlays", fn := fun _ => fun
  | [d1, d2] => { results := [.lit (.bool true)], args := [d1, d2] }
  | _ => none }
def schedPlaysRow : OpenClaim := { program := "ytgpfedmfbkhhcaa", sum := "b45958f911d8fb0aa27bae348271d089e86a9d388ee010b582adfcb8c23fdf5e", func := "yesteryear/yesteryearlaw58.SchedPlays", spec := "schedPlays", inPlace := ["math/bits.Add64"], unfollowed := true, recurses := true, plainKeys := false, apart := false }
def SchedPlaysSaid : Prop := schedPlaysRow.holds Try.pinned (OpenSpec.ofChange schedPlaysSpec)

/-- ITS FALSE NEIGHBOUR: 'it returns false'. Refute it at one input. -/
def schedPlaysWrong : ChangeSpec := { name := "schedPlays", fn := fun _ => fun
  | [d1, d2] => { results := [.lit (.bool false)], args := [d1, d2] }
  | _ => none }
def SchedPlaysWrongFalsely : Prop := schedPlaysRow.holds Try.pinned (OpenSpec.ofChange schedPlaysWrong)

/-- 'yesteryearlaw24.PolicyRetains': WHATEVER THE INPUT: true; the input reads as it did. -/
def policyRetainsSpec : ChangeSpec := { name := "policyRetains", fn := fun _ => fun
  | [d1, d2, d3] => { results := [.lit (.bool true)], args := [d1, d2, d3] }
  | _ => none }
def policyRetainsRow : OpenClaim := { program := "ytgpfedmfbkhhcaa", sum := "b45958f911d8fb0aa27bae348271d089e86a9d388ee010b582adfcb8c23fdf5e", func := "yesteryear/yesteryearlaw24.PolicyRetains", spec := "policyRetains", inPlace := ["math/bits.Sub64"], unfollowed := true, recurses := true, plainKeys := false, apart := false }
def PolicyRetainsSaid : Prop := policyRetainsRow.holds Try.pinned (OpenSpec.ofChange policyRetainsSpec)

/-- ITS FALSE NEIGHBOUR: 'it returns false'. Refute it at one input. -/
def policyRetainsWrong : ChangeSpec := { name := "policyRetains", fn := fun _ => fun
  | [d1, d2, d3] => { results := [.lit (.bool false)], args := [d1, d2, d3] }
  | _ => none }
def PolicyRetainsWrongFalsely : Prop := policyRetainsRow.holds Try.pinned (OpenSpec.ofChange policyRetainsWrong)

/-- 'yesteryearlaw24.PolicyLeaves': WHATEVER THE INPUT: true; the input reads as it did. -/
def policyLeavesSpec : ChangeSpec := { name := "policyLeaves", fn := fun _ => fun
  | [d1, d2, d3] => { results := [.lit (.bool true)], args := [d1, d2, d3] }
  | _ => none }
def policyLeavesRow : OpenClaim := { program := "ytgpfedmfbkhhcaa", sum := "b45958f911d8fb0aa27bae348271d089e86a9d388ee010b582adfcb8c23fdf5e", func := "yesteryear/yesteryearlaw24.PolicyLeaves", spec := "policyLeaves", inPlace := ["math/bits.Sub64"], unfollowed := true, recurses := true, plainKeys := false, apart := false }
def PolicyLeavesSaid : Prop := policyLeavesRow.holds Try.pinned (OpenSpec.ofChange policyLeavesSpec)

/-- ITS FALSE NEIGHBOUR: 'it returns false'. Refute it at one input. -/
def policyLeavesWrong : ChangeSpec := { name := "policyLeaves", fn := fun _ => fun
  | [d1, d2, d3] => { results := [.lit (.bool false)], args := [d1, d2, d3] }
  | _ => none }
def PolicyLeavesWrongFalsely : Prop := policyLeavesRow.holds Try.pinned (OpenSpec.ofChange policyLeavesWrong)

/- THE SECOND FORM. 'bulk': how many values and letters a reading holds, each counted each time it is reached (what is shared counts as often as it is met; a slice's spare places count too). A statement '..UptoSaid' is the law's where the arguments, and the package variables that the reading takes, are together of bulk at most 1048576: NARROWER than '..Said'. Prove '..Said' where nothing that the law and all that it calls make is longer than what came in: it says more and counts as full. Else prove '..UptoSaid'. A law counts once. -/
mutual
def uptoBulk {H : Type} : DataW H → Nat
  | .lit (.string bytes) => bytes.length + 1
  | .lit _ => 1
  | .nil => 1
  | .ptr d => uptoBulk d + 1
  | .slice elems spare => uptoBulkAll elems + uptoBulkAll spare + 1
  | .agg parts => uptoBulkAll parts + 1
  | .iface _ d => uptoBulk d + 1
  | .map entries => uptoBulkEntries entries + 1
  | .held _ => 1
def uptoBulkAll {H : Type} : List (DataW H) → Nat
  | [] => 0
  | d :: r => uptoBulk d + uptoBulkAll r
def uptoBulkEntries {H : Type} : List (Lit × DataW H) → Nat
  | [] => 0
  | x :: r => uptoBulkEntry x + uptoBulkEntries r
def uptoBulkEntry {H : Type} : Lit × DataW H → Nat
  | (.string bytes, d) => bytes.length + uptoBulk d + 1
  | (_, d) => uptoBulk d + 1
 end
def uptoSmall : (H : Type) → List (DataW H) → Bool := fun _ ds => decide (uptoBulkAll ds ≤ 1048576)
def OpenSpec.upto (s : _root_.Go.ChangeSpec) : _root_.Go.OpenSpec := { _root_.Go.OpenSpec.ofChange s with cond := some uptoSmall }

/-- 'yesteryearlaw58.SchedPlays', WHERE WHAT IT READS IS OF BULK AT MOST 1048576: true; the input reads as it did. -/
def schedPlaysUptoRow : OpenClaim := { program := "ytgpfedmfbkhhcaa", sum := "b45958f911d8fb0aa27bae348271d089e86a9d388ee010b582adfcb8c23fdf5e", func := "yesteryear/yesteryearlaw58.SchedPlays", spec := "schedPlays", inPlace := ["math/bits.Add64"], unfollowed := true, recurses := true, plainKeys := false, apart := false, narrowed := true }
def SchedPlaysUptoSaid : Prop := schedPlaysUptoRow.holds Try.pinned (OpenSpec.upto schedPlaysSpec)

/-- 'yesteryearlaw24.PolicyRetains', WHERE WHAT IT READS IS OF BULK AT MOST 1048576: true; the input reads as it did. -/
def policyRetainsUptoRow : OpenClaim := { program := "ytgpfedmfbkhhcaa", sum := "b45958f911d8fb0aa27bae348271d089e86a9d388ee010b582adfcb8c23fdf5e", func := "yesteryear/yesteryearlaw24.PolicyRetains", spec := "policyRetains", inPlace := ["math/bits.Sub64"], unfollowed := true, recurses := true, plainKeys := false, apart := false, narrowed := true }
def PolicyRetainsUptoSaid : Prop := policyRetainsUptoRow.holds Try.pinned (OpenSpec.upto policyRetainsSpec)

/-- 'yesteryearlaw24.PolicyLeaves', WHERE WHAT IT READS IS OF BULK AT MOST 1048576: true; the input reads as it did. -/
def policyLeavesUptoRow : OpenClaim := { program := "ytgpfedmfbkhhcaa", sum := "b45958f911d8fb0aa27bae348271d089e86a9d388ee010b582adfcb8c23fdf5e", func := "yesteryear/yesteryearlaw24.PolicyLeaves", spec := "policyLeaves", inPlace := ["math/bits.Sub64"], unfollowed := true, recurses := true, plainKeys := false, apart := false, narrowed := true }
def PolicyLeavesUptoSaid : Prop := policyLeavesUptoRow.holds Try.pinned (OpenSpec.upto policyLeavesSpec)

end Rows
end Go.Proofs.Ytgpfedmfbkhhcaa
