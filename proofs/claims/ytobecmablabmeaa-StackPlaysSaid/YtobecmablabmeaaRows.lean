/-
  No cell of these rows narrows 'for every input' (looked for: loops, veiled, ifaces, maps, wideKeys, modest, calm, conditions, laid).
  DERIVED. THE GIVEN ROWS OF THIS SEAT. 9 by the template 'for every input the law returns true; each argument reads behind the call as it read before'; 0 by the template 'total and deterministic' (their statements: YtobecmablabmeaaTotals.lean).
  GIVEN WITH THE SEED: the statements are not yours to turn. If you find one false, say at which input.
  Laid BY PROGRAM, IN A SANDBOX (cutbox-rows.mjs): the forced cells as the released guide's own fill.sh prints them over the translation c42978b373a08015… (all of the seat's roots in one cut). By AI agents, Wed Nov 11 2026. No macro, syntax, notation, axiom, sorry.
-/
import Derived.Test.YtobecmablabmeaaChecked
import GoSem.Claim
import GoSem.ClaimJoined
import GoSem.ClaimMapViews
import Derived.JoinedTies
import Derived.KernelRfl
namespace Go.Proofs.Ytobecmablabmeaa
/- THE CELL 'sum', in the pinned program and in every row, IS THE sha256 OF THE DUMP (.gsa) THAT YtobecmablabmeaaProg.lean LOADS. Nothing in Lean hashes anything: it is a label: what it is worth is what the hold of that sum in a sandbox is worth. -/
noncomputable def Try.pinned : Pinned := { name := "ytobecmablabmeaa", sum := "c42978b373a08015c9e7f8f80526b87f8d49fb3eb5b6138d8b665480e30d16ad", checked := Try.checked }
namespace Rows
def none {H : Type} : Left H := { results := [], args := [] }

/-- 'yesteryearlaw19.SizesKeep': WHATEVER THE INPUT: true; the input reads as it did. -/
def sizesKeepSpec : ChangeSpec := { name := "sizesKeep", fn := fun _ => fun
  | [d1, d2, d3] => { results := [.lit (.bool true)], args := [d1, d2, d3] }
  | _ => none }
def sizesKeepRow : OpenClaim := { program := "ytobecmablabmeaa", sum := "c42978b373a08015c9e7f8f80526b87f8d49fb3eb5b6138d8b665480e30d16ad", func := "yesteryear/yesteryearlaw19.SizesKeep", spec := "sizesKeep", apart := false }
def SizesKeepSaid : Prop := sizesKeepRow.holds Try.pinned (OpenSpec.ofChange sizesKeepSpec)

/-- ITS FALSE NEIGHBOUR: 'it returns false'. Refute it at one input. -/
def sizesKeepWrong : ChangeSpec := { name := "sizesKeep", fn := fun _ => fun
  | [d1, d2, d3] => { results := [.lit (.bool false)], args := [d1, d2, d3] }
  | _ => none }
def SizesKeepWrongFalsely : Prop := sizesKeepRow.holds Try.pinned (OpenSpec.ofChange sizesKeepWrong)

/-- 'yesteryearlaw03.OverMultiples': WHATEVER THE INPUT: true; the input reads as it did. -/
def overMultiplesSpec : ChangeSpec := { name := "overMultiples", fn := fun _ => fun
  | [d1, d2] => { results := [.lit (.bool true)], args := [d1, d2] }
  | _ => none }
def overMultiplesRow : OpenClaim := { program := "ytobecmablabmeaa", sum := "c42978b373a08015c9e7f8f80526b87f8d49fb3eb5b6138d8b665480e30d16ad", func := "yesteryear/yesteryearlaw03.OverMultiples", spec := "overMultiples", inPlace := ["math/bits.Add64"], apart := false }
def OverMultiplesSaid : Prop := overMultiplesRow.holds Try.pinned (OpenSpec.ofChange overMultiplesSpec)

/-- ITS FALSE NEIGHBOUR: 'it returns false'. Refute it at one input. -/
def overMultiplesWrong : ChangeSpec := { name := "overMultiples", fn := fun _ => fun
  | [d1, d2] => { results := [.lit (.bool false)], args := [d1, d2] }
  | _ => none }
def OverMultiplesWrongFalsely : Prop := overMultiplesRow.holds Try.pinned (OpenSpec.ofChange overMultiplesWrong)

/-- 'yesteryearlaw03.OverBetween': WHATEVER THE INPUT: true; the input reads as it did. -/
def overBetweenSpec : ChangeSpec := { name := "overBetween", fn := fun _ => fun
  | [d1, d2, d3] => { results := [.lit (.bool true)], args := [d1, d2, d3] }
  | _ => none }
def overBetweenRow : OpenClaim := { program := "ytobecmablabmeaa", sum := "c42978b373a08015c9e7f8f80526b87f8d49fb3eb5b6138d8b665480e30d16ad", func := "yesteryear/yesteryearlaw03.OverBetween", spec := "overBetween", inPlace := ["math/bits.Add64"], apart := false }
def OverBetweenSaid : Prop := overBetweenRow.holds Try.pinned (OpenSpec.ofChange overBetweenSpec)

/-- ITS FALSE NEIGHBOUR: 'it returns false'. Refute it at one input. -/
def overBetweenWrong : ChangeSpec := { name := "overBetween", fn := fun _ => fun
  | [d1, d2, d3] => { results := [.lit (.bool false)], args := [d1, d2, d3] }
  | _ => none }
def OverBetweenWrongFalsely : Prop := overBetweenRow.holds Try.pinned (OpenSpec.ofChange overBetweenWrong)

/-- 'yesteryearlaw39.NeedTells': WHATEVER THE INPUT: true; the input reads as it did. -/
def needTellsSpec : ChangeSpec := { name := "needTells", fn := fun _ => fun
  | [d1, d2] => { results := [.lit (.bool true)], args := [d1, d2] }
  | _ => none }
def needTellsRow : OpenClaim := { program := "ytobecmablabmeaa", sum := "c42978b373a08015c9e7f8f80526b87f8d49fb3eb5b6138d8b665480e30d16ad", func := "yesteryear/yesteryearlaw39.NeedTells", spec := "needTells", apart := false }
def NeedTellsSaid : Prop := needTellsRow.holds Try.pinned (OpenSpec.ofChange needTellsSpec)

/-- ITS FALSE NEIGHBOUR: 'it returns false'. Refute it at one input. -/
def needTellsWrong : ChangeSpec := { name := "needTells", fn := fun _ => fun
  | [d1, d2] => { results := [.lit (.bool false)], args := [d1, d2] }
  | _ => none }
def NeedTellsWrongFalsely : Prop := needTellsRow.holds Try.pinned (OpenSpec.ofChange needTellsWrong)

/-- 'yesteryearlaw39.NeedEnough': WHATEVER THE INPUT: true; the input reads as it did. -/
def needEnoughSpec : ChangeSpec := { name := "needEnough", fn := fun _ => fun
  | [d1, d2] => { results := [.lit (.bool true)], args := [d1, d2] }
  | _ => none }
def needEnoughRow : OpenClaim := { program := "ytobecmablabmeaa", sum := "c42978b373a08015c9e7f8f80526b87f8d49fb3eb5b6138d8b665480e30d16ad", func := "yesteryear/yesteryearlaw39.NeedEnough", spec := "needEnough", apart := false }
def NeedEnoughSaid : Prop := needEnoughRow.holds Try.pinned (OpenSpec.ofChange needEnoughSpec)

/-- ITS FALSE NEIGHBOUR: 'it returns false'. Refute it at one input. -/
def needEnoughWrong : ChangeSpec := { name := "needEnough", fn := fun _ => fun
  | [d1, d2] => { results := [.lit (.bool false)], args := [d1, d2] }
  | _ => none }
def NeedEnoughWrongFalsely : Prop := needEnoughRow.holds Try.pinned (OpenSpec.ofChange needEnoughWrong)

/-- 'yesteryearlaw19.SizesTells': WHATEVER THE INPUT: true; the input reads as it did. -/
def sizesTellsSpec : ChangeSpec := { name := "sizesTells", fn := fun _ => fun
  | [d1, d2, d3] => { results := [.lit (.bool true)], args := [d1, d2, d3] }
  | _ => none }
def sizesTellsRow : OpenClaim := { program := "ytobecmablabmeaa", sum := "c42978b373a08015c9e7f8f80526b87f8d49fb3eb5b6138d8b665480e30d16ad", func := "yesteryear/yesteryearlaw19.SizesTells", spec := "sizesTells", apart := false }
def SizesTellsSaid : Prop := sizesTellsRow.holds Try.pinned (OpenSpec.ofChange sizesTellsSpec)

/-- ITS FALSE NEIGHBOUR: 'it returns false'. Refute it at one input. -/
def sizesTellsWrong : ChangeSpec := { name := "sizesTells", fn := fun _ => fun
  | [d1, d2, d3] => { results := [.lit (.bool false)], args := [d1, d2, d3] }
  | _ => none }
def SizesTellsWrongFalsely : Prop := sizesTellsRow.holds Try.pinned (OpenSpec.ofChange sizesTellsWrong)

/-- 'yesteryearlaw19.SizesSame': WHATEVER THE INPUT: true; the input reads as it did. -/
def sizesSameSpec : ChangeSpec := { name := "sizesSame", fn := fun _ => fun
  | [d1, d2, d3] => { results := [.lit (.bool true)], args := [d1, d2, d3] }
  | _ => none }
def sizesSameRow : OpenClaim := { program := "ytobecmablabmeaa", sum := "c42978b373a08015c9e7f8f80526b87f8d49fb3eb5b6138d8b665480e30d16ad", func := "yesteryear/yesteryearlaw19.SizesSame", spec := "sizesSame", apart := false }
def SizesSameSaid : Prop := sizesSameRow.holds Try.pinned (OpenSpec.ofChange sizesSameSpec)

/-- ITS FALSE NEIGHBOUR: 'it returns false'. Refute it at one input. -/
def sizesSameWrong : ChangeSpec := { name := "sizesSame", fn := fun _ => fun
  | [d1, d2, d3] => { results := [.lit (.bool false)], args := [d1, d2, d3] }
  | _ => none }
def SizesSameWrongFalsely : Prop := sizesSameRow.holds Try.pinned (OpenSpec.ofChange sizesSameWrong)

/-- 'yesteryearlaw18.StackPlays': WHATEVER THE INPUT: true; the input reads as it did. -/
def stackPlaysSpec : ChangeSpec := { name := "stackPlays", fn := fun _ => fun
  | [d1, d2] => { results := [.lit (.bool true)], args := [d1, d2] }
  | _ => none }
def stackPlaysRow : OpenClaim := { program := "ytobecmablabmeaa", sum := "c42978b373a08015c9e7f8f80526b87f8d49fb3eb5b6138d8b665480e30d16ad", func := "yesteryear/yesteryearlaw18.StackPlays", spec := "stackPlays", apart := false }
def StackPlaysSaid : Prop := stackPlaysRow.holds Try.pinned (OpenSpec.ofChange stackPlaysSpec)

/-- ITS FALSE NEIGHBOUR: 'it returns false'. Refute it at one input. -/
def stackPlaysWrong : ChangeSpec := { name := "stackPlays", fn := fun _ => fun
  | [d1, d2] => { results := [.lit (.bool false)], args := [d1, d2] }
  | _ => none }
def StackPlaysWrongFalsely : Prop := stackPlaysRow.holds Try.pinned (OpenSpec.ofChange stackPlaysWrong)

/-- 'yesteryearlaw03.OverAdds': WHATEVER THE INPUT: true; the input reads as it did. -/
def overAddsSpec : ChangeSpec := { name := "overAdds", fn := fun _ => fun
  | [d1, d2] => { results := [.lit (.bool true)], args := [d1, d2] }
  | _ => none }
def overAddsRow : OpenClaim := { program := "ytobecmablabmeaa", sum := "c42978b373a08015c9e7f8f80526b87f8d49fb3eb5b6138d8b665480e30d16ad", func := "yesteryear/yesteryearlaw03.OverAdds", spec := "overAdds", inPlace := ["math/bits.Add64", "math/bits.Sub64"], apart := false }
def OverAddsSaid : Prop := overAddsRow.holds Try.pinned (OpenSpec.ofChange overAddsSpec)

/-- ITS FALSE NEIGHBOUR: 'it returns false'. Refute it at one input. -/
def overAddsWrong : ChangeSpec := { name := "overAdds", fn := fun _ => fun
  | [d1, d2] => { results := [.lit (.bool false)], args := [d1, d2] }
  | _ => none }
def OverAddsWrongFalsely : Prop := overAddsRow.holds Try.pinned (OpenSpec.ofChange overAddsWrong)

/- THE SECOND FORM. 'bulk': how many values and letters a reading holds, each counted each time it is reached (what is shared counts as often as it is met; a slice's spare places count too). A statement '..UptoSaid' is the law's where the arguments, and the package variables that the reading takes, are together of bulk at most 1048576: NARROWER than '..Said'. Prove '..Said' where nothing that the law and all that it calls make is longer than what came in: it says more and counts as full. Else prove '..UptoSaid'. A law counts once. -/
mutual
def uptoBulk {H : Type} : DataW H → Nat
  | .lit (.string bytes) => bytes.length + 1
  | .lit _ => 1
  | .nil => 1
  | .ptr d => uptoBulk d + 1
  | .slice elems spare => uptoBulkAll elems + uptoBulkAll spare + 1
  | .agg parts => uptoBulkAll parts + 1
  | .iface _ d => uptoBulk d + 1
  | .map entries => uptoBulkEntries entries + 1
  | .held _ => 1
def uptoBulkAll {H : Type} : List (DataW H) → Nat
  | [] => 0
  | d :: r => uptoBulk d + uptoBulkAll r
def uptoBulkEntries {H : Type} : List (Lit × DataW H) → Nat
  | [] => 0
  | x :: r => uptoBulkEntry x + uptoBulkEntries r
def uptoBulkEntry {H : Type} : Lit × DataW H → Nat
  | (.string bytes, d) => bytes.length + uptoBulk d + 1
  | (_, d) => uptoBulk d + 1
 end
def uptoSmall : (H : Type) → List (DataW H) → Bool := fun _ ds => decide (uptoBulkAll ds ≤ 1048576)
def OpenSpec.upto (s : _root_.Go.ChangeSpec) : _root_.Go.OpenSpec := { _root_.Go.OpenSpec.ofChange s with cond := some uptoSmall }

/-- 'yesteryearlaw19.SizesKeep', WHERE WHAT IT READS IS OF BULK AT MOST 1048576: true; the input reads as it did. -/
def sizesKeepUptoRow : OpenClaim := { program := "ytobecmablabmeaa", sum := "c42978b373a08015c9e7f8f80526b87f8d49fb3eb5b6138d8b665480e30d16ad", func := "yesteryear/yesteryearlaw19.SizesKeep", spec := "sizesKeep", apart := false, narrowed := true }
def SizesKeepUptoSaid : Prop := sizesKeepUptoRow.holds Try.pinned (OpenSpec.upto sizesKeepSpec)

/-- 'yesteryearlaw03.OverMultiples', WHERE WHAT IT READS IS OF BULK AT MOST 1048576: true; the input reads as it did. -/
def overMultiplesUptoRow : OpenClaim := { program := "ytobecmablabmeaa", sum := "c42978b373a08015c9e7f8f80526b87f8d49fb3eb5b6138d8b665480e30d16ad", func := "yesteryear/yesteryearlaw03.OverMultiples", spec := "overMultiples", inPlace := ["math/bits.Add64"], apart := false, narrowed := true }
def OverMultiplesUptoSaid : Prop := overMultiplesUptoRow.holds Try.pinned (OpenSpec.upto overMultiplesSpec)

/-- 'yesteryearlaw03.OverBetween', WHERE WHAT IT READS IS OF BULK AT MOST 1048576: true; the input reads as it did. -/
def overBetweenUptoRow : OpenClaim := { program := "ytobecmablabmeaa", sum := "c42978b373a08015c9e7f8f80526b87f8d49fb3eb5b6138d8b665480e30d16ad", func := "yesteryear/yesteryearlaw03.OverBetween", spec := "overBetween", inPlace := ["math/bits.Add64"], apart := false, narrowed := true }
def OverBetweenUptoSaid : Prop := overBetweenUptoRow.holds Try.pinned (OpenSpec.upto overBetweenSpec)

/-- 'yesteryearlaw39.NeedTells', WHERE WHAT IT READS IS OF BULK AT MOST 1048576: true; the input reads as it did. -/
def needTellsUptoRow : OpenClaim := { program := "ytobecmablabmeaa", sum := "c42978b373a08015c9e7f8f80526b87f8d49fb3eb5b6138d8b665480e30d16ad", func := "yesteryear/yesteryearlaw39.NeedTells", spec := "needTells", apart := false, narrowed := true }
def NeedTellsUptoSaid : Prop := needTellsUptoRow.holds Try.pinned (OpenSpec.upto needTellsSpec)

/-- 'yesteryearlaw39.NeedEnough', WHERE WHAT IT READS IS OF BULK AT MOST 1048576: true; the input reads as it did. -/
def needEnoughUptoRow : OpenClaim := { program := "ytobecmablabmeaa", sum := "c42978b373a08015c9e7f8f80526b87f8d49fb3eb5b6138d8b665480e30d16ad", func := "yesteryear/yesteryearlaw39.NeedEnough", spec := "needEnough", apart := false, narrowed := true }
def NeedEnoughUptoSaid : Prop := needEnoughUptoRow.holds Try.pinned (OpenSpec.upto needEnoughSpec)

/-- 'yesteryearlaw19.SizesTells', WHERE WHAT IT READS IS OF BULK AT MOST 1048576: true; the input reads as it did. -/
def sizesTellsUptoRow : OpenClaim := { program := "ytobecmablabmeaa", sum := "c42978b373a08015c9e7f8f80526b87f8d49fb3eb5b6138d8b665480e30d16ad", func := "yesteryear/yesteryearlaw19.SizesTells", spec := "sizesTells", apart := false, narrowed := true }
def SizesTellsUptoSaid : Prop := sizesTellsUptoRow.holds Try.pinned (OpenSpec.upto sizesTellsSpec)

/-- 'yesteryearlaw19.SizesSame', WHERE WHAT IT READS IS OF BULK AT MOST 1048576: true; the input reads as it did. -/
def sizesSameUptoRow : OpenClaim := { program := "ytobecmablabmeaa", sum := "c42978b373a08015c9e7f8f80526b87f8d49fb3eb5b6138d8b665480e30d16ad", func := "yesteryear/yesteryearlaw19.SizesSame", spec := "sizesSame", apart := false, narrowed := true }
def SizesSameUptoSaid : Prop := sizesSameUptoRow.holds Try.pinned (OpenSpec.upto sizesSameSpec)

/-- 'yesteryearlaw18.StackPlays', WHERE WHAT IT READS IS OF BULK AT MOST 1048576: true; the input reads as it did. -/
def stackPlaysUptoRow : OpenClaim := { program := "ytobecmablabmeaa", sum := "c42978b373a08015c9e7f8f80526b87f8d49fb3eb5b6138d8b665480e30d16ad", func := "yesteryear/yesteryearlaw18.StackPlays", spec := "stackPlays", apart := false, narrowed := true }
def StackPlaysUptoSaid : Prop := stackPlaysUptoRow.holds Try.pinned (OpenSpec.upto stackPlaysSpec)

/-- 'yesteryearlaw03.OverAdds', WHERE WHAT IT READS IS OF BULK AT MOST 1048576: true; the input reads as it did. -/
def overAddsUptoRow : OpenClaim := { program := "ytobecmablabmeaa", sum := "c42978b373a08015c9e7f8f80526b87f8d49fb3eb5b6138d8b665480e30d16ad", func := "yesteryear/yesteryearlaw03.OverAdds", spec := "overAdds", inPlace := ["math/bits.Add64", "math/bits.Sub64"], apart := false, narrowed := true }
def OverAddsUptoSaid : Prop := overAddsUptoRow.holds Try.pinned (OpenSpec.upto overAddsSpec)

end Rows
end Go.Proofs.Ytobecmablabmeaa
