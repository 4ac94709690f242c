/-
  No cell of these rows narrows 'for every input' (looked for: loops, veiled, ifaces, maps, wideKeys, modest, calm, conditions, laid).
  DERIVED. THE GIVEN ROWS OF THIS SEAT. 3 by the template 'for every input the law returns true; each argument reads behind the call as it read before'; 0 by the template 'total and deterministic' (their statements: YteajefmnbalofaaTotals.lean).
  GIVEN WITH THE SEED: the statements are not yours to turn. If you find one false, say at which input.
  Laid BY PROGRAM, IN A SANDBOX (cutbox-rows.mjs): the forced cells as the released guide's own fill.sh prints them over the translation d18a9f8bd5c302bb… (all of the seat's roots in one cut). By AI agents, Wed Nov 11 2026. No macro, syntax, notation, axiom, sorry.
-/
import Derived.Test.YteajefmnbalofaaChecked
import GoSem.Claim
import GoSem.ClaimJoined
import GoSem.ClaimMapViews
import Derived.JoinedTies
import Derived.KernelRfl
namespace Go.Proofs.Yteajefmnbalofaa
/- THE CELL 'sum', in the pinned program and in every row, IS THE sha256 OF THE DUMP (.gsa) THAT YteajefmnbalofaaProg.lean LOADS. Nothing in Lean hashes anything: it is a label: what it is worth is what the hold of that sum in a sandbox is worth. -/
noncomputable def Try.pinned : Pinned := { name := "yteajefmnbalofaa", sum := "d18a9f8bd5c302bb3adedd90d85d57e42fd3b553535428870008400c785c9b57", checked := Try.checked }
namespace Rows
def none {H : Type} : Left H := { results := [], args := [] }

/-- 'yesteryearlaw30.TxlogAppends': WHATEVER THE INPUT: true; the input reads as it did. -/
def txlogAppendsSpec : ChangeSpec := { name := "txlogAppends", fn := fun _ => fun
  | [d1, d2, d3] => { results := [.lit (.bool true)], args := [d1, d2, d3] }
  | _ => none }
def txlogAppendsRow : OpenClaim := { program := "yteajefmnbalofaa", sum := "d18a9f8bd5c302bb3adedd90d85d57e42fd3b553535428870008400c785c9b57", func := "yesteryear/yesteryearlaw30.TxlogAppends", spec := "txlogAppends", unfollowed := true, recurses := true, apart := false }
def TxlogAppendsSaid : Prop := txlogAppendsRow.holds Try.pinned (OpenSpec.ofChange txlogAppendsSpec)

/-- ITS FALSE NEIGHBOUR: 'it returns false'. Refute it at one input. -/
def txlogAppendsWrong : ChangeSpec := { name := "txlogAppends", fn := fun _ => fun
  | [d1, d2, d3] => { results := [.lit (.bool false)], args := [d1, d2, d3] }
  | _ => none }
def TxlogAppendsWrongFalsely : Prop := txlogAppendsRow.holds Try.pinned (OpenSpec.ofChange txlogAppendsWrong)

/-- 'yesteryearlaw30.TxlogCrash': WHATEVER THE INPUT: true; the input reads as it did. -/
def txlogCrashSpec : ChangeSpec := { name := "txlogCrash", fn := fun _ => fun
  | [d1, d2, d3] => { results := [.lit (.bool true)], args := [d1, d2, d3] }
  | _ => none }
def txlogCrashRow : OpenClaim := { program := "yteajefmnbalofaa", sum := "d18a9f8bd5c302bb3adedd90d85d57e42fd3b553535428870008400c785c9b57", func := "yesteryear/yesteryearlaw30.TxlogCrash", spec := "txlogCrash", unfollowed := true, recurses := true, apart := false }
def TxlogCrashSaid : Prop := txlogCrashRow.holds Try.pinned (OpenSpec.ofChange txlogCrashSpec)

/-- ITS FALSE NEIGHBOUR: 'it returns false'. Refute it at one input. -/
def txlogCrashWrong : ChangeSpec := { name := "txlogCrash", fn := fun _ => fun
  | [d1, d2, d3] => { results := [.lit (.bool false)], args := [d1, d2, d3] }
  | _ => none }
def TxlogCrashWrongFalsely : Prop := txlogCrashRow.holds Try.pinned (OpenSpec.ofChange txlogCrashWrong)

/-- 'yesteryearlaw37.ChainBack': WHATEVER THE INPUT: true; the input reads as it did. -/
def chainBackSpec : ChangeSpec := { name := "chainBack", fn := fun _ => fun
  | [d1, d2, d3] => { results := [.lit (.bool true)], args := [d1, d2, d3] }
  | _ => none }
def chainBackRow : OpenClaim := { program := "yteajefmnbalofaa", sum := "d18a9f8bd5c302bb3adedd90d85d57e42fd3b553535428870008400c785c9b57", func := "yesteryear/yesteryearlaw37.ChainBack", spec := "chainBack", unfollowed := true, recurses := true, apart := false }
def ChainBackSaid : Prop := chainBackRow.holds Try.pinned (OpenSpec.ofChange chainBackSpec)

/-- ITS FALSE NEIGHBOUR: 'it returns false'. Refute it at one input. -/
def chainBackWrong : ChangeSpec := { name := "chainBack", fn := fun _ => fun
  | [d1, d2, d3] => { results := [.lit (.bool false)], args := [d1, d2, d3] }
  | _ => none }
def ChainBackWrongFalsely : Prop := chainBackRow.holds Try.pinned (OpenSpec.ofChange chainBackWrong)

/- THE SECOND FORM. 'bulk': how many values and letters a reading holds, each counted each time it is reached (what is shared counts as often as it is met; a slice's spare places count too). A statement '..UptoSaid' is the law's where the arguments, and the package variables that the reading takes, are together of bulk at most 1048576: NARROWER than '..Said'. Prove '..Said' where nothing that the law and all that it calls make is longer than what came in: it says more and counts as full. Else prove '..UptoSaid'. A law counts once. -/
mutual
def uptoBulk {H : Type} : DataW H → Nat
  | .lit (.string bytes) => bytes.length + 1
  | .lit _ => 1
  | .nil => 1
  | .ptr d => uptoBulk d + 1
  | .slice elems spare => uptoBulkAll elems + uptoBulkAll spare + 1
  | .agg parts => uptoBulkAll parts + 1
  | .iface _ d => uptoBulk d + 1
  | .map entries => uptoBulkEntries entries + 1
  | .held _ => 1
def uptoBulkAll {H : Type} : List (DataW H) → Nat
  | [] => 0
  | d :: r => uptoBulk d + uptoBulkAll r
def uptoBulkEntries {H : Type} : List (Lit × DataW H) → Nat
  | [] => 0
  | x :: r => uptoBulkEntry x + uptoBulkEntries r
def uptoBulkEntry {H : Type} : Lit × DataW H → Nat
  | (.string bytes, d) => bytes.length + uptoBulk d + 1
  | (_, d) => uptoBulk d + 1
 end
def uptoSmall : (H : Type) → List (DataW H) → Bool := fun _ ds => decide (uptoBulkAll ds ≤ 1048576)
def OpenSpec.upto (s : _root_.Go.ChangeSpec) : _root_.Go.OpenSpec := { _root_.Go.OpenSpec.ofChange s with cond := some uptoSmall }

/-- 'yesteryearlaw30.TxlogAppends', WHERE WHAT IT READS IS OF BULK AT MOST 1048576: true; the input reads as it did. -/
def txlogAppendsUptoRow : OpenClaim := { program := "yteajefmnbalofaa", sum := "d18a9f8bd5c302bb3adedd90d85d57e42fd3b553535428870008400c785c9b57", func := "yesteryear/yesteryearlaw30.TxlogAppends", spec := "txlogAppends", unfollowed := true, recurses := true, apart := false, narrowed := true }
def TxlogAppendsUptoSaid : Prop := txlogAppendsUptoRow.holds Try.pinned (OpenSpec.upto txlogAppendsSpec)

/-- 'yesteryearlaw30.TxlogCrash', WHERE WHAT IT READS IS OF BULK AT MOST 1048576: true; the input reads as it did. -/
def txlogCrashUptoRow : OpenClaim := { program := "yteajefmnbalofaa", sum := "d18a9f8bd5c302bb3adedd90d85d57e42fd3b553535428870008400c785c9b57", func := "yesteryear/yesteryearlaw30.TxlogCrash", spec := "txlogCrash", unfollowed := true, recurses := true, apart := false, narrowed := true }
def TxlogCrashUptoSaid : Prop := txlogCrashUptoRow.holds Try.pinned (OpenSpec.upto txlogCrashSpec)

/-- 'yesteryearlaw37.ChainBack', WHERE WHAT IT READS IS OF BULK AT MOST 1048576: true; the input reads as it did. -/
def chainBackUptoRow : OpenClaim := { program := "yteajefmnbalofaa", sum := "d18a9f8bd5c302bb3adedd90d85d57e42fd3b553535428870008400c785c9b57", func := "yesteryear/yesteryearlaw37.ChainBack", spec := "chainBack", unfollowed := true, recurses := true, apart := false, narrowed := true }
def ChainBackUptoSaid : Prop := chainBackUptoRow.holds Try.pinned (OpenSpec.upto chainBackSpec)

end Rows
end Go.Proofs.Yteajefmnbalofaa
