/- The statement TxlogCrash: for every input the law returns true, and every argument reads as before. Lifted from the walk. -/
import Derived.Test.YteajefmnbalofaaRows
import Derived.WalkKit
import Derived.ProofKit
import Derived.OpenShut
import Derived.ShutString
import Derived.ChangeOld
import Derived.Below
import Derived.Test.YteajefmnbalofaaTx6
import Derived.Test.YteajefmnbalofaaTx7
namespace Go.Proofs.Yteajefmnbalofaa.txlogCrash
open Go.ChangeShapes Go.WideShapes Go.ChangeAt Go.RowKit
open Go.ChangeMaps (open_string shut_string)
set_option linter.unusedVariables false

theorem own : ownKnob Try.prog.godebug = none := by kernel_rfl
theorem laidOut : laidOutB Try.prog = true := by kernel_rfl
open Mem Tx
set_option maxRecDepth 100000 in
theorem case_of' {H : Type} {enc : TypeId × Value → H} {W : World} {base : Nat} {v : Value} {d : DataW H} {p : List MemPlace} (hv : Value.okWide Try.prog W .any base 24 v) (h : DataW.Trod enc Try.prog W 0 (fun _ => true) true 24 v d p) :
    ∃ (a : Int) (b c : Nat), v = .agg #[.int .i64 a, .int .u64 (b : Nat), .int .u64 (c : Nat)] ∧ (b ≤ 18446744073709551615) := case_of hv h
set_option maxRecDepth 100000 in
theorem pair2_of' {H : Type} {enc : TypeId × Value → H} {W : World} {base : Nat} {v : Value} {d : DataW H} {p : List MemPlace} (hv : Value.okWide Try.prog W .any base 51 v) (h : DataW.Trod enc Try.prog W 0 (fun _ => true) true 51 v d p) :
    ∃ a b : Int, v = .agg #[.int .i64 a, .int .i64 b] ∧ (True) := pair2_of hv h
set_option maxRecDepth 100000 in
theorem bools_of' {H : Type} {enc : TypeId × Value → H} {W : World} {base : Nat} {v : Value} {d : DataW H} {p : List MemPlace} (hv : Value.okWide Try.prog W .any base 52 v) (h : DataW.Trod enc Try.prog W 0 (fun _ => true) true 52 v d p) :
    ∃ (A : Option Addr) (n c : Nat) (L : List Bool), v = .slice A n c ∧ (n = L.length ∧ Gx.Rd1 W (Gx.sl A 1 Dk.BoE L)) := bools_of hv h
theorem walk (a : Int) (b d : Nat) (x y : Int) (A : Option Addr) (n c : Nat) (L : List Bool) (W : World) (h1 : b ≤ 18446744073709551615) (_ : True) (h : n = L.length ∧ Gx.Rd1 W (Gx.sl A 1 Dk.BoE L)) :
    Calls Try.prog 4 #[.agg #[.int .i64 a, .int .u64 (b : Nat), .int .u64 (d : Nat)], .agg #[.int .i64 x, .int .i64 y], .slice A n c] W fun e w' => e = .returned (.bool true) ∧ Below W.heap.size W w' :=
  TxC.crash_any a b d x y A n c L W h1 h.1 h.2


set_option maxRecDepth 100000 in
theorem lifted (os : Os) (started : os.Started) (H : Type) (enc : TypeId × Value → H) :
    ReturnsInHanded {} Try.checked os 4 .any (Rows.txlogCrashSpec.pre6 enc Try.prog Try.f4 Rows.txlogCrashRow.domain false) (Rows.txlogCrashSpec.post enc Try.prog Try.f4 false true false false) := by
  refine returnsInHanded_of_change (C := Try.checked) own started (by kernel_rfl) Try.func4
    (ChangeSpec.witness6 (enc := enc) (C := Try.checked) false ⟨#[], #[.agg #[.int .i64 0, .int .u64 0, .int .u64 0], .agg #[.int .i64 0, .int .i64 0], .slice none 0 0], []⟩ 12 (by kernel_rfl) (by kernel_rfl) (by kernel_rfl) (by kernel_rfl)) ?_
  intro W base args ds gs before hval0 hW hcnd _
  have hval : ∀ (j : Nat) t v, Try.f4.params[j]? = some t → args[j]? = some v → Value.okWide Try.prog W .any base t v := hval0
  have hW' := hW
  obtain ⟨p, q, hA0, hV, rfl, hfz, hnd⟩ := hW
  have hA : DataW.TrodAll enc Try.prog W 0 (fun _ => true) true Try.f4.params.toList args.toList ds p := hA0
  rw [Try.params4] at hA hval
  obtain ⟨v0, vs0, d0, ds0, p0, q0, hargs, rfl, rfl, h0, r0⟩ := trodAll_cons hA
  obtain ⟨v1, vs1, d1, ds1, p1, q1, rfl, rfl, rfl, h1, r1⟩ := trodAll_cons r0
  obtain ⟨v2, vs2, d2, ds2, p2, q2, rfl, rfl, rfl, h2, r2⟩ := trodAll_cons r1
  obtain ⟨rfl, rfl, rfl⟩ := trodAll_nil r2
  obtain rfl : args = #[v0, v1, v2] := by cases args; simp_all
  obtain ⟨rfl, rfl⟩ := trodVars_none hV
  have ltk0 : ∀ x ∈ p0, x.block < W.heap.size := by obtain ⟨m, hm⟩ := h0; exact DataW.trod_lt m _ _ _ hm
  have rdk0 := h0
  have ltk1 : ∀ x ∈ p1, x.block < W.heap.size := by obtain ⟨m, hm⟩ := h1; exact DataW.trod_lt m _ _ _ hm
  have rdk1 := h1
  have ltk2 : ∀ x ∈ p2, x.block < W.heap.size := by obtain ⟨m, hm⟩ := h2; exact DataW.trod_lt m _ _ _ hm
  have rdk2 := h2
  obtain ⟨a0, b0, d0, rfl, w0⟩ := case_of' (hval 0 24 v0 rfl rfl) h0
  obtain ⟨x1, y1, rfl, w1⟩ := pair2_of' (hval 1 51 v1 rfl rfl) h1
  obtain ⟨A2, n2, c2, L2, rfl, w2⟩ := bools_of' (hval 2 52 v2 rfl rfl) h2
  clear hA0 hval0
  refine (walk a0 b0 d0 x1 y1 A2 n2 c2 L2 W w0 w1 w2).mono fun e W' ⟨he, bel⟩ => ?_
  subst he
  exact ⟨_, rfl, _, _, _, [], _, [], hW', trodAll_mk1 (shut_bool Try.underlying4 _), (trodAll_cons_mk (Below.trod laidOut (by kernel_rfl) (of_decide_eq_true (by kernel_rfl)) rdk0 bel ltk0) (trodAll_cons_mk (Below.trod laidOut (by kernel_rfl) (of_decide_eq_true (by kernel_rfl)) rdk1 bel ltk1) (trodAll_cons_mk (Below.trod laidOut (by kernel_rfl) (of_decide_eq_true (by kernel_rfl)) rdk2 bel ltk2) trodAll_mk0))), rfl, bel.frame _, fun h => by cases h⟩

theorem over : Rows.txlogCrashRow.holds Try.pinned (OpenSpec.ofChange Rows.txlogCrashSpec) :=
  OpenClaim.holds_of_wide 4 Try.f4 rfl rfl rfl rfl rfl rfl rfl ⟨rfl, rfl, rfl, rfl, rfl⟩ rfl rfl rfl rfl rfl (by kernel_rfl) Try.func4 (by kernel_rfl)
    (of_decide_eq_true (by kernel_rfl)) (by unfold Func.isWrapper; first | (rw [if_pos (by decide +kernel)]; kernel_rfl) | (rw [if_neg (by decide +kernel)]; exact ⟨rfl, rfl⟩))
    (fun os started H enc _ => lifted os started H enc)

theorem proved : Rows.TxlogCrashSaid := over
#print axioms proved
end Go.Proofs.Yteajefmnbalofaa.txlogCrash
