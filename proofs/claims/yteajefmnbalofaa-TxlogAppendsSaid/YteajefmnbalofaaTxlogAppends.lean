/- The statement TxlogAppends: for every input the law returns true, and every argument reads as before. Lifted from the walk. -/
import Derived.Test.YteajefmnbalofaaRows
import Derived.WalkKit
import Derived.ProofKit
import Derived.OpenShut
import Derived.ShutString
import Derived.ChangeOld
import Derived.Below
import Derived.Test.YteajefmnbalofaaTx7
namespace Go.Proofs.Yteajefmnbalofaa.txlogAppends
open Go.ChangeShapes Go.WideShapes Go.ChangeAt Go.RowKit
open Go.ChangeMaps (open_string shut_string)
set_option linter.unusedVariables false

theorem own : ownKnob Try.prog.godebug = none := by kernel_rfl
theorem laidOut : laidOutB Try.prog = true := by kernel_rfl
open Mem Tx
set_option maxRecDepth 100000 in
theorem case_of' {H : Type} {enc : TypeId × Value → H} {W : World} {base : Nat} {v : Value} {d : DataW H} {p : List MemPlace} (hv : Value.okWide Try.prog W .any base 24 v) (h : DataW.Trod enc Try.prog W 0 (fun _ => true) true 24 v d p) :
    ∃ (a : Int) (b c : Nat), v = .agg #[.int .i64 a, .int .u64 (b : Nat), .int .u64 (c : Nat)] ∧ (b ≤ 18446744073709551615) := case_of hv h
set_option maxRecDepth 100000 in
theorem ops8_of' {H : Type} {enc : TypeId × Value → H} {W : World} {base : Nat} {v : Value} {d : DataW H} {p : List MemPlace} (hv : Value.okWide Try.prog W .any base 25 v) (h : DataW.Trod enc Try.prog W 0 (fun _ => true) true 25 v d p) :
    ∃ (A : Option Addr) (n c : Nat) (L : List OpA.OpD), v = .slice A n c ∧ (n = L.length ∧ Gx.Rd1 W (Gx.sl A 8 opE L) ∧ (∀ x, x ∈ L → x.Ok ∧ x.Bd) ∧ Gx.Rd1 W (Gx.allF L faO) ∧ Gx.Rd1 W (Gx.allF L fmO)) := ops8_of hv h
theorem walk (a : Int) (b d : Nat) (A : Option Addr) (n c : Nat) (L : List OpA.OpD) (o : Int) (W : World) (h1 : b ≤ 18446744073709551615) (h : n = L.length ∧ Gx.Rd1 W (Gx.sl A 8 opE L) ∧ (∀ x, x ∈ L → x.Ok ∧ x.Bd) ∧ Gx.Rd1 W (Gx.allF L faO) ∧ Gx.Rd1 W (Gx.allF L fmO)) (h3 : (Lit.int .u64 o).wf = true) :
    Calls Try.prog 3 #[.agg #[.int .i64 a, .int .u64 (b : Nat), .int .u64 (d : Nat)], .slice A n c, .int .u64 o] W fun e w' => e = .returned (.bool true) ∧ Below W.heap.size W w' := by
  obtain ⟨q, rfl⟩ := Int.eq_ofNat_of_zero_le (Mem.u64_bd h3).1
  exact appends_any a b d A n c L q W h.1 h1 h.2.2.1 h.2.1 h.2.2.2.1 h.2.2.2.2


set_option maxRecDepth 100000 in
theorem lifted (os : Os) (started : os.Started) (H : Type) (enc : TypeId × Value → H) :
    ReturnsInHanded {} Try.checked os 3 .any (Rows.txlogAppendsSpec.pre6 enc Try.prog Try.f3 Rows.txlogAppendsRow.domain false) (Rows.txlogAppendsSpec.post enc Try.prog Try.f3 false true false false) := by
  refine returnsInHanded_of_change (C := Try.checked) own started (by kernel_rfl) Try.func3
    (ChangeSpec.witness6 (enc := enc) (C := Try.checked) false ⟨#[], #[.agg #[.int .i64 0, .int .u64 0, .int .u64 0], .slice none 0 0, .int .u64 0], []⟩ 12 (by kernel_rfl) (by kernel_rfl) (by kernel_rfl) (by kernel_rfl)) ?_
  intro W base args ds gs before hval0 hW hcnd _
  have hval : ∀ (j : Nat) t v, Try.f3.params[j]? = some t → args[j]? = some v → Value.okWide Try.prog W .any base t v := hval0
  have hW' := hW
  obtain ⟨p, q, hA0, hV, rfl, hfz, hnd⟩ := hW
  have hA : DataW.TrodAll enc Try.prog W 0 (fun _ => true) true Try.f3.params.toList args.toList ds p := hA0
  rw [Try.params3] at hA hval
  obtain ⟨v0, vs0, d0, ds0, p0, q0, hargs, rfl, rfl, h0, r0⟩ := trodAll_cons hA
  obtain ⟨v1, vs1, d1, ds1, p1, q1, rfl, rfl, rfl, h1, r1⟩ := trodAll_cons r0
  obtain ⟨v2, vs2, d2, ds2, p2, q2, rfl, rfl, rfl, h2, r2⟩ := trodAll_cons r1
  obtain ⟨rfl, rfl, rfl⟩ := trodAll_nil r2
  obtain rfl : args = #[v0, v1, v2] := by cases args; simp_all
  obtain ⟨rfl, rfl⟩ := trodVars_none hV
  have ltk0 : ∀ x ∈ p0, x.block < W.heap.size := by obtain ⟨m, hm⟩ := h0; exact DataW.trod_lt m _ _ _ hm
  have rdk0 := h0
  have ltk1 : ∀ x ∈ p1, x.block < W.heap.size := by obtain ⟨m, hm⟩ := h1; exact DataW.trod_lt m _ _ _ hm
  have rdk1 := h1
  have ltk2 : ∀ x ∈ p2, x.block < W.heap.size := by obtain ⟨m, hm⟩ := h2; exact DataW.trod_lt m _ _ _ hm
  have rdk2 := h2
  obtain ⟨a0, b0, d0, rfl, w0⟩ := case_of' (hval 0 24 v0 rfl rfl) h0
  obtain ⟨A1, n1, c1, L1, rfl, w1⟩ := ops8_of' (hval 1 25 v1 rfl rfl) h1
  obtain ⟨a2, rfl, rfl, rfl, w2⟩ := open_int Try.underlying22 (hval 2 22 v2 rfl rfl) h2
  clear hA0 hval0
  refine (walk a0 b0 d0 A1 n1 c1 L1 a2 W w0 w1 w2).mono fun e W' ⟨he, bel⟩ => ?_
  subst he
  exact ⟨_, rfl, _, _, _, [], _, [], hW', trodAll_mk1 (shut_bool Try.underlying4 _), (trodAll_cons_mk (Below.trod laidOut (by kernel_rfl) (of_decide_eq_true (by kernel_rfl)) rdk0 bel ltk0) (trodAll_cons_mk (Below.trod laidOut (by kernel_rfl) (of_decide_eq_true (by kernel_rfl)) rdk1 bel ltk1) (trodAll_cons_mk (Below.trod laidOut (by kernel_rfl) (of_decide_eq_true (by kernel_rfl)) rdk2 bel ltk2) trodAll_mk0))), rfl, bel.frame _, fun h => by cases h⟩

theorem over : Rows.txlogAppendsRow.holds Try.pinned (OpenSpec.ofChange Rows.txlogAppendsSpec) :=
  OpenClaim.holds_of_wide 3 Try.f3 rfl rfl rfl rfl rfl rfl rfl ⟨rfl, rfl, rfl, rfl, rfl⟩ rfl rfl rfl rfl rfl (by kernel_rfl) Try.func3 (by kernel_rfl)
    (of_decide_eq_true (by kernel_rfl)) (by unfold Func.isWrapper; first | (rw [if_pos (by decide +kernel)]; kernel_rfl) | (rw [if_neg (by decide +kernel)]; exact ⟨rfl, rfl⟩))
    (fun os started H enc _ => lifted os started H enc)

theorem proved : Rows.TxlogAppendsSaid := over
#print axioms proved
end Go.Proofs.Yteajefmnbalofaa.txlogAppends
