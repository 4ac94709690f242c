/- The statement NeedEnough: for every input the law returns true, and every argument reads as before. Lifted from the walk. -/
import Derived.Test.YtobecmablabmeaaRows
import Derived.WalkKit
import Derived.ProofKit
import Derived.OpenShut
import Derived.ShutString
import Derived.ChangeOld
import Derived.Below
import Derived.Test.YtobecmablabmeaaNeedLaw2
import Derived.Test.YtobecmablabmeaaOpen
namespace Go.Proofs.Ytobecmablabmeaa.needEnough
open Go.ChangeShapes Go.WideShapes Go.ChangeAt Go.RowKit
open Go.ChangeMaps (open_string shut_string)
set_option linter.unusedVariables false

theorem own : ownKnob Try.prog.godebug = none := by kernel_rfl
theorem laidOut : laidOutB Try.prog = true := by kernel_rfl
open Mem Need
theorem op_of {H : Type} {enc : TypeId × Value → H} {W : World} {base : Nat} {v : Value} {d : DataW H} {p : List MemPlace} (hv : Value.okWide Try.prog W .any base 41 v) (h : DataW.Trod enc Try.prog W 0 (fun _ => true) true 41 v d p) :
    ∃ (k vo i bl ct pt : Int) (A1 A2 : Option Addr) (n1 c1 n2 c2 : Nat), v = .agg #[.int .i64 k, .int .i64 vo, .int .i64 i, .int .i64 bl, .int .i64 ct, .int .u64 pt, .slice A1 n1 c1, .slice A2 n2 c2] ∧ True := by
  obtain ⟨V, rfl, hf⟩ := open_struct Try.underlying41 (by kernel_rfl) (by kernel_rfl) hv h
  obtain ⟨_, _, g0⟩ := hf 0 _ rfl
  obtain ⟨_, _, g1⟩ := hf 1 _ rfl
  obtain ⟨_, _, g2⟩ := hf 2 _ rfl
  obtain ⟨_, _, g3⟩ := hf 3 _ rfl
  obtain ⟨_, _, g4⟩ := hf 4 _ rfl
  obtain ⟨_, _, g5⟩ := hf 5 _ rfl
  obtain ⟨_, _, g6⟩ := hf 6 _ rfl
  obtain ⟨_, _, g7⟩ := hf 7 _ rfl
  obtain ⟨k, e0, _⟩ := int_field Try.underlying3 g0
  obtain ⟨vo, e1, _⟩ := int_field Try.underlying3 g1
  obtain ⟨i, e2, _⟩ := int_field Try.underlying3 g2
  obtain ⟨bl, e3, _⟩ := int_field Try.underlying3 g3
  obtain ⟨ct, e4, _⟩ := int_field Try.underlying3 g4
  obtain ⟨pt, e5, _⟩ := int_field Try.underlying24 g5
  obtain ⟨A1, n1, c1, e6⟩ := slice_field Try.underlying38 g6
  obtain ⟨A2, n2, c2, e7⟩ := slice_field Try.underlying39 g7
  refine ⟨k, vo, i, bl, ct, pt, A1, A2, n1, c1, n2, c2, ?_, trivial⟩
  rw [← e0, ← e1, ← e2, ← e3, ← e4, ← e5, ← e6, ← e7]; rfl
theorem four_of {H : Type} {enc : TypeId × Value → H} {W : World} {base : Nat} {v : Value} {d : DataW H} {p : List MemPlace} (hv : Value.okWide Try.prog W .any base 42 v) (h : DataW.Trod enc Try.prog W 0 (fun _ => true) true 42 v d p) :
    ∃ Z : Nat → Int, v = .agg #[.int .i64 (Z 0), .int .i64 (Z 1), .int .i64 (Z 2), .int .i64 (Z 3)] ∧ True := by
  obtain ⟨Z, rfl, _⟩ := open_array_ints Try.underlying42 Try.underlying3 (by kernel_rfl) (by kernel_rfl) hv h
  exact ⟨Z, rfl, trivial⟩
theorem walk (k vo i bl ct pt : Int) (A1 A2 : Option Addr) (n1 c1 n2 c2 : Nat) (Z : Nat → Int) (W : World) (_ : True) (_ : True) :
    Calls Try.prog 7 #[.agg #[.int .i64 k, .int .i64 vo, .int .i64 i, .int .i64 bl, .int .i64 ct, .int .u64 pt, .slice A1 n1 c1, .slice A2 n2 c2], .agg #[.int .i64 (Z 0), .int .i64 (Z 1), .int .i64 (Z 2), .int .i64 (Z 3)]] W fun e w' => e = .returned (.bool true) ∧ Below W.heap.size W w' :=
  enoughLaw_any Z k vo i bl ct pt A1 A2 n1 c1 n2 c2 W


set_option maxRecDepth 100000 in
theorem lifted (os : Os) (started : os.Started) (H : Type) (enc : TypeId × Value → H) :
    ReturnsInHanded {} Try.checked os 7 .any (Rows.needEnoughSpec.pre6 enc Try.prog Try.f7 Rows.needEnoughRow.domain false) (Rows.needEnoughSpec.post enc Try.prog Try.f7 false true false false) := by
  refine returnsInHanded_of_change (C := Try.checked) own started (by kernel_rfl) Try.func7
    (ChangeSpec.witness6 (enc := enc) (C := Try.checked) false ⟨#[], #[.agg #[.int .i64 0, .int .i64 0, .int .i64 0, .int .i64 0, .int .i64 0, .int .u64 0, .slice none 0 0, .slice none 0 0], .agg #[.int .i64 0, .int .i64 0, .int .i64 0, .int .i64 0]], []⟩ 12 (by kernel_rfl) (by kernel_rfl) (by kernel_rfl) (by kernel_rfl)) ?_
  intro W base args ds gs before hval0 hW hcnd _
  have hval : ∀ (j : Nat) t v, Try.f7.params[j]? = some t → args[j]? = some v → Value.okWide Try.prog W .any base t v := hval0
  have hW' := hW
  obtain ⟨p, q, hA0, hV, rfl, hfz, hnd⟩ := hW
  have hA : DataW.TrodAll enc Try.prog W 0 (fun _ => true) true Try.f7.params.toList args.toList ds p := hA0
  rw [Try.params7] at hA hval
  obtain ⟨v0, vs0, d0, ds0, p0, q0, hargs, rfl, rfl, h0, r0⟩ := trodAll_cons hA
  obtain ⟨v1, vs1, d1, ds1, p1, q1, rfl, rfl, rfl, h1, r1⟩ := trodAll_cons r0
  obtain ⟨rfl, rfl, rfl⟩ := trodAll_nil r1
  obtain rfl : args = #[v0, v1] := by cases args; simp_all
  obtain ⟨rfl, rfl⟩ := trodVars_none hV
  have ltk0 : ∀ x ∈ p0, x.block < W.heap.size := by obtain ⟨m, hm⟩ := h0; exact DataW.trod_lt m _ _ _ hm
  have rdk0 := h0
  have ltk1 : ∀ x ∈ p1, x.block < W.heap.size := by obtain ⟨m, hm⟩ := h1; exact DataW.trod_lt m _ _ _ hm
  have rdk1 := h1
  obtain ⟨k0, vo0, i0, bl0, ct0, pt0, A1_0, A2_0, n1_0, c1_0, n2_0, c2_0, rfl, w0⟩ := op_of (hval 0 41 v0 rfl rfl) h0
  obtain ⟨Z1, rfl, w1⟩ := four_of (hval 1 42 v1 rfl rfl) h1
  clear hA0 hval0
  refine (walk k0 vo0 i0 bl0 ct0 pt0 A1_0 A2_0 n1_0 c1_0 n2_0 c2_0 Z1 W w0 w1).mono fun e W' ⟨he, bel⟩ => ?_
  subst he
  exact ⟨_, rfl, _, _, _, [], _, [], hW', trodAll_mk1 (shut_bool Try.underlying4 _), (trodAll_cons_mk (Below.trod laidOut (by kernel_rfl) (of_decide_eq_true (by kernel_rfl)) rdk0 bel ltk0) (trodAll_cons_mk (Below.trod laidOut (by kernel_rfl) (of_decide_eq_true (by kernel_rfl)) rdk1 bel ltk1) trodAll_mk0)), rfl, bel.frame _, fun h => by cases h⟩

theorem over : Rows.needEnoughRow.holds Try.pinned (OpenSpec.ofChange Rows.needEnoughSpec) :=
  OpenClaim.holds_of_wide 7 Try.f7 rfl rfl rfl rfl rfl rfl rfl ⟨rfl, rfl, rfl, rfl, rfl⟩ rfl rfl rfl rfl rfl (by kernel_rfl) Try.func7 (by kernel_rfl)
    (of_decide_eq_true (by kernel_rfl)) (by unfold Func.isWrapper; first | (rw [if_pos (by decide +kernel)]; kernel_rfl) | (rw [if_neg (by decide +kernel)]; exact ⟨rfl, rfl⟩))
    (fun os started H enc _ => lifted os started H enc)

theorem proved : Rows.NeedEnoughSaid := over
#print axioms proved
end Go.Proofs.Ytobecmablabmeaa.needEnough
