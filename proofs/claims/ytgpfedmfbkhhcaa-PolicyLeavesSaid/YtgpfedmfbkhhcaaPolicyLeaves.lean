/- The statement PolicyLeaves: for every input the law returns true, and every argument reads as before. Lifted from the walk. -/
import Derived.Test.YtgpfedmfbkhhcaaRows
import Derived.WalkKit
import Derived.ProofKit
import Derived.OpenShut
import Derived.ShutString
import Derived.ChangeOld
import Derived.Below
import Derived.Test.YtgpfedmfbkhhcaaPoH
import Derived.Test.YtgpfedmfbkhhcaaPoM2
namespace Go.Proofs.Ytgpfedmfbkhhcaa.policyLeaves
open Go.ChangeShapes Go.WideShapes Go.ChangeAt Go.RowKit
open Go.ChangeMaps (open_string shut_string)
set_option linter.unusedVariables false

theorem own : ownKnob Try.prog.godebug = none := by kernel_rfl
theorem laidOut : laidOutB Try.prog = true := by kernel_rfl
open Mem Ct Po
set_option maxRecDepth 100000 in
theorem cat_of' {H : Type} {enc : TypeId × Value → H} {W : World} {base : Nat} {v : Value} {d : DataW H} {p : List MemPlace} (hv : Value.okWide Try.prog W .any base 67 v) (h : DataW.Trod enc Try.prog W 0 (fun _ => true) true 67 v d p) :
    ∃ c : Ct.CatD, v = c.val ∧ (c.Ok ∧ CatB c ∧ Gx.Rd1 W (Ct.catF c)) := cat_of2 hv h
set_option maxRecDepth 100000 in
theorem rule_of' {H : Type} {enc : TypeId × Value → H} {W : World} {base : Nat} {v : Value} {d : DataW H} {p : List MemPlace} (hv : Value.okWide Try.prog W .any base 69 v) (h : DataW.Trod enc Try.prog W 0 (fun _ => true) true 69 v d p) :
    ∃ a b c : Int, v = v3 a b c ∧ (B3 a b c) := rule_of hv h
set_option maxRecDepth 100000 in
theorem at3_of' {H : Type} {enc : TypeId × Value → H} {W : World} {base : Nat} {v : Value} {d : DataW H} {p : List MemPlace} (hv : Value.okWide Try.prog W .any base 78 v) (h : DataW.Trod enc Try.prog W 0 (fun _ => true) true 78 v d p) :
    ∃ a b c : Int, v = v3 a b c ∧ (B3 a b c) := at3_of hv h
theorem walk (c : Ct.CatD) (a b d x y z : Int) (W : World) (h : c.Ok ∧ CatB c ∧ Gx.Rd1 W (Ct.catF c)) (h2 : B3 a b d) (h3 : B3 x y z) :
    Calls Try.prog 5 #[c.val, v3 a b d, v3 x y z] W fun e w' => e = .returned (.bool true) ∧ Below W.heap.size W w' :=
  lleave_any c a b d x y z W h.1 h.2.1 h2.1.1 h2.1.2 h2.2.1.1 h2.2.2.1 h3.1.1 h3.1.2 h.2.2


set_option maxRecDepth 100000 in
theorem lifted (os : Os) (started : os.Started) (H : Type) (enc : TypeId × Value → H) :
    ReturnsInHanded {} Try.checked os 5 .any (Rows.policyLeavesSpec.pre6 enc Try.prog Try.f5 Rows.policyLeavesRow.domain false) (Rows.policyLeavesSpec.post enc Try.prog Try.f5 false true false false) := by
  refine returnsInHanded_of_change (C := Try.checked) own started (by kernel_rfl) Try.func5
    (ChangeSpec.witness6 (enc := enc) (C := Try.checked) false ⟨#[], #[.agg #[.int .i64 0, .int .i64 0, .int .i64 0, .int .u64 0, .slice none 0 0, .slice none 0 0, .slice none 0 0, .slice none 0 0, .slice none 0 0], .agg #[.int .u64 0, .int .u64 0, .int .u64 0], .agg #[.int .u64 0, .int .u64 0, .int .u64 0]], []⟩ 12 (by kernel_rfl) (by kernel_rfl) (by kernel_rfl) (by kernel_rfl)) ?_
  intro W base args ds gs before hval0 hW hcnd _
  have hval : ∀ (j : Nat) t v, Try.f5.params[j]? = some t → args[j]? = some v → Value.okWide Try.prog W .any base t v := hval0
  have hW' := hW
  obtain ⟨p, q, hA0, hV, rfl, hfz, hnd⟩ := hW
  have hA : DataW.TrodAll enc Try.prog W 0 (fun _ => true) true Try.f5.params.toList args.toList ds p := hA0
  rw [Try.params5] at hA hval
  obtain ⟨v0, vs0, d0, ds0, p0, q0, hargs, rfl, rfl, h0, r0⟩ := trodAll_cons hA
  obtain ⟨v1, vs1, d1, ds1, p1, q1, rfl, rfl, rfl, h1, r1⟩ := trodAll_cons r0
  obtain ⟨v2, vs2, d2, ds2, p2, q2, rfl, rfl, rfl, h2, r2⟩ := trodAll_cons r1
  obtain ⟨rfl, rfl, rfl⟩ := trodAll_nil r2
  obtain rfl : args = #[v0, v1, v2] := by cases args; simp_all
  obtain ⟨rfl, rfl⟩ := trodVars_none hV
  have ltk0 : ∀ x ∈ p0, x.block < W.heap.size := by obtain ⟨m, hm⟩ := h0; exact DataW.trod_lt m _ _ _ hm
  have rdk0 := h0
  have ltk1 : ∀ x ∈ p1, x.block < W.heap.size := by obtain ⟨m, hm⟩ := h1; exact DataW.trod_lt m _ _ _ hm
  have rdk1 := h1
  have ltk2 : ∀ x ∈ p2, x.block < W.heap.size := by obtain ⟨m, hm⟩ := h2; exact DataW.trod_lt m _ _ _ hm
  have rdk2 := h2
  obtain ⟨c0, rfl, w0⟩ := cat_of' (hval 0 67 v0 rfl rfl) h0
  obtain ⟨a1, b1, d1, rfl, w1⟩ := rule_of' (hval 1 69 v1 rfl rfl) h1
  obtain ⟨a2, b2, d2, rfl, w2⟩ := at3_of' (hval 2 78 v2 rfl rfl) h2
  clear hA0 hval0
  refine (walk c0 a1 b1 d1 a2 b2 d2 W w0 w1 w2).mono fun e W' ⟨he, bel⟩ => ?_
  subst he
  exact ⟨_, rfl, _, _, _, [], _, [], hW', trodAll_mk1 (shut_bool Try.underlying4 _), (trodAll_cons_mk (Below.trod laidOut (by kernel_rfl) (of_decide_eq_true (by kernel_rfl)) rdk0 bel ltk0) (trodAll_cons_mk (Below.trod laidOut (by kernel_rfl) (of_decide_eq_true (by kernel_rfl)) rdk1 bel ltk1) (trodAll_cons_mk (Below.trod laidOut (by kernel_rfl) (of_decide_eq_true (by kernel_rfl)) rdk2 bel ltk2) trodAll_mk0))), rfl, bel.frame _, fun h => by cases h⟩

theorem over : Rows.policyLeavesRow.holds Try.pinned (OpenSpec.ofChange Rows.policyLeavesSpec) :=
  OpenClaim.holds_of_wide 5 Try.f5 rfl rfl rfl rfl rfl rfl rfl ⟨rfl, rfl, rfl, rfl, rfl⟩ rfl rfl rfl rfl rfl (by kernel_rfl) Try.func5 (by kernel_rfl)
    (of_decide_eq_true (by kernel_rfl)) (by unfold Func.isWrapper; first | (rw [if_pos (by decide +kernel)]; kernel_rfl) | (rw [if_neg (by decide +kernel)]; exact ⟨rfl, rfl⟩))
    (fun os started H enc _ => lifted os started H enc)

theorem proved : Rows.PolicyLeavesSaid := over
#print axioms proved
end Go.Proofs.Ytgpfedmfbkhhcaa.policyLeaves
