/- The statement GroupsChange: for every input the law returns true, and every argument reads as before. Lifted from the walk. -/
import Derived.Test.YtbcdcjiibalnnaaRows
import Derived.WalkKit
import Derived.ProofKit
import Derived.OpenShut
import Derived.ShutString
import Derived.ChangeOld
import Derived.Below
import Derived.Test.YtbcdcjiibalnnaaGrB
namespace Go.Proofs.Ytbcdcjiibalnnaa.groupsChange
open Go.ChangeShapes Go.WideShapes Go.ChangeAt Go.RowKit
open Go.ChangeMaps (open_string shut_string)
set_option linter.unusedVariables false

theorem own : ownKnob Try.prog.godebug = none := by kernel_rfl
theorem laidOut : laidOutB Try.prog = true := by kernel_rfl
open Mem Ct Gx
set_option maxRecDepth 100000 in
theorem cat_of' {H : Type} {enc : TypeId × Value → H} {W : World} {base : Nat} {v : Value} {d : DataW H} {p : List MemPlace} (hv : Value.okWide Try.prog W .any base 29 v) (h : DataW.Trod enc Try.prog W 0 (fun _ => true) true 29 v d p) :
    ∃ c : CatD, v = c.val ∧ (c.Ok ∧ Rd1 W (catF c)) := cat_of hv h
set_option maxRecDepth 100000 in
theorem pair_of {H : Type} {enc : TypeId × Value → H} {W : World} {base : Nat} {v : Value} {d : DataW H} {p : List MemPlace} (hv : Value.okWide Try.prog W .any base 30 v) (h : DataW.Trod enc Try.prog W 0 (fun _ => true) true 30 v d p) :
    ∃ (a b : Int), v = .agg #[.int .i64 a, .int .i64 b] ∧ b ≤ 9223372036854775807 := by
  have hl : leaves Try.prog 8 30 = some [3, 3] := by decide +kernel
  obtain ⟨V, rfl, hV⟩ := open_flat hl (by kernel_rfl) (by kernel_rfl) hv h
  obtain ⟨a0, e0, w0⟩ := leaf_int Try.underlying3 (hV 0 _ rfl)
  obtain ⟨a1, e1, w1⟩ := leaf_int Try.underlying3 (hV 1 _ rfl)
  refine ⟨a0, a1, ?_, (i64_of w1).2⟩
  show Value.agg ((List.range 2).map V).toArray = _
  have e' : (List.range 2).map V = [V 0, V 1] := rfl
  rw [e', e0, e1]
set_option maxRecDepth 100000 in
theorem ints_of' {H : Type} {enc : TypeId × Value → H} {W : World} {base : Nat} {v : Value} {d : DataW H} {p : List MemPlace} (hv : Value.okWide Try.prog W .any base 46 v) (h : DataW.Trod enc Try.prog W 0 (fun _ => true) true 46 v d p) :
    ∃ (A : Option Addr) (n c : Nat) (L : List Int), v = .slice A n c ∧ ((SlV.mk A n c).Ok L.length ∧ Rd1 W (sl A 1 (IE .i64) L)) := by
  obtain ⟨A, n, c, L, rfl, h1, h2, h3, h4, h5, h6⟩ := open_list Try.underlying46 Try.underlying3 (by kernel_rfl) hv h
  exact ⟨A, n, c, L, rfl, ⟨h1, h3, h4, fun h => (h5 h).2⟩, rd_sl h2 (by decide)⟩
theorem walk (c : CatD) (A : Option Addr) (n m : Nat) (L : List Int) (a b : Int) (W : World) (h : c.Ok ∧ Rd1 W (catF c)) (hl : (SlV.mk A n m).Ok L.length ∧ Rd1 W (sl A 1 (IE .i64) L)) (hb : b ≤ 9223372036854775807) :
    Calls Try.prog 4 #[c.val, .slice A n m, .agg #[.int .i64 a, .int .i64 b]] W fun e w' => e = .returned (.bool true) ∧ Below W.heap.size W w' :=
  groupsChange_any c A n m L a b W h.1 hl.1 hb h.2 hl.2


set_option maxRecDepth 100000 in
theorem lifted (os : Os) (started : os.Started) (H : Type) (enc : TypeId × Value → H) :
    ReturnsInHanded {} Try.checked os 4 .any (Rows.groupsChangeSpec.pre6 enc Try.prog Try.f4 Rows.groupsChangeRow.domain false) (Rows.groupsChangeSpec.post enc Try.prog Try.f4 false true false false) := by
  refine returnsInHanded_of_change (C := Try.checked) own started (by kernel_rfl) Try.func4
    (ChangeSpec.witness6 (enc := enc) (C := Try.checked) false ⟨#[], #[.agg #[.int .i64 0, .int .i64 0, .int .i64 0, .int .u64 0, .slice none 0 0, .slice none 0 0, .slice none 0 0, .slice none 0 0, .slice none 0 0], .slice none 0 0, .agg #[.int .i64 0, .int .i64 0]], []⟩ 12 (by kernel_rfl) (by kernel_rfl) (by kernel_rfl) (by kernel_rfl)) ?_
  intro W base args ds gs before hval0 hW hcnd _
  have hval : ∀ (j : Nat) t v, Try.f4.params[j]? = some t → args[j]? = some v → Value.okWide Try.prog W .any base t v := hval0
  have hW' := hW
  obtain ⟨p, q, hA0, hV, rfl, hfz, hnd⟩ := hW
  have hA : DataW.TrodAll enc Try.prog W 0 (fun _ => true) true Try.f4.params.toList args.toList ds p := hA0
  rw [Try.params4] at hA hval
  obtain ⟨v0, vs0, d0, ds0, p0, q0, hargs, rfl, rfl, h0, r0⟩ := trodAll_cons hA
  obtain ⟨v1, vs1, d1, ds1, p1, q1, rfl, rfl, rfl, h1, r1⟩ := trodAll_cons r0
  obtain ⟨v2, vs2, d2, ds2, p2, q2, rfl, rfl, rfl, h2, r2⟩ := trodAll_cons r1
  obtain ⟨rfl, rfl, rfl⟩ := trodAll_nil r2
  obtain rfl : args = #[v0, v1, v2] := by cases args; simp_all
  obtain ⟨rfl, rfl⟩ := trodVars_none hV
  have ltk0 : ∀ x ∈ p0, x.block < W.heap.size := by obtain ⟨m, hm⟩ := h0; exact DataW.trod_lt m _ _ _ hm
  have rdk0 := h0
  have ltk1 : ∀ x ∈ p1, x.block < W.heap.size := by obtain ⟨m, hm⟩ := h1; exact DataW.trod_lt m _ _ _ hm
  have rdk1 := h1
  have ltk2 : ∀ x ∈ p2, x.block < W.heap.size := by obtain ⟨m, hm⟩ := h2; exact DataW.trod_lt m _ _ _ hm
  have rdk2 := h2
  obtain ⟨c0, rfl, w0⟩ := cat_of' (hval 0 29 v0 rfl rfl) h0
  obtain ⟨A1, n1, c1, L1, rfl, w1⟩ := ints_of' (hval 1 46 v1 rfl rfl) h1
  obtain ⟨a2, b2, rfl, w2⟩ := pair_of (hval 2 30 v2 rfl rfl) h2
  clear hA0 hval0
  refine (walk c0 A1 n1 c1 L1 a2 b2 W w0 w1 w2).mono fun e W' ⟨he, bel⟩ => ?_
  subst he
  exact ⟨_, rfl, _, _, _, [], _, [], hW', trodAll_mk1 (shut_bool Try.underlying4 _), (trodAll_cons_mk (Below.trod laidOut (by kernel_rfl) (of_decide_eq_true (by kernel_rfl)) rdk0 bel ltk0) (trodAll_cons_mk (Below.trod laidOut (by kernel_rfl) (of_decide_eq_true (by kernel_rfl)) rdk1 bel ltk1) (trodAll_cons_mk (Below.trod laidOut (by kernel_rfl) (of_decide_eq_true (by kernel_rfl)) rdk2 bel ltk2) trodAll_mk0))), rfl, bel.frame _, fun h => by cases h⟩

theorem over : Rows.groupsChangeRow.holds Try.pinned (OpenSpec.ofChange Rows.groupsChangeSpec) :=
  OpenClaim.holds_of_wide 4 Try.f4 rfl rfl rfl rfl rfl rfl rfl ⟨rfl, rfl, rfl, rfl, rfl⟩ rfl rfl rfl rfl rfl (by kernel_rfl) Try.func4 (by kernel_rfl)
    (of_decide_eq_true (by kernel_rfl)) (by unfold Func.isWrapper; first | (rw [if_pos (by decide +kernel)]; kernel_rfl) | (rw [if_neg (by decide +kernel)]; exact ⟨rfl, rfl⟩))
    (fun os started H enc _ => lifted os started H enc)

theorem proved : Rows.GroupsChangeSaid := over
#print axioms proved
end Go.Proofs.Ytbcdcjiibalnnaa.groupsChange
