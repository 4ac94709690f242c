/- The statement SuperLater: for every input the law returns true, and every argument reads as before. Lifted from the walk. -/
import Derived.Test.YtkdphoacniigjaaRows
import Derived.WalkKit
import Derived.ProofKit
import Derived.OpenShut
import Derived.ShutString
import Derived.ChangeOld
import Derived.Below
import Derived.Test.YtkdphoacniigjaaFlat
import Derived.Test.YtkdphoacniigjaaSuper12
namespace Go.Proofs.Ytkdphoacniigjaa.superLater
open Go.ChangeShapes Go.WideShapes Go.ChangeAt Go.RowKit
open Go.ChangeMaps (open_string shut_string)
set_option linter.unusedVariables false

theorem own : ownKnob Try.prog.godebug = none := by kernel_rfl
theorem laidOut : laidOutB Try.prog = true := by kernel_rfl
open Mem Bytes Page Fix Super
set_option maxRecDepth 100000 in
theorem super_of {H : Type} {enc : TypeId × Value → H} {W : World} {base : Nat} {v : Value} {d : DataW H} {p : List MemPlace} (hv : Value.okWide Try.prog W .any base 54 v) (h : DataW.Trod enc Try.prog W 0 (fun _ => true) true 54 v d p) :
    ∃ S : Nat → Int, v = SV S ∧ BdS S := by
  have hl : leaves Try.prog 8 54 = some [36, 36, 36, 36, 50, 50, 50, 3, 3, 36, 36, 36, 36] := by decide +kernel
  obtain ⟨V, rfl, hV⟩ := open_flat hl (by kernel_rfl) (by kernel_rfl) hv h
  have u64 := fun (j : Nat) (hj : [36, 36, 36, 36, 50, 50, 50, 3, 3, 36, 36, 36, 36][j]? = some 36) => leaf_int Try.underlying36 (hV j _ hj)
  have u32 := fun (j : Nat) (hj : [36, 36, 36, 36, 50, 50, 50, 3, 3, 36, 36, 36, 36][j]? = some 50) => leaf_int Try.underlying50 (hV j _ hj)
  have i64 := fun (j : Nat) (hj : [36, 36, 36, 36, 50, 50, 50, 3, 3, 36, 36, 36, 36][j]? = some 3) => leaf_int Try.underlying3 (hV j _ hj)
  obtain ⟨a0, e0, w0⟩ := u64 0 rfl
  obtain ⟨a1, e1, w1⟩ := u64 1 rfl
  obtain ⟨a2, e2, w2⟩ := u64 2 rfl
  obtain ⟨a3, e3, w3⟩ := u64 3 rfl
  obtain ⟨a4, e4, w4⟩ := u32 4 rfl
  obtain ⟨a5, e5, w5⟩ := u32 5 rfl
  obtain ⟨a6, e6, w6⟩ := u32 6 rfl
  obtain ⟨a7, e7, w7⟩ := i64 7 rfl
  obtain ⟨a8, e8, w8⟩ := i64 8 rfl
  obtain ⟨a9, e9, w9⟩ := u64 9 rfl
  obtain ⟨a10, e10, w10⟩ := u64 10 rfl
  obtain ⟨a11, e11, w11⟩ := u64 11 rfl
  obtain ⟨a12, e12, w12⟩ := u64 12 rfl
  refine ⟨fun i => [a0, a1, a2, a3, a4, a5, a6, a7, a8, a9, a10, a11, a12].getD i 0, ?_, ?_⟩
  · show Value.agg #[V 0, V 1, V 2, V 3, V 4, V 5, V 6, V 7, V 8, V 9, V 10, V 11, V 12] = _
    rw [e0, e1, e2, e3, e4, e5, e6, e7, e8, e9, e10, e11, e12]
    rfl
  · simp [Lit.wf, IntKind.min, IntKind.max, IntKind.signed, IntKind.bits] at w0 w1 w2 w3 w4 w5 w6 w7 w8 w9 w10 w11 w12
    refine ⟨⟨?_, ?_⟩, ⟨?_, ?_⟩, ⟨?_, ?_⟩, ⟨?_, ?_⟩, ⟨?_, ?_⟩, ⟨?_, ?_⟩, ⟨?_, ?_⟩, ⟨?_, ?_⟩, ⟨?_, ?_⟩, ⟨?_, ?_⟩, ⟨?_, ?_⟩⟩
    all_goals simp only [List.getD_cons_zero, List.getD_cons_succ]
    all_goals omega
theorem walk (S : Nat → Int) (wh : Bool) (W : World) (hb : BdS S) :
    Calls Try.prog 9 #[SV S, .bool wh] W fun e w' => e = .returned (.bool true) ∧ Below W.heap.size W w' := by
  by_cases h : RightS S ∧ S 0 < 4611686018427387904
  · exact superLater_yes S wh W hb h.1 h.2
  · exact superLater_no S wh W hb (by rcases Classical.not_and_iff_not_or_not.1 h with h | h; exact .inl h; exact .inr (by omega))


set_option maxRecDepth 100000 in
theorem lifted (os : Os) (started : os.Started) (H : Type) (enc : TypeId × Value → H) :
    ReturnsInHanded {} Try.checked os 9 .any (Rows.superLaterSpec.pre6 enc Try.prog Try.f9 Rows.superLaterRow.domain false) (Rows.superLaterSpec.post enc Try.prog Try.f9 false true false false) := by
  refine returnsInHanded_of_change (C := Try.checked) own started (by kernel_rfl) Try.func9
    (ChangeSpec.witness6 (enc := enc) (C := Try.checked) false ⟨#[], #[.agg #[.int .u64 0, .int .u64 0, .int .u64 0, .int .u64 0, .int .u32 0, .int .u32 0, .int .u32 0, .int .i64 0, .int .i64 0, .int .u64 0, .int .u64 0, .int .u64 0, .int .u64 0], .bool false], []⟩ 12 (by kernel_rfl) (by kernel_rfl) (by kernel_rfl) (by kernel_rfl)) ?_
  intro W base args ds gs before hval0 hW hcnd _
  have hval : ∀ (j : Nat) t v, Try.f9.params[j]? = some t → args[j]? = some v → Value.okWide Try.prog W .any base t v := hval0
  have hW' := hW
  obtain ⟨p, q, hA0, hV, rfl, hfz, hnd⟩ := hW
  have hA : DataW.TrodAll enc Try.prog W 0 (fun _ => true) true Try.f9.params.toList args.toList ds p := hA0
  rw [Try.params9] at hA hval
  obtain ⟨v0, vs0, d0, ds0, p0, q0, hargs, rfl, rfl, h0, r0⟩ := trodAll_cons hA
  obtain ⟨v1, vs1, d1, ds1, p1, q1, rfl, rfl, rfl, h1, r1⟩ := trodAll_cons r0
  obtain ⟨rfl, rfl, rfl⟩ := trodAll_nil r1
  obtain rfl : args = #[v0, v1] := by cases args; simp_all
  obtain ⟨rfl, rfl⟩ := trodVars_none hV
  have ltk0 : ∀ x ∈ p0, x.block < W.heap.size := by obtain ⟨m, hm⟩ := h0; exact DataW.trod_lt m _ _ _ hm
  have rdk0 := h0
  have ltk1 : ∀ x ∈ p1, x.block < W.heap.size := by obtain ⟨m, hm⟩ := h1; exact DataW.trod_lt m _ _ _ hm
  have rdk1 := h1
  obtain ⟨S0, rfl, w0⟩ := super_of (hval 0 54 v0 rfl rfl) h0
  obtain ⟨a1, rfl, rfl, rfl⟩ := open_bool Try.underlying4 (hval 1 4 v1 rfl rfl) h1
  clear hA0 hval0
  refine (walk S0 a1 W w0).mono fun e W' ⟨he, bel⟩ => ?_
  subst he
  exact ⟨_, rfl, _, _, _, [], _, [], hW', trodAll_mk1 (shut_bool Try.underlying4 _), (trodAll_cons_mk (Below.trod laidOut (by kernel_rfl) (of_decide_eq_true (by kernel_rfl)) rdk0 bel ltk0) (trodAll_cons_mk (Below.trod laidOut (by kernel_rfl) (of_decide_eq_true (by kernel_rfl)) rdk1 bel ltk1) trodAll_mk0)), rfl, bel.frame _, fun h => by cases h⟩

theorem over : Rows.superLaterRow.holds Try.pinned (OpenSpec.ofChange Rows.superLaterSpec) :=
  OpenClaim.holds_of_wide 9 Try.f9 rfl rfl rfl rfl rfl rfl rfl ⟨rfl, rfl, rfl, rfl, rfl⟩ rfl rfl rfl rfl rfl (by kernel_rfl) Try.func9 (by kernel_rfl)
    (of_decide_eq_true (by kernel_rfl)) (by unfold Func.isWrapper; first | (rw [if_pos (by decide +kernel)]; kernel_rfl) | (rw [if_neg (by decide +kernel)]; exact ⟨rfl, rfl⟩))
    (fun os started H enc _ => lifted os started H enc)

theorem proved : Rows.SuperLaterSaid := over
#print axioms proved
end Go.Proofs.Ytkdphoacniigjaa.superLater
