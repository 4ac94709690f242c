/- The statement TimesKeep: for every input the law returns true, and every argument reads as before. Lifted from the walk. -/
import Derived.Test.YtfdnpdolpfnlgaaRows
import Derived.WalkKit
import Derived.ProofKit
import Derived.OpenShut
import Derived.ShutString
import Derived.ChangeOld
import Derived.Below
import Derived.Test.YtfdnpdolpfnlgaaTimes7
import Derived.Test.YtfdnpdolpfnlgaaOpen
namespace Go.Proofs.Ytfdnpdolpfnlgaa.timesKeep
open Go.ChangeShapes Go.WideShapes Go.ChangeAt Go.RowKit
open Go.ChangeMaps (open_string shut_string)
set_option linter.unusedVariables false

theorem own : ownKnob Try.prog.godebug = none := by kernel_rfl
theorem laidOut : laidOutB Try.prog = true := by kernel_rfl
open Mem Marks Times
set_option maxRecDepth 100000 in
theorem marks_of {H : Type} {enc : TypeId × Value → H} {W : World} {base : Nat} {v : Value} {d : DataW H} {p : List MemPlace} (hv : Value.okWide Try.prog W .any base 44 v) (h : DataW.Trod enc Try.prog W 0 (fun _ => true) true 44 v d p) :
    ∃ (A : Option Addr) (n c : Nat) (S N : Nat → Int), v = .slice A n c ∧ (Marks W A n S N ∧ n ≤ c ∧ c ≤ maxLen ∧ (A = none → n = 0)) := by
  obtain ⟨A, n, c, F, rfl, ha, hnc, hc, hA0, hf⟩ := open_arr Try.underlying44 Try.underlying55 (by kernel_rfl) (by kernel_rfl) (by decide) hv h
  have h0 : ∀ i, ∃ a, i < n → F i 0 = .int .u64 a ∧ (Lit.int .u64 a).wf = true := fun i => by
    by_cases hi : i < n
    · obtain ⟨m, y, hy⟩ := hf i hi 0 _ rfl
      obtain ⟨a, e, w⟩ := int_field Try.underlying35 hy
      exact ⟨a, fun _ => ⟨e, w⟩⟩
    · exact ⟨0, fun h => absurd h hi⟩
  have h1 : ∀ i, ∃ a, i < n → F i 1 = .int .u64 a ∧ (Lit.int .u64 a).wf = true := fun i => by
    by_cases hi : i < n
    · obtain ⟨m, y, hy⟩ := hf i hi 1 _ rfl
      obtain ⟨a, e, w⟩ := int_field Try.underlying35 hy
      exact ⟨a, fun _ => ⟨e, w⟩⟩
    · exact ⟨0, fun h => absurd h hi⟩
  refine ⟨A, n, c, fun i => Classical.choose (h0 i), fun i => Classical.choose (h1 i), rfl, Arr.congr ha fun i hi j hj => ?_, hnc, hc, fun h => (hA0 h).1⟩
  rcases (show j = 0 ∨ j = 1 by have hj2 : j < 2 := hj; omega) with rfl | rfl
  · exact (Classical.choose_spec (h0 i) hi).1
  · exact (Classical.choose_spec (h1 i) hi).1
set_option maxRecDepth 100000 in
theorem points_of {H : Type} {enc : TypeId × Value → H} {W : World} {base : Nat} {v : Value} {d : DataW H} {p : List MemPlace} (hv : Value.okWide Try.prog W .any base 57 v) (h : DataW.Trod enc Try.prog W 0 (fun _ => true) true 57 v d p) :
    ∃ (A : Option Addr) (n c : Nat) (P : Nat → Int), v = .slice A n c ∧ (Points W A n P ∧ n ≤ c ∧ c ≤ maxLen) := by
  obtain ⟨A, n, c, Z, rfl, ha, hnc, hc, _, hf⟩ := open_words Try.underlying57 Try.underlying35 (by kernel_rfl) hv h
  exact ⟨A, n, c, Z, rfl, ha, hnc, hc⟩
set_option maxRecDepth 100000 in
theorem at_of {H : Type} {enc : TypeId × Value → H} {W : World} {base : Nat} {v : Value} {d : DataW H} {p : List MemPlace} (hv : Value.okWide Try.prog W .any base 58 v) (h : DataW.Trod enc Try.prog W 0 (fun _ => true) true 58 v d p) :
    ∃ (fl s : Int), v = .agg #[.int .u64 fl, .int .u64 s] ∧ True := by
  obtain ⟨Z, rfl, _⟩ := open_array_ints Try.underlying58 Try.underlying35 (by kernel_rfl) (by kernel_rfl) hv h
  exact ⟨Z 0, Z 1, rfl, trivial⟩
theorem walk (A : Option Addr) (n c : Nat) (S N : Nat → Int) (A' : Option Addr) (m c' : Nat) (P : Nat → Int) (fl s : Int) (W : World) (h : Marks W A n S N ∧ n ≤ c ∧ c ≤ maxLen ∧ (A = none → n = 0)) (h' : Points W A' m P ∧ m ≤ c' ∧ c' ≤ maxLen) (_ : True) :
    Calls Try.prog 5 #[.slice A n c, .slice A' m c', .agg #[.int .u64 fl, .int .u64 s]] W fun e w' => e = .returned (.bool true) ∧ Below W.heap.size W w' :=
  timesKeep_any A A' n c m c' S N P fl s W (by have := h.2.1; have := h.2.2.1; unfold maxLen at this; omega) (by have := h'.2.1; have := h'.2.2; unfold maxLen at this; omega) h.1 h'.1


set_option maxRecDepth 100000 in
theorem lifted (os : Os) (started : os.Started) (H : Type) (enc : TypeId × Value → H) :
    ReturnsInHanded {} Try.checked os 5 .any (Rows.timesKeepSpec.pre6 enc Try.prog Try.f5 Rows.timesKeepRow.domain false) (Rows.timesKeepSpec.post enc Try.prog Try.f5 false true false false) := by
  refine returnsInHanded_of_change (C := Try.checked) own started (by kernel_rfl) Try.func5
    (ChangeSpec.witness6 (enc := enc) (C := Try.checked) false ⟨#[], #[.slice none 0 0, .slice none 0 0, .agg #[.int .u64 0, .int .u64 0]], []⟩ 12 (by kernel_rfl) (by kernel_rfl) (by kernel_rfl) (by kernel_rfl)) ?_
  intro W base args ds gs before hval0 hW hcnd _
  have hval : ∀ (j : Nat) t v, Try.f5.params[j]? = some t → args[j]? = some v → Value.okWide Try.prog W .any base t v := hval0
  have hW' := hW
  obtain ⟨p, q, hA0, hV, rfl, hfz, hnd⟩ := hW
  have hA : DataW.TrodAll enc Try.prog W 0 (fun _ => true) true Try.f5.params.toList args.toList ds p := hA0
  rw [Try.params5] at hA hval
  obtain ⟨v0, vs0, d0, ds0, p0, q0, hargs, rfl, rfl, h0, r0⟩ := trodAll_cons hA
  obtain ⟨v1, vs1, d1, ds1, p1, q1, rfl, rfl, rfl, h1, r1⟩ := trodAll_cons r0
  obtain ⟨v2, vs2, d2, ds2, p2, q2, rfl, rfl, rfl, h2, r2⟩ := trodAll_cons r1
  obtain ⟨rfl, rfl, rfl⟩ := trodAll_nil r2
  obtain rfl : args = #[v0, v1, v2] := by cases args; simp_all
  obtain ⟨rfl, rfl⟩ := trodVars_none hV
  have ltk0 : ∀ x ∈ p0, x.block < W.heap.size := by obtain ⟨m, hm⟩ := h0; exact DataW.trod_lt m _ _ _ hm
  have rdk0 := h0
  have ltk1 : ∀ x ∈ p1, x.block < W.heap.size := by obtain ⟨m, hm⟩ := h1; exact DataW.trod_lt m _ _ _ hm
  have rdk1 := h1
  have ltk2 : ∀ x ∈ p2, x.block < W.heap.size := by obtain ⟨m, hm⟩ := h2; exact DataW.trod_lt m _ _ _ hm
  have rdk2 := h2
  obtain ⟨A0, n0, c0, S0, N0, rfl, w0⟩ := marks_of (hval 0 44 v0 rfl rfl) h0
  obtain ⟨A1, n1, c1, P1, rfl, w1⟩ := points_of (hval 1 57 v1 rfl rfl) h1
  obtain ⟨fl2, s2, rfl, w2⟩ := at_of (hval 2 58 v2 rfl rfl) h2
  clear hA0 hval0
  refine (walk A0 n0 c0 S0 N0 A1 n1 c1 P1 fl2 s2 W w0 w1 w2).mono fun e W' ⟨he, bel⟩ => ?_
  subst he
  exact ⟨_, rfl, _, _, _, [], _, [], hW', trodAll_mk1 (shut_bool Try.underlying4 _), (trodAll_cons_mk (Below.trod laidOut (by kernel_rfl) (of_decide_eq_true (by kernel_rfl)) rdk0 bel ltk0) (trodAll_cons_mk (Below.trod laidOut (by kernel_rfl) (of_decide_eq_true (by kernel_rfl)) rdk1 bel ltk1) (trodAll_cons_mk (Below.trod laidOut (by kernel_rfl) (of_decide_eq_true (by kernel_rfl)) rdk2 bel ltk2) trodAll_mk0))), rfl, bel.frame _, fun h => by cases h⟩

theorem over : Rows.timesKeepRow.holds Try.pinned (OpenSpec.ofChange Rows.timesKeepSpec) :=
  OpenClaim.holds_of_wide 5 Try.f5 rfl rfl rfl rfl rfl rfl rfl ⟨rfl, rfl, rfl, rfl, rfl⟩ rfl rfl rfl rfl rfl (by kernel_rfl) Try.func5 (by kernel_rfl)
    (of_decide_eq_true (by kernel_rfl)) (by unfold Func.isWrapper; first | (rw [if_pos (by decide +kernel)]; kernel_rfl) | (rw [if_neg (by decide +kernel)]; exact ⟨rfl, rfl⟩))
    (fun os started H enc _ => lifted os started H enc)

theorem proved : Rows.TimesKeepSaid := over
#print axioms proved
end Go.Proofs.Ytfdnpdolpfnlgaa.timesKeep
