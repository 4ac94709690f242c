/- The statement StackPlays: for every input the law returns true, and every argument reads as before. Lifted from the walk. -/
import Derived.Test.YtobecmablabmeaaRows
import Derived.WalkKit
import Derived.ProofKit
import Derived.OpenShut
import Derived.ShutString
import Derived.ChangeOld
import Derived.Below
import Derived.Test.YtobecmablabmeaaStackLaw
namespace Go.Proofs.Ytobecmablabmeaa.stackPlays
open Go.ChangeShapes Go.WideShapes Go.ChangeAt Go.RowKit
open Go.ChangeMaps (open_string shut_string)
set_option linter.unusedVariables false

theorem own : ownKnob Try.prog.godebug = none := by kernel_rfl
theorem laidOut : laidOutB Try.prog = true := by kernel_rfl
open Mem Stack
theorem calls_of {H : Type} {enc : TypeId × Value → H} {W : World} {base : Nat} {v : Value} {d : DataW H} {p : List MemPlace} (hv : Value.okWide Try.prog W .any base 62 v) (h : DataW.Trod enc Try.prog W 0 (fun _ => true) true 62 v d p) :
    ∃ (A : Option Addr) (n c : Nat) (K : Nat → Int) (X : Nat → ByteArray), v = .slice A n c ∧ (Arr W A n 2 (OF K X) ∧ n ≤ c ∧ c ≤ maxLen) := by
  obtain ⟨A, n, c, F, rfl, ha, hnc, hc, _, hf⟩ := open_arr Try.underlying62 Try.underlying67 (by kernel_rfl) (by kernel_rfl) (by decide) hv h
  have h0 : ∀ i, ∃ a, i < n → F i 0 = .int .i64 a := fun i => by
    by_cases hi : i < n
    · obtain ⟨m, y, hy⟩ := hf i hi 0 _ rfl
      obtain ⟨a, e, w⟩ := int_field Try.underlying3 hy
      exact ⟨a, fun _ => e⟩
    · exact ⟨0, fun h => absurd h hi⟩
  have h1 : ∀ i, ∃ a, i < n → F i 1 = .string a := fun i => by
    by_cases hi : i < n
    · obtain ⟨m, y, hy⟩ := hf i hi 1 _ rfl
      obtain ⟨a, e, _⟩ := DataW.trod_string Try.underlying9 hy
      exact ⟨a, fun _ => by simpa using e⟩
    · exact ⟨ByteArray.empty, fun h => absurd h hi⟩
  refine ⟨A, n, c, fun i => Classical.choose (h0 i), fun i => Classical.choose (h1 i), rfl, Arr.congr ha fun i hi j hj => ?_, hnc, hc⟩
  rcases (show j = 0 ∨ j = 1 by have hj2 : j < 2 := hj; omega) with rfl | rfl
  · exact Classical.choose_spec (h0 i) hi
  · exact Classical.choose_spec (h1 i) hi
theorem walk (z : Int) (A : Option Addr) (n c : Nat) (K : Nat → Int) (X : Nat → ByteArray) (W : World) (_ : (Lit.int .i64 z).wf = true) (h : Arr W A n 2 (OF K X) ∧ n ≤ c ∧ c ≤ maxLen) :
    Calls Try.prog 10 #[.int .i64 z, .slice A n c] W fun e w' => e = .returned (.bool true) ∧ Below W.heap.size W w' :=
  plays_any z A n c K X W (by have := h.2.1; have := h.2.2; unfold maxLen at this; omega) h.1


set_option maxRecDepth 100000 in
theorem lifted (os : Os) (started : os.Started) (H : Type) (enc : TypeId × Value → H) :
    ReturnsInHanded {} Try.checked os 10 .any (Rows.stackPlaysSpec.pre6 enc Try.prog Try.f10 Rows.stackPlaysRow.domain false) (Rows.stackPlaysSpec.post enc Try.prog Try.f10 false true false false) := by
  refine returnsInHanded_of_change (C := Try.checked) own started (by kernel_rfl) Try.func10
    (ChangeSpec.witness6 (enc := enc) (C := Try.checked) false ⟨#[], #[.int .i64 0, .slice none 0 0], []⟩ 12 (by kernel_rfl) (by kernel_rfl) (by kernel_rfl) (by kernel_rfl)) ?_
  intro W base args ds gs before hval0 hW hcnd _
  have hval : ∀ (j : Nat) t v, Try.f10.params[j]? = some t → args[j]? = some v → Value.okWide Try.prog W .any base t v := hval0
  have hW' := hW
  obtain ⟨p, q, hA0, hV, rfl, hfz, hnd⟩ := hW
  have hA : DataW.TrodAll enc Try.prog W 0 (fun _ => true) true Try.f10.params.toList args.toList ds p := hA0
  rw [Try.params10] at hA hval
  obtain ⟨v0, vs0, d0, ds0, p0, q0, hargs, rfl, rfl, h0, r0⟩ := trodAll_cons hA
  obtain ⟨v1, vs1, d1, ds1, p1, q1, rfl, rfl, rfl, h1, r1⟩ := trodAll_cons r0
  obtain ⟨rfl, rfl, rfl⟩ := trodAll_nil r1
  obtain rfl : args = #[v0, v1] := by cases args; simp_all
  obtain ⟨rfl, rfl⟩ := trodVars_none hV
  have ltk0 : ∀ x ∈ p0, x.block < W.heap.size := by obtain ⟨m, hm⟩ := h0; exact DataW.trod_lt m _ _ _ hm
  have rdk0 := h0
  have ltk1 : ∀ x ∈ p1, x.block < W.heap.size := by obtain ⟨m, hm⟩ := h1; exact DataW.trod_lt m _ _ _ hm
  have rdk1 := h1
  obtain ⟨a0, rfl, rfl, rfl, w0⟩ := open_int Try.underlying3 (hval 0 3 v0 rfl rfl) h0
  obtain ⟨A1, n1, c1, K1, X1, rfl, w1⟩ := calls_of (hval 1 62 v1 rfl rfl) h1
  clear hA0 hval0
  refine (walk a0 A1 n1 c1 K1 X1 W w0 w1).mono fun e W' ⟨he, bel⟩ => ?_
  subst he
  exact ⟨_, rfl, _, _, _, [], _, [], hW', trodAll_mk1 (shut_bool Try.underlying4 _), (trodAll_cons_mk (Below.trod laidOut (by kernel_rfl) (of_decide_eq_true (by kernel_rfl)) rdk0 bel ltk0) (trodAll_cons_mk (Below.trod laidOut (by kernel_rfl) (of_decide_eq_true (by kernel_rfl)) rdk1 bel ltk1) trodAll_mk0)), rfl, bel.frame _, fun h => by cases h⟩

theorem over : Rows.stackPlaysRow.holds Try.pinned (OpenSpec.ofChange Rows.stackPlaysSpec) :=
  OpenClaim.holds_of_wide 10 Try.f10 rfl rfl rfl rfl rfl rfl rfl ⟨rfl, rfl, rfl, rfl, rfl⟩ rfl rfl rfl rfl rfl (by kernel_rfl) Try.func10 (by kernel_rfl)
    (of_decide_eq_true (by kernel_rfl)) (by unfold Func.isWrapper; first | (rw [if_pos (by decide +kernel)]; kernel_rfl) | (rw [if_neg (by decide +kernel)]; exact ⟨rfl, rfl⟩))
    (fun os started H enc _ => lifted os started H enc)

theorem proved : Rows.StackPlaysSaid := over
#print axioms proved
end Go.Proofs.Ytobecmablabmeaa.stackPlays
