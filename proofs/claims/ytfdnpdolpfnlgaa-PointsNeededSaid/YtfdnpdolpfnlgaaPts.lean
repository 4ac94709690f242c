/- points.Needed and the reference's; what the chapter's example calls. -/
import Derived.Test.YtfdnpdolpfnlgaaSl
import Derived.Test.YtfdnpdolpfnlgaaMarks
namespace Go.Proofs.Ytfdnpdolpfnlgaa.Pts
open Go.RowKit Mem
set_option linter.unusedVariables false
set_option linter.unusedSimpArgs false
theorem elt_U : Elt Try.prog 57 35 1 8 := Elt.mk' (z := .int .u64 0) Try.underlying57 (by kernel_rfl) rfl (by decide)
set_option maxRecDepth 100000 in
set_option maxHeartbeats 1000000 in
theorem clone_U (A : Option Addr) (n c : Nat) (L : List Int) (w : World) (hn : n = L.length) (hb : n ≤ 100000) (hA : A = none → n = 0) (h : Sl w A 1 (IE .u64) L) :
    Calls Try.prog 137 #[.slice A n c] w fun e w' => ∃ v, e = .returned v ∧ OwnL w' w.heap.size 35 1 v (IE .u64) L ∧ Below w.heap.size w w' := by
  have H := Lib.hid h
  clear h
  have HN := Lib.hid hn
  clear hn
  rcases A with _ | a
  · obtain rfl := hA rfl
    have hnil := fun w => Lib.run_eql_slice_nil (P := Try.prog) w 57 35 none 0 c 0 0 Try.underlying57
    go_enter Try.func137, Try.ntmps137
    go_wp2
    go_ret
    exact ⟨_, rfl, OwnL.nil.of_eq (List.length_eq_zero_iff.1 HN.out.symm).symm, (by repeat (first | assumption | exact Below.refl _ _ | refine bel_alloc ?_ _ | refine bel_drewN ?_ _ | refine bel_drew ?_ | refine bel_set ?_ (by first | (simp; done) | omega | (simp; omega)) _ | refine bel_trans ?_ (by assumption)))⟩
  · clear hA
    have hnil := fun w => Lib.run_eql_slice_nil (P := Try.prog) w 57 35 (some a) n c 0 0 Try.underlying57
    go_enter Try.func137, Try.ntmps137
    go_wp2_with ((at_builtin; refine wpList_append_sl _ rfl (.tmp 5) (.tmp 6) 57 rfl elt_U w.heap.size (IE .u64) _ [] rfl (OwnL.made _ rfl (Nat.le_refl _) (by unfold maxLen; omega) rfl) _ _ _ L rfl HN.out (H.out.alloc _) (fun _ _ => rfl) (by have := HN.out; simp only [List.length_nil]; unfold maxLen; omega) (by have := HN.out; simp only [List.length_nil]; omega) (by simp) ?_; intro v1 w2 hown1 hgrow1; have HB1 : Below w.heap.size w w2 := hgrow1.bel (by repeat (first | assumption | exact Below.refl _ _ | refine bel_alloc ?_ _ | refine bel_drewN ?_ _ | refine bel_drew ?_ | refine bel_set ?_ (by first | (simp; done) | omega | (simp; omega)) _ | refine bel_trans ?_ (by assumption))) (OwnL.made (α := Int) (enc := IE .u64) (e := 35) (sz := 1) _ rfl (Nat.le_refl _) (by unfold maxLen; omega) rfl); have HO1 := Lib.hid hown1; clear hown1 hgrow1))
    go_ret
    exact ⟨_, rfl, HO1.out, HB1⟩
set_option maxRecDepth 100000 in
set_option maxHeartbeats 1000000 in
theorem needed_any (A : Option Addr) (n c : Nat) (L : List Int) (fl fr nx : Int) (w : World) (hn : n = L.length) (hb9 : n ≤ 9223372036854775807) (h : Sl w A 1 (IE .u64) L) (v : Bool) (hv : v = true ↔ nx = 0 ∨ fl < nx ∨ ∃ x ∈ L, fr ≤ x ∧ x < nx) :
    Calls Try.prog 76 #[.slice A n c, .int .u64 fl, .int .u64 fr, .int .u64 nx] w fun e w' => e = .returned (.bool v) ∧ Below w.heap.size w w' := by
  have H := Lib.hid h
  clear h
  have HN := Lib.hid hn
  clear hn
  have HV := Lib.hid hv
  clear hv
  by_cases c1 : nx = 0
  · obtain rfl : v = true := HV.out.2 (.inl c1)
    subst c1
    go_enter Try.func76, Try.ntmps76
    go_wp2
    go_ret
    exact ⟨rfl, (by repeat (first | assumption | exact Below.refl _ _ | refine bel_alloc ?_ _ | refine bel_drewN ?_ _ | refine bel_drew ?_ | refine bel_set ?_ (by first | (simp; done) | omega | (simp; omega)) _ | refine bel_trans ?_ (by assumption)))⟩
  have d1 : (nx == 0) = false := by simpa using c1
  by_cases c2 : fl < nx
  · obtain rfl : v = true := HV.out.2 (.inr (.inl c2))
    have HC := Lib.hid c1
    clear c1
    go_enter Try.func76, Try.ntmps76
    go_wp2
    go_ret
    exact ⟨rfl, (by repeat (first | assumption | exact Below.refl _ _ | refine bel_alloc ?_ _ | refine bel_drewN ?_ _ | refine bel_drew ?_ | refine bel_set ?_ (by first | (simp; done) | omega | (simp; omega)) _ | refine bel_trans ?_ (by assumption)))⟩
  have HV2 : Hid (v = true ↔ ∃ x ∈ L, fr ≤ x ∧ x < nx) := Lib.hid (HV.out.trans ⟨fun h => by rcases h with h | h | h; exact absurd h c1; exact absurd h c2; exact h, fun h => .inr (.inr h)⟩)
  clear HV
  have HC := Lib.hid c1
  clear c1
  go_enter Try.func76, Try.ntmps76
  go_wp2
  go_loopw [20] (fun i wr => ∃ k : Nat, k ≤ n ∧ i = .int .i64 k ∧ Below w.heap.size w wr ∧ Hid (∀ x ∈ L.take k, ¬ (fr ≤ x ∧ x < nx))) (fun i _ => n - (intOf i).toNat)
  case atStart => exact ⟨0, Nat.zero_le _, rfl, Below.refl _ _, Lib.hid (fun x hx => by simp at hx)⟩
  case round =>
    obtain ⟨k, hk, rfl, hb, hno⟩ := hrel
    by_cases hlt : k < n
    · obtain ⟨b, off, x, rfl, hx, ht, hm, g1, gb⟩ := Sl.at1 (H.out.below hb) k (by have := HN.out; omega)
      simp only [IE] at g1
      have HT := Lib.hid ht
      have HM := Lib.hid hm
      clear hx ht hm
      by_cases c3 : fr ≤ x
      · have d3 : decide (fr ≤ x) = true := by simpa using c3
        by_cases c4 : x < nx
        · have d4 : decide (x < nx) = true := by simpa using c4
          obtain rfl : v = true := HV2.out.2 ⟨x, HM.out, c3, c4⟩
          go_wp2
          go_ret
          exact ⟨rfl, (by repeat (first | assumption | exact Below.refl _ _ | refine bel_alloc ?_ _ | refine bel_drewN ?_ _ | refine bel_drew ?_ | refine bel_set ?_ (by first | (simp; done) | omega | (simp; omega)) _ | refine bel_trans ?_ (by assumption)))⟩
        · have d4 : decide (x < nx) = false := by simpa using c4
          go_wp2
          go_roundw
          case rel => exact ⟨k + 1, by omega, by go_num, (by repeat (first | assumption | exact Below.refl _ _ | refine bel_alloc ?_ _ | refine bel_drewN ?_ _ | refine bel_drew ?_ | refine bel_set ?_ (by first | (simp; done) | omega | (simp; omega)) _ | refine bel_trans ?_ (by assumption))), Lib.hid (fun y hy => by
            rw [HT.out] at hy
            rcases List.mem_append.1 hy with hy | hy
            · exact hno.out y hy
            · simp at hy; subst hy; omega)⟩
          case measure => simp [intOf]; omega
      · have d3 : decide (fr ≤ x) = false := by simpa using c3
        go_wp2
        go_roundw
        case rel => exact ⟨k + 1, by omega, by go_num, (by repeat (first | assumption | exact Below.refl _ _ | refine bel_alloc ?_ _ | refine bel_drewN ?_ _ | refine bel_drew ?_ | refine bel_set ?_ (by first | (simp; done) | omega | (simp; omega)) _ | refine bel_trans ?_ (by assumption))), Lib.hid (fun y hy => by
          rw [HT.out] at hy
          rcases List.mem_append.1 hy with hy | hy
          · exact hno.out y hy
          · simp at hy; subst hy; omega)⟩
        case measure => simp [intOf]; omega
    · have hf : false = v := by
        cases v with
        | false => rfl
        | true =>
          obtain ⟨x, hx, h1⟩ := HV2.out.1 rfl
          exact absurd h1 (hno.out x (by rw [List.take_of_length_le (by have := HN.out; omega)]; exact hx))
      have HF := Lib.hid hf
      clear hf
      go_wp2
      go_ret
      exact ⟨Marks.ret_bool HF.out, (by repeat (first | assumption | exact Below.refl _ _ | refine bel_alloc ?_ _ | refine bel_drewN ?_ _ | refine bel_drew ?_ | refine bel_set ?_ (by first | (simp; done) | omega | (simp; omega)) _ | refine bel_trans ?_ (by assumption)))⟩
set_option maxRecDepth 100000 in
set_option maxHeartbeats 1000000 in
theorem rneeded_any (A : Option Addr) (n c : Nat) (L : List Int) (fl fr nx : Int) (w : World) (hn : n = L.length) (hb9 : n ≤ 9223372036854775807) (h : Sl w A 1 (IE .u64) L) (v : Bool) (hv : v = true ↔ nx = 0 ∨ fl < nx ∨ ∃ x ∈ L, fr ≤ x ∧ x < nx) :
    Calls Try.prog 77 #[.slice A n c, .int .u64 fl, .int .u64 fr, .int .u64 nx] w fun e w' => e = .returned (.bool v) ∧ Below w.heap.size w w' := by
  have H := Lib.hid h
  clear h
  have HN := Lib.hid hn
  clear hn
  have HV := Lib.hid hv
  clear hv
  by_cases c1 : nx = 0
  · obtain rfl : v = true := HV.out.2 (.inl c1)
    subst c1
    go_enter Try.func77, Try.ntmps77
    go_wp2
    go_ret
    exact ⟨rfl, (by repeat (first | assumption | exact Below.refl _ _ | refine bel_alloc ?_ _ | refine bel_drewN ?_ _ | refine bel_drew ?_ | refine bel_set ?_ (by first | (simp; done) | omega | (simp; omega)) _ | refine bel_trans ?_ (by assumption)))⟩
  have d1 : (nx == 0) = false := by simpa using c1
  by_cases c2 : fl < nx
  · obtain rfl : v = true := HV.out.2 (.inr (.inl c2))
    have HC := Lib.hid c1
    clear c1
    go_enter Try.func77, Try.ntmps77
    go_wp2
    go_ret
    exact ⟨rfl, (by repeat (first | assumption | exact Below.refl _ _ | refine bel_alloc ?_ _ | refine bel_drewN ?_ _ | refine bel_drew ?_ | refine bel_set ?_ (by first | (simp; done) | omega | (simp; omega)) _ | refine bel_trans ?_ (by assumption)))⟩
  have HV2 : Hid (v = true ↔ ∃ x ∈ L, fr ≤ x ∧ x < nx) := Lib.hid (HV.out.trans ⟨fun h => by rcases h with h | h | h; exact absurd h c1; exact absurd h c2; exact h, fun h => .inr (.inr h)⟩)
  clear HV
  have HC := Lib.hid c1
  clear c1
  go_enter Try.func77, Try.ntmps77
  go_wp2
  go_loopw [9] (fun i wr => ∃ k : Nat, k ≤ n ∧ i = .int .i64 k ∧ Below w.heap.size w wr ∧ Hid (∀ x ∈ L.take k, ¬ (fr ≤ x ∧ x < nx))) (fun i _ => n - (intOf i).toNat)
  case atStart => exact ⟨0, Nat.zero_le _, rfl, Below.refl _ _, Lib.hid (fun x hx => by simp at hx)⟩
  case round =>
    obtain ⟨k, hk, rfl, hb, hno⟩ := hrel
    by_cases hlt : k < n
    · obtain ⟨b, off, x, rfl, hx, ht, hm, g1, gb⟩ := Sl.at1 (H.out.below hb) k (by have := HN.out; omega)
      simp only [IE] at g1
      have HT := Lib.hid ht
      have HM := Lib.hid hm
      clear hx ht hm
      by_cases c3 : fr ≤ x
      · have d3 : decide (fr ≤ x) = true := by simpa using c3
        by_cases c4 : x < nx
        · have d4 : decide (x < nx) = true := by simpa using c4
          obtain rfl : v = true := HV2.out.2 ⟨x, HM.out, c3, c4⟩
          go_wp2
          go_ret
          exact ⟨rfl, (by repeat (first | assumption | exact Below.refl _ _ | refine bel_alloc ?_ _ | refine bel_drewN ?_ _ | refine bel_drew ?_ | refine bel_set ?_ (by first | (simp; done) | omega | (simp; omega)) _ | refine bel_trans ?_ (by assumption)))⟩
        · have d4 : decide (x < nx) = false := by simpa using c4
          go_wp2
          go_roundw
          case rel => exact ⟨k + 1, by omega, by go_num, (by repeat (first | assumption | exact Below.refl _ _ | refine bel_alloc ?_ _ | refine bel_drewN ?_ _ | refine bel_drew ?_ | refine bel_set ?_ (by first | (simp; done) | omega | (simp; omega)) _ | refine bel_trans ?_ (by assumption))), Lib.hid (fun y hy => by
            rw [HT.out] at hy
            rcases List.mem_append.1 hy with hy | hy
            · exact hno.out y hy
            · simp at hy; subst hy; omega)⟩
          case measure => simp [intOf]; omega
      · have d3 : decide (fr ≤ x) = false := by simpa using c3
        go_wp2
        go_roundw
        case rel => exact ⟨k + 1, by omega, by go_num, (by repeat (first | assumption | exact Below.refl _ _ | refine bel_alloc ?_ _ | refine bel_drewN ?_ _ | refine bel_drew ?_ | refine bel_set ?_ (by first | (simp; done) | omega | (simp; omega)) _ | refine bel_trans ?_ (by assumption))), Lib.hid (fun y hy => by
          rw [HT.out] at hy
          rcases List.mem_append.1 hy with hy | hy
          · exact hno.out y hy
          · simp at hy; subst hy; omega)⟩
        case measure => simp [intOf]; omega
    · have hf : false = v := by
        cases v with
        | false => rfl
        | true =>
          obtain ⟨x, hx, h1⟩ := HV2.out.1 rfl
          exact absurd h1 (hno.out x (by rw [List.take_of_length_le (by have := HN.out; omega)]; exact hx))
      have HF := Lib.hid hf
      clear hf
      go_wp2
      go_ret
      exact ⟨Marks.ret_bool HF.out, (by repeat (first | assumption | exact Below.refl _ _ | refine bel_alloc ?_ _ | refine bel_drewN ?_ _ | refine bel_drew ?_ | refine bel_set ?_ (by first | (simp; done) | omega | (simp; omega)) _ | refine bel_trans ?_ (by assumption)))⟩

/-! ### slices.Sort, slices.Compact on one element -/
set_option maxRecDepth 100000 in
set_option maxHeartbeats 1000000 in
theorem ins_one (A : Option Addr) (c : Nat) (w : World) : Calls Try.prog 168 #[.slice A 1 c, .int .i64 0, .int .i64 1] w fun e w' => e = .returned (.tuple #[]) ∧ Below w.heap.size w w' := by
  go_enter Try.func168, Try.ntmps168
  go_wp2
  refine wp_loop_rounds 1 ?_; rw [rounds_succ]
  go_wp2
  go_end0
  exact ⟨rfl, (by repeat (first | assumption | exact Below.refl _ _ | refine bel_alloc ?_ _ | refine bel_drewN ?_ _ | refine bel_drew ?_ | refine bel_set ?_ (by first | (simp; done) | omega | (simp; omega)) _ | refine bel_trans ?_ (by assumption)))⟩
set_option maxRecDepth 100000 in
set_option maxHeartbeats 1000000 in
theorem blen_one (w : World) : Calls Try.prog 167 #[.int .u64 1] w fun e w' => e = .returned (.int .i64 1) ∧ Below w.heap.size w w' := by
  go_enter Try.func167, Try.ntmps167
  go_wp2
  go_ret
  refine ⟨?_, (by repeat (first | assumption | exact Below.refl _ _ | refine bel_alloc ?_ _ | refine bel_drewN ?_ _ | refine bel_drew ?_ | refine bel_set ?_ (by first | (simp; done) | omega | (simp; omega)) _ | refine bel_trans ?_ (by assumption)))⟩
  kernel_rfl
theorem pdq_one (A : Option Addr) (c : Nat) (w : World) : Calls Try.prog 166 #[.slice A 1 c, .int .i64 0, .int .i64 1, .int .i64 1] w fun e w' => e = .returned (.tuple #[]) ∧ Below w.heap.size w w' := by
  go_enter Try.func166, Try.ntmps166
  go_wp2
  refine wp_loop_rounds 1 ?_; rw [rounds_succ]
  go_wp2_with fail
  refine (ins_one _ _ _).mono ?_
  rintro e w1 ⟨rfl, hb1⟩
  go_wp2
  exact bodyPost_ret (results_none Try.results166 _ _ _) rfl ⟨rfl, (by repeat (first | assumption | exact Below.refl _ _ | refine bel_alloc ?_ _ | refine bel_drewN ?_ _ | refine bel_drew ?_ | refine bel_set ?_ (by first | (simp; done) | omega | (simp; omega)) _ | refine bel_trans ?_ (by assumption)))⟩
theorem sort_one (A : Option Addr) (c : Nat) (w : World) : Calls Try.prog 162 #[.slice A 1 c] w fun e w' => e = .returned (.tuple #[]) ∧ Below w.heap.size w w' := by
  go_enter Try.func162, Try.ntmps162
  go_wp2_with fail
  refine (blen_one _).mono ?_
  rintro e w1 ⟨rfl, hbk⟩
  have HB1 : Below w.heap.size w w1 := bel_trans (Below.refl _ _) hbk
  clear hbk
  go_wp2_with fail
  refine (pdq_one _ _ _).mono ?_
  rintro e w2 ⟨rfl, hbk⟩
  have HB2 : Below w.heap.size w w2 := bel_trans HB1 hbk
  clear hbk HB1
  go_wp2
  go_end0
  exact ⟨rfl, (by repeat (first | assumption | exact Below.refl _ _ | refine bel_alloc ?_ _ | refine bel_drewN ?_ _ | refine bel_drew ?_ | refine bel_set ?_ (by first | (simp; done) | omega | (simp; omega)) _ | refine bel_trans ?_ (by assumption)))⟩
theorem compact_one (A : Option Addr) (c : Nat) (w : World) : Calls Try.prog 163 #[.slice A 1 c] w fun e w' => e = .returned (.slice A 1 c) ∧ Below w.heap.size w w' := by
  go_enter Try.func163, Try.ntmps163
  go_wp2
  go_ret
  exact ⟨rfl, (by repeat (first | assumption | exact Below.refl _ _ | refine bel_alloc ?_ _ | refine bel_drewN ?_ _ | refine bel_drew ?_ | refine bel_set ?_ (by first | (simp; done) | omega | (simp; omega)) _ | refine bel_trans ?_ (by assumption)))⟩
end Go.Proofs.Ytfdnpdolpfnlgaa.Pts
