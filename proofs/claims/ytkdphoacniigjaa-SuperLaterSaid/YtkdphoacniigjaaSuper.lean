/- Superblocks that may be: super.Right and the reference's. -/
import Derived.Test.YtkdphoacniigjaaPage6
import Derived.Test.YtkdphoacniigjaaReader
namespace Go.Proofs.Ytkdphoacniigjaa.Super
open Go.RowKit Mem Bytes Fix
set_option linter.unusedVariables false
set_option linter.unusedSimpArgs false
theorem ret_bool {a b : Bool} (h : a = b) : Ending.returned (.bool a) = Ending.returned (.bool b) := by rw [h]
def RingP (a b : Int) : Prop := 1 ≤ b ∧ 2 < a ∧ a ≤ 4096 ∧ b < a - 2
theorem ring_any (a b : Int) (w : World) (v : Bool) (hv : v = true ↔ RingP a b) : Calls Try.prog 77 #[.int .i64 a, .int .i64 b] w fun e w' => e = .returned (.bool v) ∧ w = w' := by
  unfold RingP at hv
  by_cases c1 : 1 ≤ b
  · have d1 : decide (1 ≤ b) = true := by simpa using c1
    by_cases c2 : 2 < a
    · have d2 : decide (2 < a) = true := by simpa using c2
      by_cases c3 : a ≤ 4096
      · have d3 : decide (a ≤ 4096) = true := by simpa using c3
        have hv' : Hid (decide (b < a - 2) = v) := Lib.hid (by
          cases v
          · simp only [decide_eq_false_iff_not]; intro h; have := hv.2 ⟨c1, c2, c3, h⟩; simp at this
          · simp only [decide_eq_true_eq]; exact (hv.1 rfl).2.2.2)
        clear hv
        go_enter Try.func77, Try.ntmps77
        go_wp2
        go_ret
        exact ⟨ret_bool (by rw [← hv'.out]), rfl⟩
      · have d3 : decide (a ≤ 4096) = false := by simpa using c3
        obtain rfl : v = false := by cases v; rfl; exact absurd (hv.1 rfl).2.2.1 c3
        clear hv
        go_enter Try.func77, Try.ntmps77
        go_wp2
        go_ret
        exact ⟨rfl, rfl⟩
    · have d2 : decide (2 < a) = false := by simpa using c2
      obtain rfl : v = false := by cases v; rfl; exact absurd (hv.1 rfl).2.1 c2
      clear hv
      go_enter Try.func77, Try.ntmps77
      go_wp2
      go_ret
      exact ⟨rfl, rfl⟩
  · have d1 : decide (1 ≤ b) = false := by simpa using c1
    obtain rfl : v = false := by cases v; rfl; exact absurd (hv.1 rfl).1 c1
    clear hv
    go_enter Try.func77, Try.ntmps77
    go_wp2
    go_ret
    exact ⟨rfl, rfl⟩
theorem blocks_any (a b : Int) (w : World) (h1 : 1 ≤ b) (h2 : a ≤ 4096) (h3 : b < a - 2) : Calls Try.prog 78 #[.int .i64 a, .int .i64 b] w fun e w' => e = .returned (.int .i64 (a - 2 - b)) ∧ w = w' := by
  go_enter Try.func78, Try.ntmps78
  go_wp2
  go_ret
  exact ⟨rfl, rfl⟩
/-- May a superblock be? -/
def RightP (s0 s4 s5 s6 s7 s8 : Int) : Prop := s0 ≠ 0 ∧ RingP s7 s8 ∧ s4 ≤ s7 - 2 - s8 ∧ s5 ≤ s7 - 2 - s8 ∧ (s5 = 0 ↔ s6 = 0)
set_option maxRecDepth 100000 in
set_option maxHeartbeats 1000000 in
theorem right_any (s0 s1 s2 s3 s4 s5 s6 s7 s8 s9 s10 s11 s12 : Int) (w : World) (b4 : 0 ≤ s4) (b5 : 0 ≤ s5) (b6 : 0 ≤ s6) (v : Bool) (hv : v = true ↔ RightP s0 s4 s5 s6 s7 s8) :
    Calls Try.prog 41 #[.agg #[.int .u64 s0, .int .u64 s1, .int .u64 s2, .int .u64 s3, .int .u32 s4, .int .u32 s5, .int .u32 s6, .int .i64 s7, .int .i64 s8, .int .u64 s9, .int .u64 s10, .int .u64 s11, .int .u64 s12]] w fun e w' => e = .returned (.bool v) ∧ Below w.heap.size w w' := by
  have hno : ∀ h : ¬ RightP s0 s4 s5 s6 s7 s8, v = false := fun h => by cases v; rfl; exact absurd (hv.1 rfl) h
  by_cases c0 : s0 = 0
  · obtain rfl := hno (fun h => h.1 c0)
    have d0 : (s0 == 0) = true := by simpa using c0
    clear hno hv c0
    go_enter Try.func41, Try.ntmps41
    go_wp2
    go_ret
    exact ⟨rfl, (by repeat (first | assumption | exact Below.refl _ _ | refine bel_alloc ?_ _ | refine bel_drewN ?_ _ | refine bel_drew ?_ | refine bel_set ?_ (by first | (simp; done) | omega | (simp; omega)) _ | refine bel_trans ?_ (by assumption)))⟩
  have d0 : (s0 == 0) = false := by simpa using c0
  by_cases c1 : RingP s7 s8
  · have c1' := c1
    obtain ⟨r1, r2, r3, r4⟩ := c1
    have HRP : Hid (true = true ↔ RingP s7 s8) := Lib.hid ⟨fun _ => c1', fun _ => rfl⟩
    have hwn : IntKind.u32.wrap (s7 - 2 - s8) = s7 - 2 - s8 := by rw [IntKind.wrap_u32', Int.emod_eq_of_lt (by omega) (by omega)]
    by_cases c2 : s4 ≤ s7 - 2 - s8
    · have d2 : decide (s4 ≤ s7 - 2 - s8) = true := by simpa using c2
      by_cases c3 : s5 ≤ s7 - 2 - s8
      · have d3 : decide (s5 ≤ s7 - 2 - s8) = true := by simpa using c3
        by_cases c5 : s5 = 0
        · by_cases c6 : s6 = 0
          · obtain rfl : v = true := hv.2 ⟨c0, c1', c2, c3, ⟨fun _ => c6, fun _ => c5⟩⟩
            have d5 : (s5 != 0) = false := by simpa using c5
            have d6 : (s6 != 0) = false := by simpa using c6
            clear hno hv c5 c6 c0 c1'
            go_enter Try.func41, Try.ntmps41
            go_wp2_with (first | (go_at_call 77; refine (ring_any s7 s8 _ true HRP.out).mono ?_; rintro e w' ⟨rfl, rfl⟩) | (go_at_call 78; refine (blocks_any s7 s8 _ (by omega) (by omega) (by omega)).mono ?_; rintro e w' ⟨rfl, rfl⟩))
            go_ret
            exact ⟨rfl, (by repeat (first | assumption | exact Below.refl _ _ | refine bel_alloc ?_ _ | refine bel_drewN ?_ _ | refine bel_drew ?_ | refine bel_set ?_ (by first | (simp; done) | omega | (simp; omega)) _ | refine bel_trans ?_ (by assumption)))⟩
          · obtain rfl := hno (fun h => c6 (h.2.2.2.2.1 c5))
            have d5 : (s5 != 0) = false := by simpa using c5
            have d6 : (s6 != 0) = true := by simpa using c6
            clear hno hv c5 c6 c0 c1'
            go_enter Try.func41, Try.ntmps41
            go_wp2_with (first | (go_at_call 77; refine (ring_any s7 s8 _ true HRP.out).mono ?_; rintro e w' ⟨rfl, rfl⟩) | (go_at_call 78; refine (blocks_any s7 s8 _ (by omega) (by omega) (by omega)).mono ?_; rintro e w' ⟨rfl, rfl⟩))
            go_ret
            exact ⟨rfl, (by repeat (first | assumption | exact Below.refl _ _ | refine bel_alloc ?_ _ | refine bel_drewN ?_ _ | refine bel_drew ?_ | refine bel_set ?_ (by first | (simp; done) | omega | (simp; omega)) _ | refine bel_trans ?_ (by assumption)))⟩
        · by_cases c6 : s6 = 0
          · obtain rfl := hno (fun h => c5 (h.2.2.2.2.2 c6))
            have d5 : (s5 != 0) = true := by simpa using c5
            have d6 : (s6 != 0) = false := by simpa using c6
            clear hno hv c5 c6 c0 c1'
            go_enter Try.func41, Try.ntmps41
            go_wp2_with (first | (go_at_call 77; refine (ring_any s7 s8 _ true HRP.out).mono ?_; rintro e w' ⟨rfl, rfl⟩) | (go_at_call 78; refine (blocks_any s7 s8 _ (by omega) (by omega) (by omega)).mono ?_; rintro e w' ⟨rfl, rfl⟩))
            go_ret
            exact ⟨rfl, (by repeat (first | assumption | exact Below.refl _ _ | refine bel_alloc ?_ _ | refine bel_drewN ?_ _ | refine bel_drew ?_ | refine bel_set ?_ (by first | (simp; done) | omega | (simp; omega)) _ | refine bel_trans ?_ (by assumption)))⟩
          · obtain rfl : v = true := hv.2 ⟨c0, c1', c2, c3, ⟨fun h => absurd h c5, fun h => absurd h c6⟩⟩
            have d5 : (s5 != 0) = true := by simpa using c5
            have d6 : (s6 != 0) = true := by simpa using c6
            clear hno hv c5 c6 c0 c1'
            go_enter Try.func41, Try.ntmps41
            go_wp2_with (first | (go_at_call 77; refine (ring_any s7 s8 _ true HRP.out).mono ?_; rintro e w' ⟨rfl, rfl⟩) | (go_at_call 78; refine (blocks_any s7 s8 _ (by omega) (by omega) (by omega)).mono ?_; rintro e w' ⟨rfl, rfl⟩))
            go_ret
            exact ⟨rfl, (by repeat (first | assumption | exact Below.refl _ _ | refine bel_alloc ?_ _ | refine bel_drewN ?_ _ | refine bel_drew ?_ | refine bel_set ?_ (by first | (simp; done) | omega | (simp; omega)) _ | refine bel_trans ?_ (by assumption)))⟩
      · obtain rfl := hno (fun h => c3 h.2.2.2.1)
        have d3 : decide (s5 ≤ s7 - 2 - s8) = false := by simpa using c3
        clear hno hv c0 c1'
        go_enter Try.func41, Try.ntmps41
        go_wp2_with (first | (go_at_call 77; refine (ring_any s7 s8 _ true HRP.out).mono ?_; rintro e w' ⟨rfl, rfl⟩) | (go_at_call 78; refine (blocks_any s7 s8 _ (by omega) (by omega) (by omega)).mono ?_; rintro e w' ⟨rfl, rfl⟩))
        go_ret
        exact ⟨rfl, (by repeat (first | assumption | exact Below.refl _ _ | refine bel_alloc ?_ _ | refine bel_drewN ?_ _ | refine bel_drew ?_ | refine bel_set ?_ (by first | (simp; done) | omega | (simp; omega)) _ | refine bel_trans ?_ (by assumption)))⟩
    · obtain rfl := hno (fun h => c2 h.2.2.1)
      have d2 : decide (s4 ≤ s7 - 2 - s8) = false := by simpa using c2
      clear hno hv c0 c1'
      go_enter Try.func41, Try.ntmps41
      go_wp2_with (first | (go_at_call 77; refine (ring_any s7 s8 _ true HRP.out).mono ?_; rintro e w' ⟨rfl, rfl⟩) | (go_at_call 78; refine (blocks_any s7 s8 _ (by omega) (by omega) (by omega)).mono ?_; rintro e w' ⟨rfl, rfl⟩))
      go_ret
      exact ⟨rfl, (by repeat (first | assumption | exact Below.refl _ _ | refine bel_alloc ?_ _ | refine bel_drewN ?_ _ | refine bel_drew ?_ | refine bel_set ?_ (by first | (simp; done) | omega | (simp; omega)) _ | refine bel_trans ?_ (by assumption)))⟩
  · obtain rfl := hno (fun h => c1 h.2.1)
    have HRP : Hid (false = true ↔ RingP s7 s8) := Lib.hid ⟨fun h => by simp at h, fun h => absurd h c1⟩
    clear hno hv c0 c1
    go_enter Try.func41, Try.ntmps41
    go_wp2_with (first | (go_at_call 77; refine (ring_any s7 s8 _ false HRP.out).mono ?_; rintro e w' ⟨rfl, rfl⟩) | (go_at_call 78; refine (blocks_any s7 s8 _ (by omega) (by omega) (by omega)).mono ?_; rintro e w' ⟨rfl, rfl⟩))
    go_ret
    exact ⟨rfl, (by repeat (first | assumption | exact Below.refl _ _ | refine bel_alloc ?_ _ | refine bel_drewN ?_ _ | refine bel_drew ?_ | refine bel_set ?_ (by first | (simp; done) | omega | (simp; omega)) _ | refine bel_trans ?_ (by assumption)))⟩
set_option maxRecDepth 100000 in
set_option maxHeartbeats 1000000 in
theorem rright_any (s0 s1 s2 s3 s4 s5 s6 s7 s8 s9 s10 s11 s12 : Int) (w : World) (b4 : 0 ≤ s4) (b5 : 0 ≤ s5) (b6 : 0 ≤ s6) (v : Bool) (hv : v = true ↔ RightP s0 s4 s5 s6 s7 s8) :
    Calls Try.prog 39 #[.agg #[.int .u64 s0, .int .u64 s1, .int .u64 s2, .int .u64 s3, .int .u32 s4, .int .u32 s5, .int .u32 s6, .int .i64 s7, .int .i64 s8, .int .u64 s9, .int .u64 s10, .int .u64 s11, .int .u64 s12]] w fun e w' => e = .returned (.bool v) ∧ Below w.heap.size w w' := by
  have hno : ∀ h : ¬ RightP s0 s4 s5 s6 s7 s8, v = false := fun h => by cases v; rfl; exact absurd (hv.1 rfl) h
  have bad : (s7 < 0 ∨ (0 ≤ s7 ∧ 4096 < s7) ∨ (0 ≤ s7 ∧ s7 ≤ 4096 ∧ s8 < 1) ∨ (0 ≤ s7 ∧ s7 ≤ 4096 ∧ 1 ≤ s8 ∧ 4096 < s8) ∨ (0 ≤ s7 ∧ s7 ≤ 4096 ∧ 1 ≤ s8 ∧ s8 ≤ 4096 ∧ s7 ≤ s8 + 2)) ∨ (0 ≤ s7 ∧ s7 ≤ 4096 ∧ 1 ≤ s8 ∧ s8 ≤ 4096 ∧ s8 + 2 < s7) := by omega
  rcases bad with bad | ⟨r1, r2, r3, r4, r5⟩
  · obtain rfl := hno (fun h => by have := h.2.1; unfold RingP at this; omega)
    clear hno hv
    rcases bad with h | ⟨h1, h2⟩ | ⟨h1, h2, h3⟩ | ⟨h1, h2, h3, h4⟩ | ⟨h1, h2, h3, h4, h5⟩
    · have d1 : decide (s7 < 0) = true := by simpa using h
      go_enter Try.func39, Try.ntmps39
      go_wp2
      go_quiet (fail)
      go_wp2
      go_ret
      exact ⟨rfl, (by repeat (first | assumption | exact Below.refl _ _ | refine bel_alloc ?_ _ | refine bel_drewN ?_ _ | refine bel_drew ?_ | refine bel_set ?_ (by first | (simp; done) | omega | (simp; omega)) _ | refine bel_trans ?_ (by assumption)))⟩
    · have d1 : decide (s7 < 0) = false := by simpa using h1
      have d2 : decide (4096 < s7) = true := by simpa using h2
      go_enter Try.func39, Try.ntmps39
      go_wp2
      go_quiet (fail)
      go_wp2
      go_ret
      exact ⟨rfl, (by repeat (first | assumption | exact Below.refl _ _ | refine bel_alloc ?_ _ | refine bel_drewN ?_ _ | refine bel_drew ?_ | refine bel_set ?_ (by first | (simp; done) | omega | (simp; omega)) _ | refine bel_trans ?_ (by assumption)))⟩
    · have d1 : decide (s7 < 0) = false := by simpa using h1
      have d2 : decide (4096 < s7) = false := by simpa using h2
      have d3 : decide (s8 < 1) = true := by simpa using h3
      go_enter Try.func39, Try.ntmps39
      go_wp2
      go_quiet (fail)
      go_wp2
      go_ret
      exact ⟨rfl, (by repeat (first | assumption | exact Below.refl _ _ | refine bel_alloc ?_ _ | refine bel_drewN ?_ _ | refine bel_drew ?_ | refine bel_set ?_ (by first | (simp; done) | omega | (simp; omega)) _ | refine bel_trans ?_ (by assumption)))⟩
    · have d1 : decide (s7 < 0) = false := by simpa using h1
      have d2 : decide (4096 < s7) = false := by simpa using h2
      have d3 : decide (s8 < 1) = false := by simpa using h3
      have d4 : decide (4096 < s8) = true := by simpa using h4
      go_enter Try.func39, Try.ntmps39
      go_wp2
      go_quiet (fail)
      go_wp2
      go_ret
      exact ⟨rfl, (by repeat (first | assumption | exact Below.refl _ _ | refine bel_alloc ?_ _ | refine bel_drewN ?_ _ | refine bel_drew ?_ | refine bel_set ?_ (by first | (simp; done) | omega | (simp; omega)) _ | refine bel_trans ?_ (by assumption)))⟩
    · have d1 : decide (s7 < 0) = false := by simpa using h1
      have d2 : decide (4096 < s7) = false := by simpa using h2
      have d3 : decide (s8 < 1) = false := by simpa using h3
      have d4 : decide (4096 < s8) = false := by simpa using h4
      have d5 : decide (s7 ≤ s8 + 2) = true := by simpa using h5
      go_enter Try.func39, Try.ntmps39
      go_wp2
      go_quiet (fail)
      go_wp2
      go_ret
      exact ⟨rfl, (by repeat (first | assumption | exact Below.refl _ _ | refine bel_alloc ?_ _ | refine bel_drewN ?_ _ | refine bel_drew ?_ | refine bel_set ?_ (by first | (simp; done) | omega | (simp; omega)) _ | refine bel_trans ?_ (by assumption)))⟩
  have d1 : decide (s7 < 0) = false := by simpa using r1
  have d2 : decide (4096 < s7) = false := by simpa using r2
  have d3 : decide (s8 < 1) = false := by simpa using r3
  have d4 : decide (4096 < s8) = false := by simpa using r4
  have d5 : decide (s7 ≤ s8 + 2) = false := by simpa using r5
  by_cases c0 : s0 = 0
  · obtain rfl := hno (fun h => h.1 c0)
    have d0 : (s0 == 0) = true := by simpa using c0
    clear hno hv c0
    go_enter Try.func39, Try.ntmps39
    go_wp2
    go_quiet (fail)
    go_wp2
    go_ret
    exact ⟨rfl, (by repeat (first | assumption | exact Below.refl _ _ | refine bel_alloc ?_ _ | refine bel_drewN ?_ _ | refine bel_drew ?_ | refine bel_set ?_ (by first | (simp; done) | omega | (simp; omega)) _ | refine bel_trans ?_ (by assumption)))⟩
  have d0 : (s0 == 0) = false := by simpa using c0
  have c1' : RingP s7 s8 := ⟨r3, by omega, r2, by omega⟩
  have hwn : IntKind.u32.wrap (s7 - s8 - 2) = s7 - s8 - 2 := by rw [IntKind.wrap_u32', Int.emod_eq_of_lt (by omega) (by omega)]
  by_cases c5 : s5 = 0
  · have e5 : (s5 == 0) = true := by simpa using c5
    have e5' : (s5 != 0) = false := by simpa using c5
    by_cases c6 : s6 = 0
    · have e6 : (s6 == 0) = true := by simpa using c6
      have e6' : (s6 != 0) = false := by simpa using c6
      by_cases c2 : s4 ≤ s7 - s8 - 2
      · have d6 : decide (s4 ≤ s7 - s8 - 2) = true := by simpa using c2
        by_cases c3 : s5 ≤ s7 - s8 - 2
        · obtain rfl : v = true := hv.2 ⟨c0, c1', by omega, by omega, by simp [c5, c6]⟩
          have d7 : decide (s5 ≤ s7 - s8 - 2) = true := by simpa using c3
          clear hno hv c5 c6 c0 c1'
          go_enter Try.func39, Try.ntmps39
          go_wp2
          go_quiet (fail)
          go_wp2
          go_ret
          exact ⟨rfl, (by repeat (first | assumption | exact Below.refl _ _ | refine bel_alloc ?_ _ | refine bel_drewN ?_ _ | refine bel_drew ?_ | refine bel_set ?_ (by first | (simp; done) | omega | (simp; omega)) _ | refine bel_trans ?_ (by assumption)))⟩
        · obtain rfl := hno (fun h => c3 (by have := h.2.2.2.1; omega))
          have d7 : decide (s5 ≤ s7 - s8 - 2) = false := by simpa using c3
          clear hno hv c5 c6 c0 c1'
          go_enter Try.func39, Try.ntmps39
          go_wp2
          go_quiet (fail)
          go_wp2
          go_ret
          exact ⟨rfl, (by repeat (first | assumption | exact Below.refl _ _ | refine bel_alloc ?_ _ | refine bel_drewN ?_ _ | refine bel_drew ?_ | refine bel_set ?_ (by first | (simp; done) | omega | (simp; omega)) _ | refine bel_trans ?_ (by assumption)))⟩
      · obtain rfl := hno (fun h => c2 (by have := h.2.2.1; omega))
        have d6 : decide (s4 ≤ s7 - s8 - 2) = false := by simpa using c2
        clear hno hv c5 c6 c0 c1'
        go_enter Try.func39, Try.ntmps39
        go_wp2
        go_quiet (fail)
        go_wp2
        go_ret
        exact ⟨rfl, (by repeat (first | assumption | exact Below.refl _ _ | refine bel_alloc ?_ _ | refine bel_drewN ?_ _ | refine bel_drew ?_ | refine bel_set ?_ (by first | (simp; done) | omega | (simp; omega)) _ | refine bel_trans ?_ (by assumption)))⟩
    · obtain rfl := hno (fun h => c6 (h.2.2.2.2.1 c5))
      have e6' : (s6 != 0) = true := by simpa using c6
      clear hno hv c5 c6 c0 c1'
      go_enter Try.func39, Try.ntmps39
      go_wp2
      go_quiet (fail)
      go_wp2
      go_ret
      exact ⟨rfl, (by repeat (first | assumption | exact Below.refl _ _ | refine bel_alloc ?_ _ | refine bel_drewN ?_ _ | refine bel_drew ?_ | refine bel_set ?_ (by first | (simp; done) | omega | (simp; omega)) _ | refine bel_trans ?_ (by assumption)))⟩
  · have e5 : (s5 == 0) = false := by simpa using c5
    have e5' : (s5 != 0) = true := by simpa using c5
    by_cases c6 : s6 = 0
    · obtain rfl := hno (fun h => c5 (h.2.2.2.2.2 c6))
      have e6 : (s6 == 0) = true := by simpa using c6
      clear hno hv c5 c6 c0 c1'
      go_enter Try.func39, Try.ntmps39
      go_wp2
      go_quiet (fail)
      go_wp2
      go_ret
      exact ⟨rfl, (by repeat (first | assumption | exact Below.refl _ _ | refine bel_alloc ?_ _ | refine bel_drewN ?_ _ | refine bel_drew ?_ | refine bel_set ?_ (by first | (simp; done) | omega | (simp; omega)) _ | refine bel_trans ?_ (by assumption)))⟩
    · have e6 : (s6 == 0) = false := by simpa using c6
      have e6' : (s6 != 0) = true := by simpa using c6
      by_cases c2 : s4 ≤ s7 - s8 - 2
      · have d6 : decide (s4 ≤ s7 - s8 - 2) = true := by simpa using c2
        by_cases c3 : s5 ≤ s7 - s8 - 2
        · obtain rfl : v = true := hv.2 ⟨c0, c1', by omega, by omega, by simp [c5, c6]⟩
          have d7 : decide (s5 ≤ s7 - s8 - 2) = true := by simpa using c3
          clear hno hv c5 c6 c0 c1'
          go_enter Try.func39, Try.ntmps39
          go_wp2
          go_quiet (fail)
          go_wp2
          go_ret
          exact ⟨rfl, (by repeat (first | assumption | exact Below.refl _ _ | refine bel_alloc ?_ _ | refine bel_drewN ?_ _ | refine bel_drew ?_ | refine bel_set ?_ (by first | (simp; done) | omega | (simp; omega)) _ | refine bel_trans ?_ (by assumption)))⟩
        · obtain rfl := hno (fun h => c3 (by have := h.2.2.2.1; omega))
          have d7 : decide (s5 ≤ s7 - s8 - 2) = false := by simpa using c3
          clear hno hv c5 c6 c0 c1'
          go_enter Try.func39, Try.ntmps39
          go_wp2
          go_quiet (fail)
          go_wp2
          go_ret
          exact ⟨rfl, (by repeat (first | assumption | exact Below.refl _ _ | refine bel_alloc ?_ _ | refine bel_drewN ?_ _ | refine bel_drew ?_ | refine bel_set ?_ (by first | (simp; done) | omega | (simp; omega)) _ | refine bel_trans ?_ (by assumption)))⟩
      · obtain rfl := hno (fun h => c2 (by have := h.2.2.1; omega))
        have d6 : decide (s4 ≤ s7 - s8 - 2) = false := by simpa using c2
        clear hno hv c5 c6 c0 c1'
        go_enter Try.func39, Try.ntmps39
        go_wp2
        go_quiet (fail)
        go_wp2
        go_ret
        exact ⟨rfl, (by repeat (first | assumption | exact Below.refl _ _ | refine bel_alloc ?_ _ | refine bel_drewN ?_ _ | refine bel_drew ?_ | refine bel_set ?_ (by first | (simp; done) | omega | (simp; omega)) _ | refine bel_trans ?_ (by assumption)))⟩
end Go.Proofs.Ytkdphoacniigjaa.Super
