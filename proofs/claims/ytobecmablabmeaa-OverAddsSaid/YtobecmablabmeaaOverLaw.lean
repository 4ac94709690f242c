/- The walks of the laws OverMultiples, OverBetween, OverAdds: each returns true for any numbers of 64 bits. -/
import Derived.Test.YtobecmablabmeaaOver
import Derived.Laws.BitsAllLaws
namespace Go.Proofs.Ytobecmablabmeaa.Over
open Go.RowKit
set_option linter.unusedVariables false
set_option linter.unusedSimpArgs false

theorem dm (n b : Int) (hb : 1 ≤ b) : n / b * b = n - n % b := by
  have := Int.emod_add_mul_ediv n b
  rw [Int.mul_comm] at this
  omega

theorem multiples_any (n b : Int) (w : World) (h0 : 0 ≤ n) (h1 : n ≤ 18446744073709551615) (h2 : 0 ≤ b) (h3 : b ≤ 18446744073709551615) :
    Calls Try.prog 4 #[.int .u64 n, .int .u64 b] w fun e w' => e = .returned (.bool true) ∧ w = w' := by
  rcases Int.lt_or_le 0 b with hb | hb
  · have ⟨a1, a2, a3⟩ := mod_le n b h0 hb
    have q0 : 0 ≤ n / b := Int.ediv_nonneg h0 (by omega)
    have q1 : n / b ≤ n := Int.ediv_le_self _ h0
    have hd := dm n b hb
    have g1 : 0 ≤ n / b * b := by omega
    have g2 : n / b * b ≤ 18446744073709551615 := by omega
    have hb0 : (b == 0) = false := by simp; omega
    have hne : (n - n % b != n / b * b) = false := by simp; omega
    clear hd
    rcases Int.lt_or_le 0 (n % b) with hr | hr
    · have he : (n - n % b == n) = false := by simp; omega
      by_cases ho : n - n % b + b ≤ 18446744073709551615
      · have hlt : decide (18446744073709551615 - (n - n % b) < b) = false := by simp; omega
        have hu := Lib.hid (fun w => up_add n b w h0 h1 hb hr ho)
        go_enter Try.func4, Try.ntmps4
        go_wp2_with (first | (go_at_call 16; refine (down_any _ _ _ h0 h1 hb).mono ?_; rintro e w' ⟨rfl, rfl⟩) | (go_at_call 17; refine (hu.out _).mono ?_; rintro e w' ⟨rfl, rfl⟩) | (go_at_call 18; refine (alive_any _).mono ?_; rintro e w' ⟨rfl, rfl⟩))
        go_ret
        exact ⟨rfl, rfl⟩
      · have hlt : decide (18446744073709551615 - (n - n % b) < b) = true := by simp; omega
        have hu := Lib.hid (fun w => up_no n b w h0 h1 hb h3 hr (by omega))
        go_enter Try.func4, Try.ntmps4
        go_wp2_with (first | (go_at_call 16; refine (down_any _ _ _ h0 h1 hb).mono ?_; rintro e w' ⟨rfl, rfl⟩) | (go_at_call 17; refine (hu.out _).mono ?_; rintro e w' ⟨rfl, rfl⟩) | (go_at_call 18; refine (alive_any _).mono ?_; rintro e w' ⟨rfl, rfl⟩))
        go_ret
        exact ⟨rfl, rfl⟩
    · have he : (n - n % b == n) = true := by simp; omega
      have hu := Lib.hid (fun w => up_even n b w h0 h1 hb hr)
      go_enter Try.func4, Try.ntmps4
      go_wp2_with (first | (go_at_call 16; refine (down_any _ _ _ h0 h1 hb).mono ?_; rintro e w' ⟨rfl, rfl⟩) | (go_at_call 17; refine (hu.out _).mono ?_; rintro e w' ⟨rfl, rfl⟩) | (go_at_call 18; refine (alive_any _).mono ?_; rintro e w' ⟨rfl, rfl⟩))
      go_ret
      exact ⟨rfl, rfl⟩
  · obtain rfl : b = 0 := by omega
    rcases Int.lt_or_le 0 n with hn | hn
    · have hb0 : (n == 0) = false := by simp; omega
      go_enter Try.func4, Try.ntmps4
      go_wp2_with (first | (go_at_call 16; refine (down_0 _ _).mono ?_; rintro e w' ⟨rfl, rfl⟩) | (go_at_call 17; refine (up_n0 _ _ hn).mono ?_; rintro e w' ⟨rfl, rfl⟩) | (go_at_call 18; refine (alive_any _).mono ?_; rintro e w' ⟨rfl, rfl⟩))
      go_ret
      exact ⟨rfl, rfl⟩
    · obtain rfl : n = 0 := by omega
      go_enter Try.func4, Try.ntmps4
      go_wp2_with (first | (go_at_call 16; refine (down_0 _ _).mono ?_; rintro e w' ⟨rfl, rfl⟩) | (go_at_call 17; refine (up_00 _).mono ?_; rintro e w' ⟨rfl, rfl⟩) | (go_at_call 18; refine (alive_any _).mono ?_; rintro e w' ⟨rfl, rfl⟩))
      go_ret
      exact ⟨rfl, rfl⟩

theorem ediv_mul (x b q : Int) (hb : 1 ≤ b) : (x - b * q) / b = x / b - q := by
  have := Int.add_mul_ediv_left x (-q) (show b ≠ 0 by omega)
  rw [Int.mul_neg, ← Int.sub_eq_add_neg] at this
  omega

/-- How many multiples lie below t, without those below f, where there is one (a) that isn't below f. -/
theorem count_even (f t b : Int) (hb : 1 ≤ b) (h : f % b ≤ 0) (h0 : 1 ≤ f) : (t - 1 - f) / b + 1 = (t - 1) / b + 1 - ((f - 1) / b + 1) := by
  have ⟨a1, a2, a3⟩ := mod_le f b (by omega) hb
  have e := Int.emod_add_mul_ediv f b
  have e1 : f = b * (f / b) := by omega
  have e2 : (t - 1 - f) / b = (t - 1) / b - f / b := by
    rw [← ediv_mul (t - 1) b (f / b) hb, ← e1]
  have e3 : (f - 1) / b = f / b - 1 := by
    have h1 := ediv_mul (b - 1) b (1 - f / b) hb
    rw [Int.ediv_eq_zero_of_lt (show (0:Int) ≤ b - 1 by omega) (show b - 1 < b by omega)] at h1
    have h2 : b - 1 - b * (1 - f / b) = f - 1 := by rw [Int.mul_sub, Int.mul_one]; omega
    rw [h2] at h1
    omega
  omega
theorem below_odd (f b : Int) (hb : 1 ≤ b) (h0 : 0 ≤ f) (h : 1 ≤ f % b) : (f - 1) / b = f / b := by
  have ⟨a1, a2, a3⟩ := mod_le f b (by omega) hb
  have e := Int.emod_add_mul_ediv f b
  have h1 := ediv_mul (f % b - 1) b (- (f / b)) hb
  rw [Int.ediv_eq_zero_of_lt (show (0:Int) ≤ f % b - 1 by omega) (show f % b - 1 < b by omega), Int.mul_neg] at h1
  have h2 : f % b - 1 - -(b * (f / b)) = f - 1 := by omega
  rw [h2] at h1
  omega
theorem count_odd (f t b : Int) (hb : 1 ≤ b) (h0 : 0 ≤ f) (h : 1 ≤ f % b) :
    (t - 1 - (f - f % b + b)) / b + 1 = (t - 1) / b + 1 - ((f - 1) / b + 1) := by
  have e := Int.emod_add_mul_ediv f b
  have e1 : f - f % b + b = b * (f / b + 1) := by rw [Int.mul_add, Int.mul_one]; omega
  rw [e1, ediv_mul _ _ _ hb, below_odd f b hb h0 h]
  omega
theorem count_none (f t b : Int) (hb : 1 ≤ b) (h0 : 0 ≤ f) (h : 1 ≤ f % b) (h1 : f < t) (h2 : t ≤ f - f % b + b) :
    0 = (t - 1) / b + 1 - ((f - 1) / b + 1) := by
  have ⟨a1, a2, a3⟩ := mod_le f b (by omega) hb
  have e := Int.emod_add_mul_ediv f b
  rw [below_odd f b hb h0 h]
  have h3 := ediv_mul (t - 1) b (f / b) hb
  rw [Int.ediv_eq_zero_of_lt (by omega) (by omega)] at h3
  omega

/-- The law's walk, given what Between returns. -/
theorem between_law (f t b v : Int) (w : World) (h0 : 0 ≤ f) (h1 : f ≤ 18446744073709551615) (h2 : 0 ≤ t) (h3 : t ≤ 18446744073709551615) (hb : 1 ≤ b) (hlt : f < t)
    (hv : v = (t - 1) / b + 1 - (if 0 < f then (f - 1) / b + 1 else 0))
    (hbt : ∀ w, Calls Try.prog 19 #[.int .u64 f, .int .u64 t, .int .u64 b] w fun e w' => e = .returned (.int .u64 v) ∧ w = w') :
    Calls Try.prog 5 #[.int .u64 f, .int .u64 t, .int .u64 b] w fun e w' => e = .returned (.bool true) ∧ w = w' := by
  have g1 : 0 ≤ (t - 1) / b := Int.ediv_nonneg (by omega) (by omega)
  have g2 : (t - 1) / b ≤ t - 1 := Int.ediv_le_self _ (by omega)
  have hb0 : (b == 0) = false := by simp; omega
  have hd : decide (t ≤ f) = false := by simp; omega
  have H := Lib.hid hbt
  clear hbt
  by_cases hf : 0 < f
  · rw [if_pos hf] at hv
    subst hv
    have g3 : (f - 1) / b ≤ (t - 1) / b := Int.ediv_le_ediv (by omega) (by omega)
    have g4 : 0 ≤ (f - 1) / b := Int.ediv_nonneg (by omega) (by omega)
    have hd2 : decide (0 < f) = true := by simp; omega
    go_enter Try.func5, Try.ntmps5
    go_wp2_with (first | (go_at_call 19; refine (H.out _).mono ?_; rintro e w' ⟨rfl, rfl⟩) | (go_at_call 18; refine (alive_any _).mono ?_; rintro e w' ⟨rfl, rfl⟩))
    go_ret
    exact ⟨rfl, rfl⟩
  · rw [if_neg hf, Int.sub_zero] at hv
    subst hv
    have hd2 : decide (0 < f) = false := by simp; omega
    go_enter Try.func5, Try.ntmps5
    go_wp2_with (first | (go_at_call 19; refine (H.out _).mono ?_; rintro e w' ⟨rfl, rfl⟩) | (go_at_call 18; refine (alive_any _).mono ?_; rintro e w' ⟨rfl, rfl⟩))
    go_ret
    exact ⟨rfl, rfl⟩

/-- The law where the answer is 0 by its head: no multiples at all, or nothing between. -/
theorem between_zero (f t b : Int) (w : World) (hz : b = 0 ∨ (1 ≤ b ∧ t ≤ f))
    (hbt : ∀ w, Calls Try.prog 19 #[.int .u64 f, .int .u64 t, .int .u64 b] w fun e w' => e = .returned (.int .u64 0) ∧ w = w') :
    Calls Try.prog 5 #[.int .u64 f, .int .u64 t, .int .u64 b] w fun e w' => e = .returned (.bool true) ∧ w = w' := by
  have H := Lib.hid hbt
  clear hbt
  rcases hz with rfl | ⟨hb, hd⟩
  · go_enter Try.func5, Try.ntmps5
    go_wp2_with (first | (go_at_call 19; refine (H.out _).mono ?_; rintro e w' ⟨rfl, rfl⟩) | (go_at_call 18; refine (alive_any _).mono ?_; rintro e w' ⟨rfl, rfl⟩))
    go_ret
    exact ⟨rfl, rfl⟩
  · have hb0 : (b == 0) = false := by simp; omega
    have hd : decide (t ≤ f) = true := by simp; omega
    go_enter Try.func5, Try.ntmps5
    go_wp2_with (first | (go_at_call 19; refine (H.out _).mono ?_; rintro e w' ⟨rfl, rfl⟩) | (go_at_call 18; refine (alive_any _).mono ?_; rintro e w' ⟨rfl, rfl⟩))
    go_ret
    exact ⟨rfl, rfl⟩

theorem between_any (f t b : Int) (w : World) (h0 : 0 ≤ f) (h1 : f ≤ 18446744073709551615) (h2 : 0 ≤ t) (h3 : t ≤ 18446744073709551615) (h4 : 0 ≤ b) (h5 : b ≤ 18446744073709551615) :
    Calls Try.prog 5 #[.int .u64 f, .int .u64 t, .int .u64 b] w fun e w' => e = .returned (.bool true) ∧ w = w' := by
  rcases Int.lt_or_le 0 b with hb | hb
  · have ⟨a1, a2, a3⟩ := mod_le f b h0 hb
    rcases Int.lt_or_le 0 (f % b) with hr | hr
    · by_cases ho : f - f % b + b ≤ 18446744073709551615
      · by_cases hlt : f < t
        · by_cases ha : f - f % b + b < t
          · refine between_law f t b _ w h0 h1 h2 h3 hb hlt ?_ (fun w => between_hit f t b _ w h0 h1 h3 hb (by omega) ha (fun w => up_add f b w h0 h1 hb hr ho))
            rw [if_pos (by omega)]
            exact count_odd f t b hb h0 hr
          · refine between_law f t b 0 w h0 h1 h2 h3 hb hlt ?_ (fun w => between_none f t b _ 0 w hb (Or.inr (by omega)) (fun w => up_add f b w h0 h1 hb hr ho))
            rw [if_pos (by omega)]
            exact count_none f t b hb h0 hr hlt (by omega)
        · exact between_zero f t b w (Or.inr ⟨hb, by omega⟩) (fun w => between_none f t b _ 0 w hb (Or.inr (by omega)) (fun w => up_add f b w h0 h1 hb hr ho))
      · by_cases hlt : f < t
        · refine between_law f t b 0 w h0 h1 h2 h3 hb hlt ?_ (fun w => between_none f t b 0 50 w hb (Or.inl (by omega)) (fun w => up_no f b w h0 h1 hb h5 hr (by omega)))
          rw [if_pos (by omega)]
          exact count_none f t b hb h0 hr hlt (by omega)
        · exact between_zero f t b w (Or.inr ⟨hb, by omega⟩) (fun w => between_none f t b 0 50 w hb (Or.inl (by omega)) (fun w => up_no f b w h0 h1 hb h5 hr (by omega)))
    · by_cases hlt : f < t
      · refine between_law f t b _ w h0 h1 h2 h3 hb hlt ?_ (fun w => between_hit f t b f w h0 h1 h3 hb h0 hlt (fun w => up_even f b w h0 h1 hb hr))
        by_cases hf : 0 < f
        · rw [if_pos hf]
          exact count_even f t b hb hr (by omega)
        · rw [if_neg hf]
          obtain rfl : f = 0 := by omega
          rw [Int.sub_zero, Int.sub_zero]
      · exact between_zero f t b w (Or.inr ⟨hb, by omega⟩) (fun w => between_none f t b f 0 w hb (Or.inr (by omega)) (fun w => up_even f b w h0 h1 hb hr))
  · obtain rfl : b = 0 := by omega
    rcases Int.lt_or_le 0 f with hn | hn
    · exact between_zero f t 0 w (Or.inl rfl) (fun w => between_0 f t _ _ w (fun w => up_n0 f w hn))
    · obtain rfl : f = 0 := by omega
      exact between_zero 0 t 0 w (Or.inl rfl) (fun w => between_0 0 t _ _ w (fun w => up_00 w))

/-! ### Sub, Next, Mid; the law OverAdds -/
theorem sub64 (x y : Int) (hx : 0 ≤ x) (hy : 0 ≤ y) (hy1 : y ≤ 18446744073709551615) (w : World) : (callFunc 63 #[.int .u64 x, .int .u64 y, .int .u64 0]).run Try.prog w =
    .ok (.value (.tuple #[.int .u64 ((x - y) % 18446744073709551616), .int .u64 (if x < y then 1 else 0)])) w := by
  obtain ⟨x, rfl⟩ := Int.eq_ofNat_of_zero_le hx
  obtain ⟨y, rfl⟩ := Int.eq_ofNat_of_zero_le hy
  have e := run_sub64 (P := Try.prog) x y 0 (by omega) w
  rw [show ((0 : Nat) : Int) = 0 from rfl] at e
  rw [run_callFunc_extern Try.func63 (by kernel_rfl) (by kernel_rfl) (by kernel_rfl) (e := sub64Entry) (by kernel_rfl), e]
  have e1 : (((x + 18446744073709551616 - y - 0) % 18446744073709551616 : Nat) : Int) = ((x : Int) - y) % 18446744073709551616 := by omega
  have e2 : ((if x < y + 0 then 1 else 0 : Nat) : Int) = if (x : Int) < y then 1 else 0 := by split <;> split <;> omega
  rw [e1, e2]
  rfl

theorem sub_ok (a b : Int) (w : World) (h0 : 0 ≤ a) (h1 : a ≤ 18446744073709551615) (h2 : 0 ≤ b) (h3 : b ≤ a) :
    Calls Try.prog 55 #[.int .u64 a, .int .u64 b] w fun e w' => e = .returned (.int .u64 (a - b)) ∧ w = w' := by
  have hk : ∀ w : World, (callFunc 63 #[.int .u64 a, .int .u64 b, .int .u64 0]).run Try.prog w =
    .ok (.value (.tuple #[.int .u64 (a - b), .int .u64 0])) w := by
    intro w
    rw [sub64 a b h0 h2 (by omega), show (a - b) % 18446744073709551616 = a - b by omega, if_neg (by omega)]
  go_enter Try.func55, Try.ntmps55
  go_wp2_with (simp only [hk])
  go_ret
  exact ⟨rfl, rfl⟩

theorem sub_no (a b : Int) (w : World) (h0 : 0 ≤ a) (h2 : b ≤ 18446744073709551615) (h3 : a < b) :
    Calls Try.prog 55 #[.int .u64 a, .int .u64 b] w fun e w' => e = .returned (.int .u64 0) ∧ w = w' := by
  have hk : ∀ w : World, (callFunc 63 #[.int .u64 a, .int .u64 b, .int .u64 0]).run Try.prog w =
    .ok (.value (.tuple #[.int .u64 ((a - b) % 18446744073709551616), .int .u64 1])) w := by
    intro w
    rw [sub64 a b h0 (by omega) h2, if_pos h3]
  go_enter Try.func55, Try.ntmps55
  go_wp2_with (simp only [hk])
  go_ret
  exact ⟨rfl, rfl⟩

theorem next_ok (a : Int) (w : World) (h0 : 0 ≤ a) (h3 : a < 18446744073709551615) :
    Calls Try.prog 54 #[.int .u64 a] w fun e w' => e = .returned (.tuple #[.int .u64 (a + 1), .int .i64 0]) ∧ w = w' := by
  go_enter Try.func54, Try.ntmps54
  go_wp2_with (go_at_call 53; refine (add_ok _ _ _ h0 (by omega) (by omega)).mono ?_; rintro e w' ⟨rfl, rfl⟩)
  go_ret2
  exact ⟨rfl, rfl⟩
theorem next_no (w : World) :
    Calls Try.prog 54 #[.int .u64 18446744073709551615] w fun e w' => e = .returned (.tuple #[.int .u64 0, .int .i64 50]) ∧ w = w' := by
  go_enter Try.func54, Try.ntmps54
  go_wp2_with (go_at_call 53; refine (add_no _ _ _ (by omega) (by omega) (by omega) (by omega) (by omega)).mono ?_; rintro e w' ⟨rfl, rfl⟩)
  go_ret2
  exact ⟨rfl, rfl⟩

theorem add_xor_and : ∀ n a b : Nat, a ≤ n → a + b = (a ^^^ b) + 2 * (a &&& b) := by
  intro n
  induction n with
  | zero => intro a b h; obtain rfl : a = 0 := by omega
            simp
  | succ n ih =>
    intro a b h
    by_cases h0 : a = 0
    · subst h0; simp
    have e := ih (a / 2) (b / 2) (by omega)
    have h1 : (a ^^^ b) / 2 = a / 2 ^^^ b / 2 := Nat.xor_div_two
    have h2 : (a &&& b) / 2 = a / 2 &&& b / 2 := Nat.and_div_two
    have h3 : (a ^^^ b) % 2 = (a + b) % 2 := by have := @Nat.xor_mod_two_eq_one a b; omega
    have h4 := @Nat.and_mod_two_eq_one a b
    rw [← h1, ← h2] at e
    have h5 : (a &&& b) % 2 = if a % 2 = 1 ∧ b % 2 = 1 then 1 else 0 := by
      split
      · rename_i h; rw [h4]; exact h
      · rename_i h; have := fun x => h (h4.1 x); omega
    split at h5 <;> omega

theorem mid_any (a b : Int) (w : World) (h0 : 0 ≤ a) (h1 : a ≤ 18446744073709551615) (h2 : 0 ≤ b) (h3 : b ≤ 18446744073709551615) :
    Calls Try.prog 56 #[.int .u64 a, .int .u64 b] w fun e w' => e = .returned (.int .u64 (a / 2 + b / 2 + (a % 2 + b % 2) / 2)) ∧ w = w' := by
  obtain ⟨x, rfl⟩ := Int.eq_ofNat_of_zero_le h0
  obtain ⟨y, rfl⟩ := Int.eq_ofNat_of_zero_le h2
  have e1 := u64_and_nat x y (by omega) (by omega)
  have e2 := u64_xor_nat x y (by omega) (by omega)
  have k := add_xor_and x x y (Nat.le_refl _)
  have g : (((x &&& y : Nat) : Int) + ((x ^^^ y : Nat) : Int) / 2) = (x : Int) / 2 + (y : Int) / 2 + ((x : Int) % 2 + (y : Int) % 2) / 2 := by omega
  have e3 : ((x &&& y : Nat) : Int) + ((x ^^^ y : Nat) : Int) / 2 ≤ 18446744073709551615 := by omega
  have G := Lib.hid g
  generalize ha : x &&& y = p at *
  generalize hx : x ^^^ y = q at *
  clear ha hx k g
  go_enter Try.func56, Try.ntmps56
  go_wp2
  go_ret
  exact ⟨by rw [← G.out]; rfl, rfl⟩

theorem adds_any (a b : Int) (w : World) (h0 : 0 ≤ a) (h1 : a ≤ 18446744073709551615) (h2 : 0 ≤ b) (h3 : b ≤ 18446744073709551615) :
    Calls Try.prog 11 #[.int .u64 a, .int .u64 b] w fun e w' => e = .returned (.bool true) ∧ w = w' := by
  have hm := Lib.hid (fun w => mid_any a b w h0 h1 h2 h3)
  by_cases c1 : a = 18446744073709551615
  · subst c1
    by_cases c2 : 0 < b
    · by_cases c3 : b < 18446744073709551615
      · have ha := Lib.hid (fun w => add_no 18446744073709551615 b w h0 h1 h2 h3 (by omega))
        have hs := Lib.hid (fun w => sub_ok 18446744073709551615 b w h0 h1 h2 h3)
        go_enter Try.func11, Try.ntmps11
        go_wp2_with (first | (go_at_call 53; refine (ha.out _).mono ?_; rintro e w' ⟨rfl, rfl⟩) | (go_at_call 54; refine (next_no _).mono ?_; rintro e w' ⟨rfl, rfl⟩) | (go_at_call 55; refine (hs.out _).mono ?_; rintro e w' ⟨rfl, rfl⟩) | (go_at_call 56; refine (hm.out _).mono ?_; rintro e w' ⟨rfl, rfl⟩) | (go_at_call 18; refine (alive_any _).mono ?_; rintro e w' ⟨rfl, rfl⟩))
        go_ret
        exact ⟨rfl, rfl⟩
      · obtain rfl : b = 18446744073709551615 := by omega
        have ha := Lib.hid (fun w => add_no 18446744073709551615 18446744073709551615 w h0 h1 h2 h3 (by omega))
        have hs := Lib.hid (fun w => sub_ok 18446744073709551615 18446744073709551615 w h0 h1 h2 h3)
        go_enter Try.func11, Try.ntmps11
        go_wp2_with (first | (go_at_call 53; refine (ha.out _).mono ?_; rintro e w' ⟨rfl, rfl⟩) | (go_at_call 54; refine (next_no _).mono ?_; rintro e w' ⟨rfl, rfl⟩) | (go_at_call 55; refine (hs.out _).mono ?_; rintro e w' ⟨rfl, rfl⟩) | (go_at_call 56; refine (hm.out _).mono ?_; rintro e w' ⟨rfl, rfl⟩) | (go_at_call 18; refine (alive_any _).mono ?_; rintro e w' ⟨rfl, rfl⟩))
        go_ret
        exact ⟨rfl, rfl⟩
    · obtain rfl : b = 0 := by omega
      have ha := Lib.hid (fun w => add_ok 18446744073709551615 0 w h0 h2 (by omega))
      have hs := Lib.hid (fun w => sub_ok 18446744073709551615 0 w h0 h1 h2 (by omega))
      go_enter Try.func11, Try.ntmps11
      go_wp2_with (first | (go_at_call 53; refine (ha.out _).mono ?_; rintro e w' ⟨rfl, rfl⟩) | (go_at_call 54; refine (next_no _).mono ?_; rintro e w' ⟨rfl, rfl⟩) | (go_at_call 55; refine (hs.out _).mono ?_; rintro e w' ⟨rfl, rfl⟩) | (go_at_call 56; refine (hm.out _).mono ?_; rintro e w' ⟨rfl, rfl⟩) | (go_at_call 18; refine (alive_any _).mono ?_; rintro e w' ⟨rfl, rfl⟩))
      go_ret
      exact ⟨rfl, rfl⟩
  · have hn := Lib.hid (fun w => next_ok a w h0 (by omega))
    have c0 : (a == 18446744073709551615) = false := by simpa using c1
    have c1' : a < 18446744073709551615 := by omega
    clear c1
    by_cases c2 : b < a
    · by_cases c3 : 18446744073709551615 < a + b
      · have ha := Lib.hid (fun w => add_no a b w h0 h1 h2 h3 (by omega))
        have hs := Lib.hid (fun w => sub_ok a b w h0 h1 h2 (by omega))
        go_enter Try.func11, Try.ntmps11
        go_wp2_with (first | (go_at_call 53; refine (ha.out _).mono ?_; rintro e w' ⟨rfl, rfl⟩) | (go_at_call 54; refine (hn.out _).mono ?_; rintro e w' ⟨rfl, rfl⟩) | (go_at_call 55; refine (hs.out _).mono ?_; rintro e w' ⟨rfl, rfl⟩) | (go_at_call 56; refine (hm.out _).mono ?_; rintro e w' ⟨rfl, rfl⟩) | (go_at_call 18; refine (alive_any _).mono ?_; rintro e w' ⟨rfl, rfl⟩))
        go_ret
        exact ⟨rfl, rfl⟩
      · have c3' : a + b ≤ 18446744073709551615 := by omega
        have ha := Lib.hid (fun w => add_ok a b w h0 h2 c3')
        have hs := Lib.hid (fun w => sub_ok a b w h0 h1 h2 (by omega))
        go_enter Try.func11, Try.ntmps11
        go_wp2_with (first | (go_at_call 53; refine (ha.out _).mono ?_; rintro e w' ⟨rfl, rfl⟩) | (go_at_call 54; refine (hn.out _).mono ?_; rintro e w' ⟨rfl, rfl⟩) | (go_at_call 55; refine (hs.out _).mono ?_; rintro e w' ⟨rfl, rfl⟩) | (go_at_call 56; refine (hm.out _).mono ?_; rintro e w' ⟨rfl, rfl⟩) | (go_at_call 18; refine (alive_any _).mono ?_; rintro e w' ⟨rfl, rfl⟩))
        go_ret
        exact ⟨rfl, rfl⟩
    · obtain ⟨s, hs⟩ : ∃ s : Int, s = 0 ∧ ∀ w, Calls Try.prog 55 #[.int .u64 a, .int .u64 b] w fun e w' => e = .returned (.int .u64 0) ∧ w = w' := by
        refine ⟨0, rfl, fun w => ?_⟩
        by_cases c4 : a < b
        · exact sub_no a b w h0 h3 c4
        · obtain rfl : a = b := by omega
          have := sub_ok a a w h0 h1 h2 (by omega)
          rwa [Int.sub_self] at this
      have hs := Lib.hid hs.2
      by_cases c3 : 18446744073709551615 < a + b
      · have ha := Lib.hid (fun w => add_no a b w h0 h1 h2 h3 (by omega))
        go_enter Try.func11, Try.ntmps11
        go_wp2_with (first | (go_at_call 53; refine (ha.out _).mono ?_; rintro e w' ⟨rfl, rfl⟩) | (go_at_call 54; refine (hn.out _).mono ?_; rintro e w' ⟨rfl, rfl⟩) | (go_at_call 55; refine (hs.out _).mono ?_; rintro e w' ⟨rfl, rfl⟩) | (go_at_call 56; refine (hm.out _).mono ?_; rintro e w' ⟨rfl, rfl⟩) | (go_at_call 18; refine (alive_any _).mono ?_; rintro e w' ⟨rfl, rfl⟩))
        go_ret
        exact ⟨rfl, rfl⟩
      · have c3' : a + b ≤ 18446744073709551615 := by omega
        have ha := Lib.hid (fun w => add_ok a b w h0 h2 c3')
        go_enter Try.func11, Try.ntmps11
        go_wp2_with (first | (go_at_call 53; refine (ha.out _).mono ?_; rintro e w' ⟨rfl, rfl⟩) | (go_at_call 54; refine (hn.out _).mono ?_; rintro e w' ⟨rfl, rfl⟩) | (go_at_call 55; refine (hs.out _).mono ?_; rintro e w' ⟨rfl, rfl⟩) | (go_at_call 56; refine (hm.out _).mono ?_; rintro e w' ⟨rfl, rfl⟩) | (go_at_call 18; refine (alive_any _).mono ?_; rintro e w' ⟨rfl, rfl⟩))
        go_ret
        exact ⟨rfl, rfl⟩
end Go.Proofs.Ytobecmablabmeaa.Over
