/- The contracts of package over: what Down, Up, Add, Between, Next, Sub, Mid return for any two numbers of 64 bits. -/
import Derived.Test.YtobecmablabmeaaRows
import Derived.WalkKit
import Derived.WalkSpells
import Derived.WalkLawsBesides
import Derived.Laws.Externs
import Derived.Lib.Hide
import Derived.Shelf.Spec.BitsCarry
namespace Go.Proofs.Ytobecmablabmeaa.Over
open Go.RowKit
set_option linter.unusedVariables false
set_option linter.unusedSimpArgs false

theorem down_0 (n : Int) (w : World) : Calls Try.prog 16 #[.int .u64 n, .int .u64 0] w fun e w' => e = .returned (.int .u64 0) ∧ w = w' := by
  go_enter Try.func16, Try.ntmps16
  go_wp2
  go_ret
  exact ⟨rfl, rfl⟩

theorem mod_le (n b : Int) (h0 : 0 ≤ n) (h2 : 1 ≤ b) : 0 ≤ n % b ∧ n % b ≤ n ∧ n % b < b :=
  ⟨Int.emod_nonneg n (by omega), by
    have := Int.emod_add_mul_ediv n b
    have h3 : 0 ≤ n / b := Int.ediv_nonneg h0 (by omega)
    have h4 : 0 ≤ b * (n / b) := Int.mul_nonneg (by omega) h3
    omega, Int.emod_lt_of_pos n (by omega)⟩

theorem down_any (n b : Int) (w : World) (h0 : 0 ≤ n) (h1 : n ≤ 18446744073709551615) (h2 : 1 ≤ b) :
    Calls Try.prog 16 #[.int .u64 n, .int .u64 b] w fun e w' => e = .returned (.int .u64 (n - n % b)) ∧ w = w' := by
  have ⟨a1, a2, a3⟩ := mod_le n b h0 h2
  have hb : (b == 0) = false := by simp; omega
  go_enter Try.func16, Try.ntmps16
  go_wp2
  go_ret
  exact ⟨rfl, rfl⟩

theorem add64 (x y : Int) (hx : 0 ≤ x) (hy : 0 ≤ y) (w : World) : (callFunc 62 #[.int .u64 x, .int .u64 y, .int .u64 0]).run Try.prog w =
    .ok (.value (.tuple #[.int .u64 ((x + y) % 18446744073709551616), .int .u64 ((x + y) / 18446744073709551616)])) w := by
  rw [run_callFunc_extern Try.func62 (by kernel_rfl) (by kernel_rfl) (by kernel_rfl) (e := add64Entry) (by kernel_rfl), run_add64 x y 0 hx hy (by omega) (by omega)]
  simp only [Result.andThen, Int.add_zero]

theorem add_ok (a b : Int) (w : World) (h0 : 0 ≤ a) (h2 : 0 ≤ b) (h3 : a + b ≤ 18446744073709551615) :
    Calls Try.prog 53 #[.int .u64 a, .int .u64 b] w fun e w' => e = .returned (.tuple #[.int .u64 (a + b), .int .i64 0]) ∧ w = w' := by
  have hk : ∀ w : World, (callFunc 62 #[.int .u64 a, .int .u64 b, .int .u64 0]).run Try.prog w =
    .ok (.value (.tuple #[.int .u64 (a + b), .int .u64 0])) w := by
    intro w
    rw [add64 a b h0 h2, show (a + b) % 18446744073709551616 = a + b by omega, show (a + b) / 18446744073709551616 = 0 by omega]
  go_enter Try.func53, Try.ntmps53
  go_wp2_with (simp only [hk])
  go_ret2
  exact ⟨rfl, rfl⟩

theorem add_no (a b : Int) (w : World) (h0 : 0 ≤ a) (h1 : a ≤ 18446744073709551615) (h2 : 0 ≤ b) (h4 : b ≤ 18446744073709551615) (h3 : 18446744073709551615 < a + b) :
    Calls Try.prog 53 #[.int .u64 a, .int .u64 b] w fun e w' => e = .returned (.tuple #[.int .u64 0, .int .i64 50]) ∧ w = w' := by
  have hk : ∀ w : World, (callFunc 62 #[.int .u64 a, .int .u64 b, .int .u64 0]).run Try.prog w =
    .ok (.value (.tuple #[.int .u64 ((a + b) % 18446744073709551616), .int .u64 1])) w := by
    intro w
    rw [add64 a b h0 h2, show (a + b) / 18446744073709551616 = 1 by omega]
  go_enter Try.func53, Try.ntmps53
  go_wp2_with (simp only [hk])
  go_ret2
  exact ⟨rfl, rfl⟩

theorem up_00 (w : World) :
    Calls Try.prog 17 #[.int .u64 0, .int .u64 0] w fun e w' => e = .returned (.tuple #[.int .u64 0, .int .i64 0]) ∧ w = w' := by
  go_enter Try.func17, Try.ntmps17
  go_wp2_with (go_at_call 16; refine (down_0 _ _).mono ?_; rintro e w' ⟨rfl, rfl⟩)
  go_ret2
  exact ⟨rfl, rfl⟩

theorem up_n0 (n : Int) (w : World) (h : 1 ≤ n) :
    Calls Try.prog 17 #[.int .u64 n, .int .u64 0] w fun e w' => e = .returned (.tuple #[.int .u64 0, .int .i64 50]) ∧ w = w' := by
  go_enter Try.func17, Try.ntmps17
  go_wp2_with (go_at_call 16; refine (down_0 _ _).mono ?_; rintro e w' ⟨rfl, rfl⟩)
  go_ret2
  exact ⟨rfl, rfl⟩

theorem up_even (n b : Int) (w : World) (h0 : 0 ≤ n) (h1 : n ≤ 18446744073709551615) (h2 : 1 ≤ b) (h3 : n % b ≤ 0) :
    Calls Try.prog 17 #[.int .u64 n, .int .u64 b] w fun e w' => e = .returned (.tuple #[.int .u64 n, .int .i64 0]) ∧ w = w' := by
  have ⟨a1, a2, a3⟩ := mod_le n b h0 h2
  go_enter Try.func17, Try.ntmps17
  go_wp2_with (go_at_call 16; refine (down_any _ _ _ h0 h1 h2).mono ?_; rintro e w' ⟨rfl, rfl⟩)
  go_ret2
  exact ⟨rfl, rfl⟩

theorem up_add (n b : Int) (w : World) (h0 : 0 ≤ n) (h1 : n ≤ 18446744073709551615) (h2 : 1 ≤ b) (h3 : 1 ≤ n % b) (h4 : n - n % b + b ≤ 18446744073709551615) :
    Calls Try.prog 17 #[.int .u64 n, .int .u64 b] w fun e w' => e = .returned (.tuple #[.int .u64 (n - n % b + b), .int .i64 0]) ∧ w = w' := by
  have ⟨a1, a2, a3⟩ := mod_le n b h0 h2
  go_enter Try.func17, Try.ntmps17
  go_wp2_with (first | (go_at_call 16; refine (down_any _ _ _ h0 h1 h2).mono ?_; rintro e w' ⟨rfl, rfl⟩) | (go_at_call 53; refine (add_ok _ _ _ (by omega) (by omega) h4).mono ?_; rintro e w' ⟨rfl, rfl⟩))
  go_ret2
  exact ⟨rfl, rfl⟩

theorem up_no (n b : Int) (w : World) (h0 : 0 ≤ n) (h1 : n ≤ 18446744073709551615) (h2 : 1 ≤ b) (h5 : b ≤ 18446744073709551615) (h3 : 1 ≤ n % b) (h4 : 18446744073709551615 < n - n % b + b) :
    Calls Try.prog 17 #[.int .u64 n, .int .u64 b] w fun e w' => e = .returned (.tuple #[.int .u64 0, .int .i64 50]) ∧ w = w' := by
  have ⟨a1, a2, a3⟩ := mod_le n b h0 h2
  go_enter Try.func17, Try.ntmps17
  go_wp2_with (first | (go_at_call 16; refine (down_any _ _ _ h0 h1 h2).mono ?_; rintro e w' ⟨rfl, rfl⟩) | (go_at_call 53; refine (add_no _ _ _ (by omega) (by omega) (by omega) h5 h4).mono ?_; rintro e w' ⟨rfl, rfl⟩))
  go_ret2
  exact ⟨rfl, rfl⟩

/-- Between where there is a multiple a, not below from, ahead of to. -/
theorem between_hit (f t b a : Int) (w : World) (hf0 : 0 ≤ f) (hf1 : f ≤ 18446744073709551615) (ht1 : t ≤ 18446744073709551615) (hb : 1 ≤ b)
    (ha0 : 0 ≤ a) (ha : a < t)
    (hup : ∀ w, Calls Try.prog 17 #[.int .u64 f, .int .u64 b] w fun e w' => e = .returned (.tuple #[.int .u64 a, .int .i64 0]) ∧ w = w') :
    Calls Try.prog 19 #[.int .u64 f, .int .u64 t, .int .u64 b] w fun e w' => e = .returned (.int .u64 ((t - 1 - a) / b + 1)) ∧ w = w' := by
  have H := Lib.hid hup
  clear hup
  have d0 : 0 ≤ (t - 1 - a) / b := Int.ediv_nonneg (by omega) (by omega)
  have d1 : (t - 1 - a) / b ≤ t - 1 - a := by
    exact Int.ediv_le_self _ (by omega)
  have hb0 : (b == 0) = false := by simp; omega
  have hd : decide (t ≤ a) = false := by simp; omega
  go_enter Try.func19, Try.ntmps19
  go_wp2_with (go_at_call 17; refine (H.out _).mono ?_; rintro e w' ⟨rfl, rfl⟩)
  go_ret
  exact ⟨rfl, rfl⟩

/-- Between where there is none: no multiple, or not ahead of to. -/
theorem between_none (f t b a c : Int) (w : World) (hb : 1 ≤ b) (ha : c ≠ 0 ∨ t ≤ a)
    (hup : ∀ w, Calls Try.prog 17 #[.int .u64 f, .int .u64 b] w fun e w' => e = .returned (.tuple #[.int .u64 a, .int .i64 c]) ∧ w = w') :
    Calls Try.prog 19 #[.int .u64 f, .int .u64 t, .int .u64 b] w fun e w' => e = .returned (.int .u64 0) ∧ w = w' := by
  have H := Lib.hid hup
  clear hup
  have hb0 : (b == 0) = false := by simp; omega
  by_cases hc : c = 0
  · subst hc
    have hd : decide (t ≤ a) = true := by simp; omega
    clear ha
    go_enter Try.func19, Try.ntmps19
    go_wp2_with (go_at_call 17; refine (H.out _).mono ?_; rintro e w' ⟨rfl, rfl⟩)
    go_ret
    exact ⟨rfl, rfl⟩
  · have hd : (c == 0) = false := by simpa using hc
    clear ha
    go_enter Try.func19, Try.ntmps19
    go_wp2_with (go_at_call 17; refine (H.out _).mono ?_; rintro e w' ⟨rfl, rfl⟩)
    go_ret
    exact ⟨rfl, rfl⟩

theorem between_0 (f t a c : Int) (w : World)
    (hup : ∀ w, Calls Try.prog 17 #[.int .u64 f, .int .u64 0] w fun e w' => e = .returned (.tuple #[.int .u64 a, .int .i64 c]) ∧ w = w') :
    Calls Try.prog 19 #[.int .u64 f, .int .u64 t, .int .u64 0] w fun e w' => e = .returned (.int .u64 0) ∧ w = w' := by
  have H := Lib.hid hup
  clear hup
  go_enter Try.func19, Try.ntmps19
  go_wp2_with (go_at_call 17; refine (H.out _).mono ?_; rintro e w' ⟨rfl, rfl⟩)
  go_ret
  exact ⟨rfl, rfl⟩

theorem alive_any (w : World) : Calls Try.prog 18 #[] w fun e w' => e = .returned (.bool true) ∧ w = w' := by
  have hu := Lib.hid (fun w => up_add 10 4 w (by omega) (by omega) (by omega) (by omega) (by omega))
  have hb := Lib.hid (fun w => between_hit 1 9 4 4 w (by omega) (by omega) (by omega) (by omega) (by omega) (by omega) (fun w => up_add 1 4 w (by omega) (by omega) (by omega) (by omega) (by omega)))
  go_enter Try.func18, Try.ntmps18
  go_wp2_with (first | (go_at_call 17; refine (hu.out _).mono ?_; rintro e w' ⟨rfl, rfl⟩) | (go_at_call 19; refine (hb.out _).mono ?_; rintro e w' ⟨rfl, rfl⟩))
  go_ret
  exact ⟨rfl, rfl⟩
end Go.Proofs.Ytobecmablabmeaa.Over
