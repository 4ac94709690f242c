/- over: Add, Sub, Down, as the later walks call them. -/
import Derived.WalkKit
import Derived.WalkSpells
import Derived.WalkLawsBesides
import Derived.Laws.Externs
import Derived.Lib.Hide
import Derived.Shelf.Spec.BitsCarry
import Derived.Test.YtgpfedmfbkhhcaaGxQ
namespace Go.Proofs.Ytgpfedmfbkhhcaa.Ov
open Go.RowKit
set_option linter.unusedVariables false
set_option linter.unusedSimpArgs false
theorem add64 (x y : Int) (hx : 0 ≤ x) (hy : 0 ≤ y) (w : World) : (callFunc 61 #[.int .u64 x, .int .u64 y, .int .u64 0]).run Try.prog w =
    .ok (.value (.tuple #[.int .u64 ((x + y) % 18446744073709551616), .int .u64 ((x + y) / 18446744073709551616)])) w := by
  rw [run_callFunc_extern Try.func61 (by kernel_rfl) (by kernel_rfl) (by kernel_rfl) (e := add64Entry) (by kernel_rfl), run_add64 x y 0 hx hy (by omega) (by omega)]
  simp only [Result.andThen, Int.add_zero]
theorem add_ok0 (a b : Int) (w : World) (h0 : 0 ≤ a) (h2 : 0 ≤ b) (h3 : a + b ≤ 18446744073709551615) :
    Calls Try.prog 34 #[.int .u64 a, .int .u64 b] w fun e w' => e = .returned (.tuple #[.int .u64 (a + b), .int .i64 0]) ∧ w = w' := by
  have hk : ∀ w : World, (callFunc 61 #[.int .u64 a, .int .u64 b, .int .u64 0]).run Try.prog w =
    .ok (.value (.tuple #[.int .u64 (a + b), .int .u64 0])) w := by
    intro w
    rw [add64 a b h0 h2, show (a + b) % 18446744073709551616 = a + b by omega, show (a + b) / 18446744073709551616 = 0 by omega]
  go_enter Try.func34, Try.ntmps34
  go_wp2_with (simp only [hk])
  go_ret2
  exact ⟨rfl, rfl⟩
theorem add_no0 (a b : Int) (w : World) (h0 : 0 ≤ a) (h1 : a ≤ 18446744073709551615) (h2 : 0 ≤ b) (h4 : b ≤ 18446744073709551615) (h3 : 18446744073709551615 < a + b) :
    Calls Try.prog 34 #[.int .u64 a, .int .u64 b] w fun e w' => e = .returned (.tuple #[.int .u64 0, .int .i64 50]) ∧ w = w' := by
  have hk : ∀ w : World, (callFunc 61 #[.int .u64 a, .int .u64 b, .int .u64 0]).run Try.prog w =
    .ok (.value (.tuple #[.int .u64 ((a + b) % 18446744073709551616), .int .u64 1])) w := by
    intro w
    rw [add64 a b h0 h2, show (a + b) / 18446744073709551616 = 1 by omega]
  go_enter Try.func34, Try.ntmps34
  go_wp2_with (simp only [hk])
  go_ret2
  exact ⟨rfl, rfl⟩
theorem add_ok (a b : Int) (w : World) (h0 : 0 ≤ a) (h2 : 0 ≤ b) (h3 : a + b ≤ 18446744073709551615) :
    Calls Try.prog 34 [.int .u64 a, .int .u64 b].toArray w fun e w' => e = .returned (.tuple #[.int .u64 (a + b), .int .i64 0]) ∧ Below w.heap.size w w' :=
  (add_ok0 a b w h0 h2 h3).mono fun e w' ⟨he, hw⟩ => ⟨he, by subst hw; exact Below.refl _ _⟩
theorem add_no (a b : Int) (w : World) (h0 : 0 ≤ a) (h1 : a ≤ 18446744073709551615) (h2 : 0 ≤ b) (h4 : b ≤ 18446744073709551615) (h3 : 18446744073709551615 < a + b) :
    Calls Try.prog 34 [.int .u64 a, .int .u64 b].toArray w fun e w' => e = .returned (.tuple #[.int .u64 0, .int .i64 50]) ∧ Below w.heap.size w w' :=
  (add_no0 a b w h0 h1 h2 h4 h3).mono fun e w' ⟨he, hw⟩ => ⟨he, by subst hw; exact Below.refl _ _⟩
theorem sub64 (x y : Int) (hx : 0 ≤ x) (hy : 0 ≤ y) (hy1 : y ≤ 18446744073709551615) (w : World) : (callFunc 73 #[.int .u64 x, .int .u64 y, .int .u64 0]).run Try.prog w =
    .ok (.value (.tuple #[.int .u64 ((x - y) % 18446744073709551616), .int .u64 (if x < y then 1 else 0)])) w := by
  obtain ⟨x, rfl⟩ := Int.eq_ofNat_of_zero_le hx
  obtain ⟨y, rfl⟩ := Int.eq_ofNat_of_zero_le hy
  have e := run_sub64 (P := Try.prog) x y 0 (by omega) w
  rw [show ((0 : Nat) : Int) = 0 from rfl] at e
  rw [run_callFunc_extern Try.func73 (by kernel_rfl) (by kernel_rfl) (by kernel_rfl) (e := sub64Entry) (by kernel_rfl), e]
  have e1 : (((x + 18446744073709551616 - y - 0) % 18446744073709551616 : Nat) : Int) = ((x : Int) - y) % 18446744073709551616 := by omega
  have e2 : ((if x < y + 0 then 1 else 0 : Nat) : Int) = if (x : Int) < y then 1 else 0 := by split <;> split <;> omega
  rw [e1, e2]
  rfl
theorem sub_ok (a b : Int) (w : World) (h0 : 0 ≤ a) (h1 : a ≤ 18446744073709551615) (h2 : 0 ≤ b) (h3 : b ≤ a) :
    Calls Try.prog 44 [.int .u64 a, .int .u64 b].toArray w fun e w' => e = .returned (.int .u64 (a - b)) ∧ Below w.heap.size w w' := by
  have hk : ∀ w : World, (callFunc 73 #[.int .u64 a, .int .u64 b, .int .u64 0]).run Try.prog w =
    .ok (.value (.tuple #[.int .u64 (a - b), .int .u64 0])) w := by
    intro w
    rw [sub64 a b h0 h2 (by omega), show (a - b) % 18446744073709551616 = a - b by omega, if_neg (by omega)]
  have h : Calls Try.prog 44 #[.int .u64 a, .int .u64 b] w fun e w' => e = .returned (.int .u64 (a - b)) ∧ w = w' := by
    go_enter Try.func44, Try.ntmps44
    go_wp2_with (simp only [hk])
    go_ret
    exact ⟨rfl, rfl⟩
  exact h.mono fun e w' ⟨he, hw⟩ => ⟨he, by subst hw; exact Below.refl _ _⟩
theorem sub_no (a b : Int) (w : World) (h0 : 0 ≤ a) (h2 : b ≤ 18446744073709551615) (h3 : a < b) :
    Calls Try.prog 44 [.int .u64 a, .int .u64 b].toArray w fun e w' => e = .returned (.int .u64 0) ∧ Below w.heap.size w w' := by
  have hk : ∀ w : World, (callFunc 73 #[.int .u64 a, .int .u64 b, .int .u64 0]).run Try.prog w =
    .ok (.value (.tuple #[.int .u64 ((a - b) % 18446744073709551616), .int .u64 1])) w := by
    intro w
    rw [sub64 a b h0 (by omega) h2, if_pos h3]
  have h : Calls Try.prog 44 #[.int .u64 a, .int .u64 b] w fun e w' => e = .returned (.int .u64 0) ∧ w = w' := by
    go_enter Try.func44, Try.ntmps44
    go_wp2_with (simp only [hk])
    go_ret
    exact ⟨rfl, rfl⟩
  exact h.mono fun e w' ⟨he, hw⟩ => ⟨he, by subst hw; exact Below.refl _ _⟩
theorem mod_le (n b : Int) (h0 : 0 ≤ n) (h2 : 1 ≤ b) : 0 ≤ n % b ∧ n % b ≤ n ∧ n % b < b :=
  ⟨Int.emod_nonneg n (by omega), by
    have := Int.emod_add_mul_ediv n b
    have h3 : 0 ≤ n / b := Int.ediv_nonneg h0 (by omega)
    have h4 : 0 ≤ b * (n / b) := Int.mul_nonneg (by omega) h3
    omega, Int.emod_lt_of_pos n (by omega)⟩
theorem down_0 (n : Int) (w : World) : Calls Try.prog 43 [.int .u64 n, .int .u64 0].toArray w fun e w' => e = .returned (.int .u64 0) ∧ Below w.heap.size w w' := by
  have h : Calls Try.prog 43 #[.int .u64 n, .int .u64 0] w fun e w' => e = .returned (.int .u64 0) ∧ w = w' := by
    go_enter Try.func43, Try.ntmps43
    go_wp2
    go_ret
    exact ⟨rfl, rfl⟩
  exact h.mono fun e w' ⟨he, hw⟩ => ⟨he, by subst hw; exact Below.refl _ _⟩
theorem down_any (n b : Int) (w : World) (h0 : 0 ≤ n) (h1 : n ≤ 18446744073709551615) (h2 : 1 ≤ b) :
    Calls Try.prog 43 [.int .u64 n, .int .u64 b].toArray w fun e w' => e = .returned (.int .u64 (n - n % b)) ∧ Below w.heap.size w w' := by
  have ⟨a1, a2, a3⟩ := mod_le n b h0 h2
  have hb : (b == 0) = false := by simp; omega
  have h : Calls Try.prog 43 #[.int .u64 n, .int .u64 b] w fun e w' => e = .returned (.int .u64 (n - n % b)) ∧ w = w' := by
    go_enter Try.func43, Try.ntmps43
    go_wp2
    go_ret
    exact ⟨rfl, rfl⟩
  exact h.mono fun e w' ⟨he, hw⟩ => ⟨he, by subst hw; exact Below.refl _ _⟩
end Go.Proofs.Ytgpfedmfbkhhcaa.Ov

