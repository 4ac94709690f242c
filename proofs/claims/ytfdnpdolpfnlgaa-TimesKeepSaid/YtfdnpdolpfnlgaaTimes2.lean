/- The search of times.At: where the marks of a time end. -/
import Derived.Test.YtfdnpdolpfnlgaaTimes
import Derived.Deep.LoopGhost
namespace Go.Proofs.Ytfdnpdolpfnlgaa.Times
open Go.RowKit Mem Marks
set_option linter.unusedVariables false
set_option linter.unusedSimpArgs false

set_option maxHeartbeats 400000 in
theorem cmp_le (s z t : Int) (w : World) (h : z ≤ t) :
    Calls Try.prog 98 #[.agg #[.int .u64 s, .int .u64 z], .int .u64 t] w fun e w' => e = .returned (.int .i64 (-1)) ∧ Below w.heap.size w w' := by
  go_enter Try.func98, Try.ntmps98
  go_wp2
  go_ret
  exact ⟨rfl, (by repeat (first | assumption | exact Below.refl _ _ | refine bel_alloc ?_ _ | refine bel_drewN ?_ _ | refine bel_drew ?_ | refine bel_trans ?_ (by assumption)))⟩
set_option maxHeartbeats 400000 in
theorem cmp_gt (s z t : Int) (w : World) (h : t < z) :
    Calls Try.prog 98 #[.agg #[.int .u64 s, .int .u64 z], .int .u64 t] w fun e w' => e = .returned (.int .i64 1) ∧ Below w.heap.size w w' := by
  go_enter Try.func98, Try.ntmps98
  go_wp2
  go_ret
  exact ⟨rfl, (by repeat (first | assumption | exact Below.refl _ _ | refine bel_alloc ?_ _ | refine bel_drewN ?_ _ | refine bel_drew ?_ | refine bel_trans ?_ (by assumption)))⟩

set_option maxRecDepth 100000 in
set_option maxHeartbeats 1000000 in
theorem search_any (A : Option Addr) (n c p : Nat) (S N : Nat → Int) (t : Int) (w : World) (hn : n ≤ 1000) (h : Marks w A n S N) (hp : p ≤ n) (hm : ∀ i, i < n → (N i ≤ t ↔ i < p)) :
    Calls Try.prog 97 #[.slice A n c, .int .u64 t, .func (.func 98) #[] #[]] w fun e w' => e = .returned (.tuple #[.int .i64 p, .bool false]) ∧ Below w.heap.size w w' := by
  have H := Lib.hid h
  clear h
  have HM := Lib.hid hm
  clear hm
  go_enter Try.func97, Try.ntmps97
  go_wp2
  go_loopg [9, 10] n (fun kx s9 s10 wr => ∃ lo hi : Nat, s9 = .int .i64 lo ∧ s10 = .int .i64 hi ∧ lo ≤ p ∧ p ≤ hi ∧ hi ≤ n ∧ hi - lo ≤ kx ∧ Below w.heap.size w wr)
  case atStart => exact ⟨0, n, rfl, rfl, Nat.zero_le _, hp, Nat.le_refl _, by omega, (by repeat (first | assumption | exact Below.refl _ _ | refine bel_alloc ?_ _ | refine bel_drewN ?_ _ | refine bel_drew ?_ | refine bel_trans ?_ (by assumption)))⟩
  case round =>
    obtain ⟨lo, hi, rfl, rfl, hlo, hhi, hin, hg, hb⟩ := hrel
    by_cases hlt : lo < hi
    · obtain ⟨b, off, rfl, g1, g2, g3, gb⟩ := Marks.at_ (Arr.below H.out hb) ((lo + hi) / 2) (by omega)
      clear g3
      by_cases hc : (lo + hi) / 2 < p
      · have hz := (HM.out ((lo + hi) / 2) (by omega)).2 hc
        go_wp2_with (go_at_call 98; refine (cmp_le _ _ _ _ (by exact hz)).mono ?_; rintro e w' ⟨rfl, hb'⟩)
        go_roundg (hi - ((lo + hi) / 2 + 1))
        case measure => omega
        case rel => exact ⟨(lo + hi) / 2 + 1, hi, by rw [show ((lo : Int) + (hi : Int)) / 2 + 1 = (((lo + hi) / 2 + 1 : Nat) : Int) by omega], rfl, by omega, hhi, hin, Nat.le_refl _, (by repeat (first | assumption | exact Below.refl _ _ | refine bel_alloc ?_ _ | refine bel_drewN ?_ _ | refine bel_drew ?_ | refine bel_trans ?_ (by assumption)))⟩
      · have hz : t < N ((lo + hi) / 2) := by
          have := (HM.out ((lo + hi) / 2) (by omega)).1
          exact Int.not_le.1 fun h => hc (this h)
        go_wp2_with (go_at_call 98; refine (cmp_gt _ _ _ _ (by exact hz)).mono ?_; rintro e w' ⟨rfl, hb'⟩)
        go_roundg ((lo + hi) / 2 - lo)
        case measure => omega
        case rel => exact ⟨lo, (lo + hi) / 2, rfl, by rw [show ((lo : Int) + (hi : Int)) / 2 = (((lo + hi) / 2 : Nat) : Int) by omega], hlo, by omega, by omega, Nat.le_refl _, (by repeat (first | assumption | exact Below.refl _ _ | refine bel_alloc ?_ _ | refine bel_drewN ?_ _ | refine bel_drew ?_ | refine bel_trans ?_ (by assumption)))⟩
    · obtain rfl : hi = lo := by omega
      obtain rfl : p = hi := by omega
      by_cases hc : p < n
      · obtain ⟨b, off, rfl, g1, g2, g3, gb⟩ := Marks.at_ (Arr.below H.out hb) p hc
        clear g3
        have hz : t < N p := by
          have := (HM.out p hc).1
          exact Int.not_le.1 fun h => absurd (this h) (by omega)
        go_wp2_with (go_at_call 98; refine (cmp_gt _ _ _ _ (by exact hz)).mono ?_; rintro e w' ⟨rfl, hb'⟩)
        go_ret2
        exact ⟨rfl, (by repeat (first | assumption | exact Below.refl _ _ | refine bel_alloc ?_ _ | refine bel_drewN ?_ _ | refine bel_drew ?_ | refine bel_trans ?_ (by assumption)))⟩
      · go_wp2
        go_ret2
        exact ⟨rfl, (by repeat (first | assumption | exact Below.refl _ _ | refine bel_alloc ?_ _ | refine bel_drewN ?_ _ | refine bel_drew ?_ | refine bel_trans ?_ (by assumption)))⟩
end Go.Proofs.Ytfdnpdolpfnlgaa.Times
