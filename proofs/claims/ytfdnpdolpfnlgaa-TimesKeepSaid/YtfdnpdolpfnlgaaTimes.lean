/- Contracts of package times and of the reference for layer 20: Right, At, When. -/
import Derived.Test.YtfdnpdolpfnlgaaMarks
namespace Go.Proofs.Ytfdnpdolpfnlgaa.Times
open Go.RowKit Mem Marks
set_option linter.unusedVariables false
set_option linter.unusedSimpArgs false

def Ok (S N : Nat → Int) (i : Nat) : Prop := 0 < i → S (i - 1) < S i ∧ N (i - 1) < N i
def RightP (S N : Nat → Int) (n : Nat) : Prop := (∀ i, i < n → Ok S N i) ∧ n ≤ 64
theorem not_right {S N : Nat → Int} {n k : Nat} {v : Bool} (hv : Hid (v = true ↔ RightP S N n)) (hk : k < n) (h : ¬ Ok S N k) : false = v := by
  rcases v with _ | _
  · rfl
  · exact absurd ((hv.out.1 rfl).1 k hk) h
theorem right_end {S N : Nat → Int} {n k : Nat} {v : Bool} (hv : Hid (v = true ↔ RightP S N n)) (h : Hid (∀ j, j < k → Ok S N j)) (hk : n ≤ k) (b : Bool) (hb : b = true ↔ n ≤ 64) : b = v := by
  have : b = true ↔ v = true := by
    rw [hb, hv.out]
    exact ⟨fun h1 => ⟨fun i hi => h.out i (by omega), h1⟩, fun h1 => h1.2⟩
  cases b <;> cases v <;> simp_all
theorem ok_bad {S N : Nat → Int} {k m : Nat} (hm : k = m + 1) (h : S k ≤ S m ∨ N k ≤ N m) : ¬ Ok S N k := fun ho => by
  subst hm
  have := ho (by omega)
  rw [Nat.add_sub_cancel] at this
  omega
theorem ok_good {S N : Nat → Int} {k m : Nat} (hm : k = m + 1) (h : S m < S k) (h' : N m < N k) : Ok S N k := fun _ => by
  subst hm; rw [Nat.add_sub_cancel]; exact ⟨h, h'⟩
theorem at2 {w : World} {A : Option Addr} {n : Nat} {S N : Nat → Int} (h : Marks w A n S N) (k m : Nat) (hk : k < n) (hm : m < n) :
    ∃ b off, A = some ⟨b, off, none⟩ ∧ w.cell? ⟨b, off + k * 2, none⟩ = some (.int .u64 (S k)) ∧ w.cell? ⟨b, off + k * 2 + 1, none⟩ = some (.int .u64 (N k)) ∧
      w.cell? ⟨b, off + m * 2, none⟩ = some (.int .u64 (S m)) ∧ w.cell? ⟨b, off + m * 2 + 1, none⟩ = some (.int .u64 (N m)) ∧ b < w.heap.size := by
  obtain ⟨b, off, e, hc⟩ := h (by omega)
  exact ⟨b, off, e, hc k hk 0 (by omega), hc k hk 1 (by omega), hc m hm 0 (by omega), hc m hm 1 (by omega), lt_of_cell (hc k hk 0 (by omega))⟩

set_option maxHeartbeats 1000000 in
theorem right_any (A : Option Addr) (n c : Nat) (S N : Nat → Int) (w : World) (hn : n ≤ 9223372036854775807) (h : Marks w A n S N) (v : Bool) (hv : v = true ↔ RightP S N n) :
    Calls Try.prog 25 #[.slice A n c] w fun e w' => e = .returned (.bool v) ∧ Below w.heap.size w w' := by
  have HV := Lib.hid hv
  clear hv
  have H := Lib.hid h
  clear h
  go_enter Try.func25, Try.ntmps25
  go_wp2
  go_loopw [7] (fun i wr => ∃ k : Nat, k ≤ n ∧ i = .int .i64 k ∧ Below w.heap.size w wr ∧ Hid (∀ j, j < k → j < n → Ok S N j)) (fun i _ => n - (intOf i).toNat)
  case atStart => exact ⟨0, Nat.zero_le _, rfl, Below.refl _ _, Lib.hid (fun j hj _ => by intro h; omega)⟩
  case round =>
    obtain ⟨k, hk, rfl, hb, hok⟩ := hrel
    by_cases hlt : k < n
    · by_cases c0 : k = 0
      · subst c0
        obtain ⟨b, off, rfl, g1, g2, g3, gb⟩ := Marks.at_ (Arr.below H.out hb) 0 hlt
        clear g3
        simp only [Nat.zero_mul, Nat.add_zero] at g1 g2
        go_wp2
        go_quiet (fail)
        go_wp2
        go_roundw
        case rel => exact ⟨1, by omega, rfl, (by repeat (first | assumption | exact Below.refl _ _ | refine bel_alloc ?_ _ | refine bel_drewN ?_ _ | refine bel_drew ?_ | refine bel_trans ?_ (by assumption))), Lib.hid (fun j hj _ h => by omega)⟩
        case measure => simp [intOf]; omega
      obtain ⟨m, hm⟩ : ∃ m, k = m + 1 := ⟨k - 1, by omega⟩
      obtain ⟨b, off, rfl, g1, g2, g3, g4, gb⟩ := at2 (Arr.below H.out hb) k m hlt (by omega)
      have d0 : decide (0 < k) = true := by simp; omega
      have e1 : IntKind.i64.wrap ((k : Int) - 1) = (m : Int) := by rw [IntWalk.i64_in _ (by omega)]; omega
      have e2 : m < n := by omega
      have HM := Lib.hid hm
      clear hm
      by_cases c3 : S k ≤ S m
      · have d3 : decide (S k ≤ S m) = true := by simpa using c3
        go_wp2
        go_quiet (fail)
        clear e1
        go_wp2
        go_ret
        exact ⟨ret_bool (not_right ⟨fun h => ⟨(HV.out.1 h).1, (HV.out.1 h).2⟩, HV.out.2⟩ hlt (ok_bad HM.out (.inl (by omega)))), (by repeat (first | assumption | exact Below.refl _ _ | refine bel_alloc ?_ _ | refine bel_drewN ?_ _ | refine bel_drew ?_ | refine bel_trans ?_ (by assumption)))⟩
      have d3 : decide (S k ≤ S m) = false := by simpa using c3
      by_cases c4 : N k ≤ N m
      · have d4 : decide (N k ≤ N m) = true := by simpa using c4
        go_wp2
        go_quiet (fail)
        clear e1
        go_wp2
        go_ret
        exact ⟨ret_bool (not_right ⟨fun h => ⟨(HV.out.1 h).1, (HV.out.1 h).2⟩, HV.out.2⟩ hlt (ok_bad HM.out (.inr (by omega)))), (by repeat (first | assumption | exact Below.refl _ _ | refine bel_alloc ?_ _ | refine bel_drewN ?_ _ | refine bel_drew ?_ | refine bel_trans ?_ (by assumption)))⟩
      have d4 : decide (N k ≤ N m) = false := by simpa using c4
      go_wp2
      go_quiet (fail)
      clear e1
      go_wp2
      go_roundw
      case rel => exact ⟨k + 1, by omega, by go_num, (by repeat (first | assumption | exact Below.refl _ _ | refine bel_alloc ?_ _ | refine bel_drewN ?_ _ | refine bel_drew ?_ | refine bel_trans ?_ (by assumption))), Lib.hid (fun j hj hjn => by
        by_cases hj' : j < k
        · exact hok.out j hj' hjn
        · obtain rfl : j = k := by omega
          exact ok_good HM.out (by omega) (by omega))⟩
      case measure => simp [intOf]; omega
    · go_wp2
      go_ret
      exact ⟨ret_bool (right_end HV (Lib.hid (fun j hj => hok.out j (by omega) (by omega) : ∀ j, j < n → Ok S N j)) (Nat.le_refl n) _ (by simp; omega)), (by repeat (first | assumption | exact Below.refl _ _ | refine bel_alloc ?_ _ | refine bel_drewN ?_ _ | refine bel_drew ?_ | refine bel_trans ?_ (by assumption)))⟩

set_option maxHeartbeats 1000000 in
theorem rright_any (A : Option Addr) (n c : Nat) (S N : Nat → Int) (w : World) (hn : n ≤ 9223372036854775807) (h : Marks w A n S N) (v : Bool) (hv : v = true ↔ RightP S N n) :
    Calls Try.prog 26 #[.slice A n c] w fun e w' => e = .returned (.bool v) ∧ Below w.heap.size w w' := by
  have HV := Lib.hid hv
  clear hv
  have H := Lib.hid h
  clear h
  go_enter Try.func26, Try.ntmps26
  go_wp2
  go_loopw [3] (fun i wr => ∃ k : Nat, (1 ≤ k ∧ (k ≤ n ∨ k = 1)) ∧ i = .int .i64 k ∧ Below w.heap.size w wr ∧ Hid (∀ j, j < k → j < n → Ok S N j)) (fun i _ => n - (intOf i).toNat)
  case atStart => exact ⟨1, ⟨Nat.le_refl _, by omega⟩, rfl, Below.refl _ _, Lib.hid (fun j hj _ => by intro h; omega)⟩
  case round =>
    obtain ⟨k, ⟨hk0, hk⟩, rfl, hb, hok⟩ := hrel
    by_cases hlt : k < n
    · obtain ⟨m, hm⟩ : ∃ m, k = m + 1 := ⟨k - 1, by omega⟩
      obtain ⟨b, off, rfl, g1, g2, g3, g4, gb⟩ := at2 (Arr.below H.out hb) k m hlt (by omega)
      have d0 : decide (0 < k) = true := by simp; omega
      have e1 : IntKind.i64.wrap ((k : Int) - 1) = (m : Int) := by rw [IntWalk.i64_in _ (by omega)]; omega
      have e2 : m < n := by omega
      have HM := Lib.hid hm
      clear hm
      by_cases c3 : S k ≤ S m
      · have d3 : decide (S k ≤ S m) = true := by simpa using c3
        go_wp2
        go_quiet (fail)
        clear e1
        go_wp2
        go_ret
        exact ⟨ret_bool (not_right ⟨fun h => ⟨(HV.out.1 h).1, (HV.out.1 h).2⟩, HV.out.2⟩ hlt (ok_bad HM.out (.inl (by omega)))), (by repeat (first | assumption | exact Below.refl _ _ | refine bel_alloc ?_ _ | refine bel_drewN ?_ _ | refine bel_drew ?_ | refine bel_trans ?_ (by assumption)))⟩
      have d3 : decide (S k ≤ S m) = false := by simpa using c3
      by_cases c4 : N k ≤ N m
      · have d4 : decide (N k ≤ N m) = true := by simpa using c4
        go_wp2
        go_quiet (fail)
        clear e1
        go_wp2
        go_ret
        exact ⟨ret_bool (not_right ⟨fun h => ⟨(HV.out.1 h).1, (HV.out.1 h).2⟩, HV.out.2⟩ hlt (ok_bad HM.out (.inr (by omega)))), (by repeat (first | assumption | exact Below.refl _ _ | refine bel_alloc ?_ _ | refine bel_drewN ?_ _ | refine bel_drew ?_ | refine bel_trans ?_ (by assumption)))⟩
      have d4 : decide (N k ≤ N m) = false := by simpa using c4
      go_wp2
      go_quiet (fail)
      clear e1
      go_wp2
      go_roundw
      case rel => exact ⟨k + 1, ⟨by omega, by omega⟩, by go_num, (by repeat (first | assumption | exact Below.refl _ _ | refine bel_alloc ?_ _ | refine bel_drewN ?_ _ | refine bel_drew ?_ | refine bel_trans ?_ (by assumption))), Lib.hid (fun j hj hjn => by
        by_cases hj' : j < k
        · exact hok.out j hj' hjn
        · obtain rfl : j = k := by omega
          exact ok_good HM.out (by omega) (by omega))⟩
      case measure => simp [intOf]; omega
    · go_wp2
      go_ret
      exact ⟨ret_bool (right_end HV (Lib.hid (fun j hj => hok.out j (by omega) (by omega) : ∀ j, j < n → Ok S N j)) (Nat.le_refl n) _ (by simp; omega)), (by repeat (first | assumption | exact Below.refl _ _ | refine bel_alloc ?_ _ | refine bel_drewN ?_ _ | refine bel_drew ?_ | refine bel_trans ?_ (by assumption)))⟩
end Go.Proofs.Ytfdnpdolpfnlgaa.Times
