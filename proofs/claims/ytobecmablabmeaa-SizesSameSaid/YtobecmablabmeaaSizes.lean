/- Contracts of package sizes and of the reference for layer 19: Right, At, Now, great. -/
import Derived.Test.YtobecmablabmeaaMem
namespace Go.Proofs.Ytobecmablabmeaa.Sizes
open Go.RowKit Mem
set_option linter.unusedVariables false
set_option linter.unusedSimpArgs false

/-- A slice of marks: number S i, size N i. -/
def MF (S N : Nat → Int) : Nat → Nat → Value := fun i j => if j = 0 then .int .u64 (S i) else .int .u64 (N i)
def Marks (w : World) (A : Option Addr) (n : Nat) (S N : Nat → Int) : Prop := Arr w A n 2 (MF S N)
theorem Marks.at_ {w : World} {A : Option Addr} {n : Nat} {S N : Nat → Int} (h : Marks w A n S N) (k : Nat) (hk : k < n) :
    ∃ b off, A = some ⟨b, off, none⟩ ∧ w.cell? ⟨b, off + k * 2, none⟩ = some (.int .u64 (S k)) ∧ w.cell? ⟨b, off + k * 2 + 1, none⟩ = some (.int .u64 (N k)) ∧
      (∀ j, j < n → w.cell? ⟨b, off + j * 2, none⟩ = some (.int .u64 (S j))) ∧ b < w.heap.size := by
  obtain ⟨b, off, e, hc⟩ := h (by omega)
  exact ⟨b, off, e, hc k hk 0 (by omega), hc k hk 1 (by omega), fun j hj => hc j hj 0 (by omega), lt_of_cell (hc k hk 0 (by omega))⟩

def Ok (S N : Nat → Int) (i : Nat) : Prop := 1 ≤ N i ∧ N i ≤ 32 ∧ (0 < i → S (i - 1) < S i)
def RightP (S N : Nat → Int) (n : Nat) : Prop := (∀ i, i < n → Ok S N i) ∧ 1 ≤ n ∧ n ≤ 16

theorem ret_bool {a b : Bool} (h : a = b) : Ending.returned (.bool a) = Ending.returned (.bool b) := by rw [h]
theorem not_right {S N : Nat → Int} {n k : Nat} {v : Bool} (hv : Hid (v = true ↔ RightP S N n)) (hk : k < n) (h : ¬ Ok S N k) : false = v := by
  rcases v with _ | _
  · rfl
  · exact absurd ((hv.out.1 rfl).1 k hk) h
theorem right_end {S N : Nat → Int} {n k : Nat} {v : Bool} (hv : Hid (v = true ↔ RightP S N n)) (h : Hid (∀ j, j < k → Ok S N j)) (hk : n ≤ k) (b : Bool) (hb : b = true ↔ (1 ≤ n ∧ n ≤ 16)) : b = v := by
  have : b = true ↔ v = true := by
    rw [hb, hv.out]
    exact ⟨fun h1 => ⟨fun i hi => h.out i (by omega), h1⟩, fun h1 => h1.2⟩
  cases b <;> cases v <;> simp_all

set_option maxHeartbeats 1000000 in
theorem right_any (A : Option Addr) (n c : Nat) (S N : Nat → Int) (w : World) (hn : n ≤ 9223372036854775807) (h : Marks w A n S N) (v : Bool) (hv : v = true ↔ RightP S N n) :
    Calls Try.prog 34 #[.slice A n c] w fun e w' => e = .returned (.bool v) ∧ Below w.heap.size w w' := by
  have HV := Lib.hid hv
  clear hv
  have H := Lib.hid h
  clear h
  go_enter Try.func34, Try.ntmps34
  go_wp2
  go_loopw [7] (fun i wr => ∃ k : Nat, k ≤ n ∧ i = .int .i64 k ∧ Below w.heap.size w wr ∧ Hid (∀ j, j < k → Ok S N j)) (fun i _ => n - (intOf i).toNat)
  case atStart => exact ⟨0, Nat.zero_le _, rfl, Below.refl _ _, Lib.hid (fun j hj => absurd hj (by omega))⟩
  case round =>
    obtain ⟨k, hk, rfl, hb, hok⟩ := hrel
    by_cases hlt : k < n
    · obtain ⟨b, off, rfl, g1, g2, g3, gb⟩ := Marks.at_ (Arr.below H.out hb) k hlt
      by_cases c1 : N k < 1
      · have d1 : decide (N k < 1) = true := by simpa using c1
        clear g3
        go_wp2
        go_quiet (fail)
        go_wp2
        go_ret
        exact ⟨ret_bool (not_right HV hlt (fun h => absurd h.1 (by omega))), (by repeat (first | assumption | exact Below.refl _ _ | refine bel_alloc ?_ _ | refine bel_drewN ?_ _ | refine bel_drew ?_ | refine bel_trans ?_ (by assumption)))⟩
      have d1 : decide (N k < 1) = false := by simpa using c1
      by_cases c2 : 32 < N k
      · have d2 : decide (32 < N k) = true := by simpa using c2
        clear g3
        go_wp2
        go_quiet (fail)
        go_wp2
        go_ret
        exact ⟨ret_bool (not_right HV hlt (fun h => absurd h.2.1 (by omega))), (by repeat (first | assumption | exact Below.refl _ _ | refine bel_alloc ?_ _ | refine bel_drewN ?_ _ | refine bel_drew ?_ | refine bel_trans ?_ (by assumption)))⟩
      have d2 : decide (32 < N k) = false := by simpa using c2
      by_cases c0 : k = 0
      · subst c0
        clear g3
        simp only [Nat.zero_mul, Nat.add_zero] at g1 g2
        go_wp2
        go_quiet (fail)
        go_wp2
        go_roundw
        case rel => exact ⟨1, by omega, rfl, (by repeat (first | assumption | exact Below.refl _ _ | refine bel_alloc ?_ _ | refine bel_drewN ?_ _ | refine bel_drew ?_ | refine bel_trans ?_ (by assumption))), Lib.hid (fun j hj => by
          obtain rfl : j = 0 := by omega
          exact ⟨by omega, by omega, fun h => absurd h (by omega)⟩)⟩
        case measure => simp [intOf]; omega
      · obtain ⟨m, hm⟩ : ∃ m, k = m + 1 := ⟨k - 1, by omega⟩
        have g4 := g3 m (by omega)
        clear g3
        have d0 : decide (0 < k) = true := by simp; omega
        have e1 : IntKind.i64.wrap ((k : Int) - 1) = (m : Int) := by rw [IntWalk.i64_in _ (by omega)]; omega
        have e2 : m < n := by omega
        have HM := Lib.hid hm
        clear hm
        by_cases c3 : S k ≤ S m
        · have d3 : decide (S k ≤ S m) = true := by simpa using c3
          go_wp2
          go_quiet (fail)
          clear e1
          go_wp2
          go_ret
          exact ⟨ret_bool (not_right HV hlt (fun h => by have h3 := h.2.2 (by omega); rw [show k - 1 = m from by have := HM.out; omega] at h3; omega)), (by repeat (first | assumption | exact Below.refl _ _ | refine bel_alloc ?_ _ | refine bel_drewN ?_ _ | refine bel_drew ?_ | refine bel_trans ?_ (by assumption)))⟩
        · have d3 : decide (S k ≤ S m) = false := by simpa using c3
          go_wp2
          go_quiet (fail)
          clear e1
          go_wp2
          go_roundw
          case rel => exact ⟨k + 1, by omega, by go_num, (by repeat (first | assumption | exact Below.refl _ _ | refine bel_alloc ?_ _ | refine bel_drewN ?_ _ | refine bel_drew ?_ | refine bel_trans ?_ (by assumption))), Lib.hid (fun j hj => by
            by_cases hj' : j < k
            · exact hok.out j hj'
            · obtain rfl : j = k := by omega
              exact ⟨by omega, by omega, fun h => by rw [show j - 1 = m from by have := HM.out; omega]; omega⟩)⟩
          case measure => simp [intOf]; omega
    · by_cases c1 : 1 ≤ n
      · by_cases c2 : n ≤ 16
        · go_wp2
          go_ret
          exact ⟨ret_bool (right_end HV hok (by omega) _ (by simp; omega)), (by repeat (first | assumption | exact Below.refl _ _ | refine bel_alloc ?_ _ | refine bel_drewN ?_ _ | refine bel_drew ?_ | refine bel_trans ?_ (by assumption)))⟩
        · go_wp2
          go_ret
          exact ⟨ret_bool (right_end HV hok (by omega) _ (by simp; omega)), (by repeat (first | assumption | exact Below.refl _ _ | refine bel_alloc ?_ _ | refine bel_drewN ?_ _ | refine bel_drew ?_ | refine bel_trans ?_ (by assumption)))⟩
      · go_wp2
        go_ret
        exact ⟨ret_bool (right_end HV hok (by omega) _ (by simp; omega)), (by repeat (first | assumption | exact Below.refl _ _ | refine bel_alloc ?_ _ | refine bel_drewN ?_ _ | refine bel_drew ?_ | refine bel_trans ?_ (by assumption)))⟩

set_option maxHeartbeats 1000000 in
theorem rright_any (A : Option Addr) (n c : Nat) (S N : Nat → Int) (w : World) (hn : n ≤ 9223372036854775807) (h : Marks w A n S N) (hN : ∀ i, i < n → 0 ≤ N i) (v : Bool) (hv : v = true ↔ RightP S N n) :
    Calls Try.prog 35 #[.slice A n c] w fun e w' => e = .returned (.bool v) ∧ Below w.heap.size w w' := by
  have HV := Lib.hid hv
  clear hv
  have H := Lib.hid h
  clear h
  have HN := Lib.hid hN
  clear hN
  go_enter Try.func35, Try.ntmps35
  go_wp2
  go_loopw [3] (fun i wr => ∃ k : Nat, k ≤ n ∧ i = .int .i64 k ∧ Below w.heap.size w wr ∧ Hid (∀ j, j < k → Ok S N j)) (fun i _ => n - (intOf i).toNat)
  case atStart => exact ⟨0, Nat.zero_le _, rfl, Below.refl _ _, Lib.hid (fun j hj => absurd hj (by omega))⟩
  case round =>
    obtain ⟨k, hk, rfl, hb, hok⟩ := hrel
    by_cases hlt : k < n
    · obtain ⟨b, off, rfl, g1, g2, g3, gb⟩ := Marks.at_ (Arr.below H.out hb) k hlt
      have gN := HN.out k hlt
      by_cases c1 : N k = 0
      · have d1 : (N k == 0) = true := by simpa using c1
        clear g3 c1
        go_wp2
        go_quiet (fail)
        go_wp2
        go_ret
        exact ⟨ret_bool (not_right HV hlt (fun h => by have := h.1; simp at d1; omega)), (by repeat (first | assumption | exact Below.refl _ _ | refine bel_alloc ?_ _ | refine bel_drewN ?_ _ | refine bel_drew ?_ | refine bel_trans ?_ (by assumption)))⟩
      have d1 : (N k == 0) = false := by simpa using c1
      have d1' : 1 ≤ N k := by omega
      clear c1
      by_cases c2 : 32 < N k
      · have d2 : decide (32 < N k) = true := by simpa using c2
        clear g3
        go_wp2
        go_quiet (fail)
        go_wp2
        go_ret
        exact ⟨ret_bool (not_right HV hlt (fun h => absurd h.2.1 (by omega))), (by repeat (first | assumption | exact Below.refl _ _ | refine bel_alloc ?_ _ | refine bel_drewN ?_ _ | refine bel_drew ?_ | refine bel_trans ?_ (by assumption)))⟩
      have d2 : decide (32 < N k) = false := by simpa using c2
      by_cases c0 : k = 0
      · subst c0
        clear g3
        simp only [Nat.zero_mul, Nat.add_zero] at g1 g2
        go_wp2
        go_quiet (fail)
        go_wp2
        go_roundw
        case rel => exact ⟨1, by omega, rfl, (by repeat (first | assumption | exact Below.refl _ _ | refine bel_alloc ?_ _ | refine bel_drewN ?_ _ | refine bel_drew ?_ | refine bel_trans ?_ (by assumption))), Lib.hid (fun j hj => by
          obtain rfl : j = 0 := by omega
          exact ⟨by omega, by omega, fun h => absurd h (by omega)⟩)⟩
        case measure => simp [intOf]; omega
      · obtain ⟨m, hm⟩ : ∃ m, k = m + 1 := ⟨k - 1, by omega⟩
        have g4 := g3 m (by omega)
        clear g3
        have d0 : decide (0 < k) = true := by simp; omega
        have e1 : IntKind.i64.wrap ((k : Int) - 1) = (m : Int) := by rw [IntWalk.i64_in _ (by omega)]; omega
        have e2 : m < n := by omega
        have HM := Lib.hid hm
        clear hm
        by_cases c3 : S k ≤ S m
        · have d3 : decide (S k ≤ S m) = true := by simpa using c3
          go_wp2
          go_quiet (fail)
          clear e1
          go_wp2
          go_ret
          exact ⟨ret_bool (not_right HV hlt (fun h => by have h3 := h.2.2 (by omega); rw [show k - 1 = m from by have := HM.out; omega] at h3; omega)), (by repeat (first | assumption | exact Below.refl _ _ | refine bel_alloc ?_ _ | refine bel_drewN ?_ _ | refine bel_drew ?_ | refine bel_trans ?_ (by assumption)))⟩
        · have d3 : decide (S k ≤ S m) = false := by simpa using c3
          go_wp2
          go_quiet (fail)
          clear e1
          go_wp2
          go_roundw
          case rel => exact ⟨k + 1, by omega, by go_num, (by repeat (first | assumption | exact Below.refl _ _ | refine bel_alloc ?_ _ | refine bel_drewN ?_ _ | refine bel_drew ?_ | refine bel_trans ?_ (by assumption))), Lib.hid (fun j hj => by
            by_cases hj' : j < k
            · exact hok.out j hj'
            · obtain rfl : j = k := by omega
              exact ⟨by omega, by omega, fun h => by rw [show j - 1 = m from by have := HM.out; omega]; omega⟩)⟩
          case measure => simp [intOf]; omega
    · by_cases c1 : 1 ≤ n
      · by_cases c2 : n ≤ 16
        · go_wp2
          go_ret
          exact ⟨ret_bool (right_end HV hok (by omega) _ (by simp; omega)), (by repeat (first | assumption | exact Below.refl _ _ | refine bel_alloc ?_ _ | refine bel_drewN ?_ _ | refine bel_drew ?_ | refine bel_trans ?_ (by assumption)))⟩
        · go_wp2
          go_ret
          exact ⟨ret_bool (right_end HV hok (by omega) _ (by simp; omega)), (by repeat (first | assumption | exact Below.refl _ _ | refine bel_alloc ?_ _ | refine bel_drewN ?_ _ | refine bel_drew ?_ | refine bel_trans ?_ (by assumption)))⟩
      · go_wp2
        go_ret
        exact ⟨ret_bool (right_end HV hok (by omega) _ (by simp; omega)), (by repeat (first | assumption | exact Below.refl _ _ | refine bel_alloc ?_ _ | refine bel_drewN ?_ _ | refine bel_drew ?_ | refine bel_trans ?_ (by assumption)))⟩

/-! ### At: the last mark up to a number -/
def atN (S N : Nat → Int) (s : Int) : Nat → Int
  | 0 => 0
  | k + 1 => if S k ≤ s then N k else atN S N s k
def atB (S : Nat → Int) (s : Int) : Nat → Bool
  | 0 => false
  | k + 1 => if S k ≤ s then true else atB S s k
theorem ret_at {a a' : Int} {b b' : Bool} (h : a = a') (h' : b = b') : Ending.returned (.tuple #[.int .i64 a, .bool b]) = Ending.returned (.tuple #[.int .i64 a', .bool b']) := by rw [h, h']

set_option maxHeartbeats 1000000 in
theorem at_any (A : Option Addr) (n c : Nat) (S N : Nat → Int) (s : Int) (w : World) (hn : n ≤ 9223372036854775807) (h : Marks w A n S N) (hN : ∀ i, i < n → 0 ≤ N i ∧ N i ≤ 32) :
    Calls Try.prog 36 #[.slice A n c, .int .u64 s] w fun e w' => e = .returned (.tuple #[.int .i64 (atN S N s n), .bool (atB S s n)]) ∧ Below w.heap.size w w' := by
  have H := Lib.hid h
  clear h
  have HN := Lib.hid hN
  clear hN
  go_enter Try.func36, Try.ntmps36
  go_wp2
  go_loopw [6] (fun i wr => ∃ k : Nat, k ≤ n ∧ i = .int .i64 ((k : Int) - 1) ∧ Below w.heap.size w wr ∧ Hid (atN S N s n = atN S N s k ∧ atB S s n = atB S s k)) (fun i _ => (intOf i + 1).toNat)
  case atStart => exact ⟨n, Nat.le_refl _, rfl, Below.refl _ _, Lib.hid ⟨rfl, rfl⟩⟩
  case round =>
    obtain ⟨k, hk, rfl, hb, hok⟩ := hrel
    by_cases hlt : 0 < k
    · obtain ⟨m, rfl⟩ : ∃ m, k = m + 1 := ⟨k - 1, by omega⟩
      obtain ⟨b, off, rfl, g1, g2, g3, gb⟩ := Marks.at_ (Arr.below H.out hb) m (by omega)
      have gN := HN.out m (by omega)
      clear g3
      have em : ((m + 1 : Nat) : Int) - 1 = (m : Int) := by omega
      rw [em]
      clear em
      by_cases c1 : S m ≤ s
      · go_wp2
        go_ret2
        exact ⟨ret_at (by rw [hok.out.1, atN, if_pos c1]) (by rw [hok.out.2, atB, if_pos c1]), (by repeat (first | assumption | exact Below.refl _ _ | refine bel_alloc ?_ _ | refine bel_drewN ?_ _ | refine bel_drew ?_ | refine bel_trans ?_ (by assumption)))⟩
      · go_wp2
        go_roundw
        case rel => exact ⟨m, by omega, rfl, (by repeat (first | assumption | exact Below.refl _ _ | refine bel_alloc ?_ _ | refine bel_drewN ?_ _ | refine bel_drew ?_ | refine bel_trans ?_ (by assumption))), Lib.hid ⟨by rw [hok.out.1, atN, if_neg c1], by rw [hok.out.2, atB, if_neg c1]⟩⟩
        case measure => simp [intOf]
    · obtain rfl : k = 0 := by omega
      go_wp2
      go_ret2
      exact ⟨ret_at (by rw [hok.out.1]; rfl) (by rw [hok.out.2]; rfl), (by repeat (first | assumption | exact Below.refl _ _ | refine bel_alloc ?_ _ | refine bel_drewN ?_ _ | refine bel_drew ?_ | refine bel_trans ?_ (by assumption)))⟩

set_option maxHeartbeats 1000000 in
theorem rat_any (A : Option Addr) (n c : Nat) (S N : Nat → Int) (s : Int) (w : World) (hn : n ≤ 9223372036854775807) (h : Marks w A n S N) (hN : ∀ i, i < n → 0 ≤ N i ∧ N i ≤ 32) :
    Calls Try.prog 37 #[.slice A n c, .int .u64 s] w fun e w' => e = .returned (.tuple #[.int .i64 (atN S N s n), .bool (atB S s n)]) ∧ Below w.heap.size w w' := by
  have H := Lib.hid h
  clear h
  have HN := Lib.hid hN
  clear hN
  go_enter Try.func37, Try.ntmps37
  go_wp2
  go_loopw [6, 7, 8] (fun a b i wr => ∃ k : Nat, k ≤ n ∧ a = .int .i64 (atN S N s k) ∧ b = .bool (atB S s k) ∧ i = .int .i64 k ∧ Below w.heap.size w wr) (fun _ _ i _ => n - (intOf i).toNat)
  case atStart => exact ⟨0, Nat.zero_le _, rfl, rfl, rfl, Below.refl _ _⟩
  case round =>
    obtain ⟨k, hk, rfl, rfl, rfl, hb⟩ := hrel
    by_cases hlt : k < n
    · obtain ⟨b, off, rfl, g1, g2, g3, gb⟩ := Marks.at_ (Arr.below H.out hb) k hlt
      have gN := HN.out k hlt
      clear g3
      by_cases c1 : S k ≤ s
      · go_wp2
        go_roundw
        case rel => exact ⟨k + 1, by omega, by rw [atN, if_pos c1], by rw [atB, if_pos c1], by go_num, (by repeat (first | assumption | exact Below.refl _ _ | refine bel_alloc ?_ _ | refine bel_drewN ?_ _ | refine bel_drew ?_ | refine bel_trans ?_ (by assumption)))⟩
        case measure => simp [intOf]; omega
      · go_wp2
        go_roundw
        case rel => exact ⟨k + 1, by omega, by rw [atN, if_neg c1], by rw [atB, if_neg c1], by go_num, (by repeat (first | assumption | exact Below.refl _ _ | refine bel_alloc ?_ _ | refine bel_drewN ?_ _ | refine bel_drew ?_ | refine bel_trans ?_ (by assumption)))⟩
        case measure => simp [intOf]; omega
    · obtain rfl : k = n := by omega
      go_wp2
      go_ret2
      exact ⟨rfl, (by repeat (first | assumption | exact Below.refl _ _ | refine bel_alloc ?_ _ | refine bel_drewN ?_ _ | refine bel_drew ?_ | refine bel_trans ?_ (by assumption)))⟩

/-! ### Now: the last size -/
def nowN (N : Nat → Int) : Nat → Int
  | 0 => 0
  | k + 1 => N k
theorem now_any (A : Option Addr) (n c : Nat) (S N : Nat → Int) (w : World) (hn : n ≤ 9223372036854775807) (h : Marks w A n S N) (hN : ∀ i, i < n → 0 ≤ N i ∧ N i ≤ 32) :
    Calls Try.prog 40 #[.slice A n c] w fun e w' => e = .returned (.int .i64 (nowN N n)) ∧ Below w.heap.size w w' := by
  rcases n with _ | m
  · go_enter Try.func40, Try.ntmps40
    go_wp2
    go_ret
    exact ⟨rfl, (by repeat (first | assumption | exact Below.refl _ _ | refine bel_alloc ?_ _ | refine bel_drewN ?_ _ | refine bel_drew ?_ | refine bel_trans ?_ (by assumption)))⟩
  · obtain ⟨b, off, rfl, g1, g2, g3, gb⟩ := Marks.at_ h m (by omega)
    have gN := hN m (by omega)
    clear g3 h hN
    generalize hn' : m + 1 = n at hn ⊢
    have HN := Lib.hid hn'
    have hm : m < n := by omega
    have e1 : ((n : Int) == 0) = false := by simp; omega
    have e2 : (n : Int) - 1 = (m : Int) := by omega
    clear hn'
    go_enter Try.func40, Try.ntmps40
    go_wp2
    go_ret
    exact ⟨by rw [← HN.out]; rfl, (by repeat (first | assumption | exact Below.refl _ _ | refine bel_alloc ?_ _ | refine bel_drewN ?_ _ | refine bel_drew ?_ | refine bel_trans ?_ (by assumption)))⟩

theorem rnow_any (A : Option Addr) (n c : Nat) (S N : Nat → Int) (w : World) (hn : n ≤ 9223372036854775807) (h : Marks w A n S N) (hN : ∀ i, i < n → 0 ≤ N i ∧ N i ≤ 32) :
    Calls Try.prog 41 #[.slice A n c] w fun e w' => e = .returned (.int .i64 (nowN N n)) ∧ Below w.heap.size w w' := by
  have H := Lib.hid h
  clear h
  have HN := Lib.hid hN
  clear hN
  go_enter Try.func41, Try.ntmps41
  go_wp2
  go_loopw [3, 4] (fun a i wr => ∃ k : Nat, k ≤ n ∧ a = .int .i64 (nowN N k) ∧ i = .int .i64 k ∧ Below w.heap.size w wr) (fun _ i _ => n - (intOf i).toNat)
  case atStart => exact ⟨0, Nat.zero_le _, rfl, rfl, Below.refl _ _⟩
  case round =>
    obtain ⟨k, hk, rfl, rfl, hb⟩ := hrel
    by_cases hlt : k < n
    · obtain ⟨b, off, rfl, g1, g2, g3, gb⟩ := Marks.at_ (Arr.below H.out hb) k hlt
      have gN := HN.out k hlt
      clear g3
      go_wp2
      go_roundw
      case rel => exact ⟨k + 1, by omega, rfl, by go_num, (by repeat (first | assumption | exact Below.refl _ _ | refine bel_alloc ?_ _ | refine bel_drewN ?_ _ | refine bel_drew ?_ | refine bel_trans ?_ (by assumption)))⟩
      case measure => simp [intOf]; omega
    · obtain rfl : k = n := by omega
      go_wp2
      go_ret
      exact ⟨rfl, (by repeat (first | assumption | exact Below.refl _ _ | refine bel_alloc ?_ _ | refine bel_drewN ?_ _ | refine bel_drew ?_ | refine bel_trans ?_ (by assumption)))⟩

/-! ### great: more than 60, or one above 32 -/
theorem great_no (A : Option Addr) (n c : Nat) (S N : Nat → Int) (w : World) (hn : n ≤ 60) (h : Marks w A n S N) (hN : ∀ i, i < n → N i ≤ 32) :
    Calls Try.prog 33 #[.slice A n c] w fun e w' => e = .returned (.bool false) ∧ Below w.heap.size w w' := by
  have H := Lib.hid h
  clear h
  have HN := Lib.hid hN
  clear hN
  go_enter Try.func33, Try.ntmps33
  go_wp2
  go_loopw [3] (fun i wr => ∃ k : Nat, k ≤ n ∧ i = .int .i64 k ∧ Below w.heap.size w wr) (fun i _ => n - (intOf i).toNat)
  case atStart => exact ⟨0, Nat.zero_le _, rfl, Below.refl _ _⟩
  case round =>
    obtain ⟨k, hk, rfl, hb⟩ := hrel
    by_cases hlt : k < n
    · obtain ⟨b, off, rfl, g1, g2, g3, gb⟩ := Marks.at_ (Arr.below H.out hb) k hlt
      have gN := HN.out k hlt
      clear g3
      go_wp2
      go_roundw
      case rel => exact ⟨k + 1, by omega, by go_num, (by repeat (first | assumption | exact Below.refl _ _ | refine bel_alloc ?_ _ | refine bel_drewN ?_ _ | refine bel_drew ?_ | refine bel_trans ?_ (by assumption)))⟩
      case measure => simp [intOf]; omega
    · go_wp2
      go_ret
      exact ⟨ret_bool (by simp; omega), (by repeat (first | assumption | exact Below.refl _ _ | refine bel_alloc ?_ _ | refine bel_drewN ?_ _ | refine bel_drew ?_ | refine bel_trans ?_ (by assumption)))⟩
theorem great_yes (A : Option Addr) (n c : Nat) (S N : Nat → Int) (w : World) (hn : n ≤ 9223372036854775807) (h : Marks w A n S N) (hN : ¬ ((∀ i, i < n → N i ≤ 32) ∧ n ≤ 60)) :
    Calls Try.prog 33 #[.slice A n c] w fun e w' => e = .returned (.bool true) ∧ Below w.heap.size w w' := by
  have H := Lib.hid h
  clear h
  have HN := Lib.hid hN
  clear hN
  go_enter Try.func33, Try.ntmps33
  go_wp2
  go_loopw [3] (fun i wr => ∃ k : Nat, k ≤ n ∧ i = .int .i64 k ∧ Below w.heap.size w wr ∧ Hid (∀ j, j < k → N j ≤ 32)) (fun i _ => n - (intOf i).toNat)
  case atStart => exact ⟨0, Nat.zero_le _, rfl, Below.refl _ _, Lib.hid (fun j hj => absurd hj (by omega))⟩
  case round =>
    obtain ⟨k, hk, rfl, hb, hok⟩ := hrel
    by_cases hlt : k < n
    · obtain ⟨b, off, rfl, g1, g2, g3, gb⟩ := Marks.at_ (Arr.below H.out hb) k hlt
      clear g3
      by_cases c1 : 32 < N k
      · go_wp2
        go_ret
        exact ⟨rfl, (by repeat (first | assumption | exact Below.refl _ _ | refine bel_alloc ?_ _ | refine bel_drewN ?_ _ | refine bel_drew ?_ | refine bel_trans ?_ (by assumption)))⟩
      · go_wp2
        go_roundw
        case rel => exact ⟨k + 1, by omega, by go_num, (by repeat (first | assumption | exact Below.refl _ _ | refine bel_alloc ?_ _ | refine bel_drewN ?_ _ | refine bel_drew ?_ | refine bel_trans ?_ (by assumption))), Lib.hid (fun j hj => by
          by_cases hj' : j < k
          · exact hok.out j hj'
          · obtain rfl : j = k := by omega
            omega)⟩
        case measure => simp [intOf]; omega
    · have h60 : ¬ n ≤ 60 := fun h => HN.out ⟨fun i hi => hok.out i (by omega), h⟩
      go_wp2
      go_ret
      exact ⟨ret_bool (by simp; omega), (by repeat (first | assumption | exact Below.refl _ _ | refine bel_alloc ?_ _ | refine bel_drewN ?_ _ | refine bel_drew ?_ | refine bel_trans ?_ (by assumption)))⟩
end Go.Proofs.Ytobecmablabmeaa.Sizes
