/- At, When and the reference's, at marks that are right. -/
import Derived.Test.YtfdnpdolpfnlgaaTimes2
namespace Go.Proofs.Ytfdnpdolpfnlgaa.Times
open Go.RowKit Mem Marks
set_option linter.unusedVariables false
set_option linter.unusedSimpArgs false

/-- What At tells of p marks that aren't behind the time. -/
def atS (S : Nat → Int) (p : Nat) : Int := if p = 0 then 0 else S (p - 1)
def atB (p : Nat) : Bool := decide (0 < p)
theorem atS_zero (S : Nat → Int) : atS S 0 = 0 := rfl
theorem atS_succ (S : Nat → Int) (p : Nat) : atS S (p + 1) = S p := by simp [atS]
theorem atB_succ (p : Nat) : atB (p + 1) = true := by simp [atB]

set_option maxRecDepth 100000 in
set_option maxHeartbeats 1000000 in
theorem at_any (A : Option Addr) (n c p : Nat) (S N : Nat → Int) (t : Int) (w : World) (hn : n ≤ 1000) (h : Marks w A n S N) (hp : p ≤ n) (hm : ∀ i, i < n → (N i ≤ t ↔ i < p)) :
    Calls Try.prog 28 #[.slice A n c, .int .u64 t] w fun e w' => e = .returned (.tuple #[.int .u64 (atS S p), .bool (atB p)]) ∧ Below w.heap.size w w' := by
  have H := Lib.hid h
  clear h
  have HM := Lib.hid hm
  clear hm
  rcases p with _ | p
  · go_enter Try.func28, Try.ntmps28
    go_wp2_with (go_at_call 97; refine (search_any A n c 0 S N t _ hn (by exact H.out) hp HM.out).mono ?_; rintro e w' ⟨rfl, hb'⟩)
    go_ret2
    exact ⟨rfl, (by repeat (first | assumption | exact Below.refl _ _ | refine bel_alloc ?_ _ | refine bel_drewN ?_ _ | refine bel_drew ?_ | refine bel_trans ?_ (by assumption)))⟩
  · obtain ⟨b, off, rfl, g1, g2, g3, gb⟩ := Marks.at_ H.out p (by omega)
    clear g3
    go_enter Try.func28, Try.ntmps28
    have e1 : (((p + 1 : Nat) : Int) - 1) = (p : Int) := by omega
    go_wp2_with (go_at_call 97; refine (search_any _ n c (p + 1) S N t _ hn (by exact H.out) hp HM.out).mono ?_; rintro e w' ⟨rfl, hb'⟩; have g1' := keep_below hb' _ _ g1)
    go_ret2
    exact ⟨by rw [atS_succ, atB_succ]; rfl, (by repeat (first | assumption | exact Below.refl _ _ | refine bel_alloc ?_ _ | refine bel_drewN ?_ _ | refine bel_drew ?_ | refine bel_trans ?_ (by assumption)))⟩

theorem min_le {k p : Nat} (h : p ≤ k) : min (k + 1) p = min k p := by omega
set_option maxRecDepth 100000 in
set_option maxHeartbeats 1000000 in
theorem rat_any (A : Option Addr) (n c p : Nat) (S N : Nat → Int) (t : Int) (w : World) (hn : n ≤ 1000) (h : Marks w A n S N) (hp : p ≤ n) (hm : ∀ i, i < n → (N i ≤ t ↔ i < p)) :
    Calls Try.prog 29 #[.slice A n c, .int .u64 t] w fun e w' => e = .returned (.tuple #[.int .u64 (atS S p), .bool (atB p)]) ∧ Below w.heap.size w w' := by
  have H := Lib.hid h
  clear h
  have HM := Lib.hid hm
  clear hm
  go_enter Try.func29, Try.ntmps29
  go_wp2
  go_loopw [6, 7, 8] (fun s6 s7 i wr => ∃ k : Nat, k ≤ n ∧ s6 = .int .u64 (atS S (min k p)) ∧ s7 = .bool (atB (min k p)) ∧ i = .int .i64 k ∧ Below w.heap.size w wr) (fun _ _ i _ => n - (intOf i).toNat)
  case atStart => exact ⟨0, Nat.zero_le _, by rw [Nat.zero_min]; rfl, by rw [Nat.zero_min]; rfl, rfl, (by repeat (first | assumption | exact Below.refl _ _ | refine bel_alloc ?_ _ | refine bel_drewN ?_ _ | refine bel_drew ?_ | refine bel_trans ?_ (by assumption)))⟩
  case round =>
    obtain ⟨k, hk, rfl, rfl, rfl, hb⟩ := hrel
    by_cases hlt : k < n
    · obtain ⟨b, off, rfl, g1, g2, g3, gb⟩ := Marks.at_ (Arr.below H.out hb) k hlt
      clear g3
      by_cases hc : k < p
      · have hz := (HM.out k hlt).2 hc
        go_wp2
        go_roundw
        case rel => exact ⟨k + 1, by omega, by rw [show min (k + 1) p = k + 1 by omega, atS_succ], by rw [show min (k + 1) p = k + 1 by omega, atB_succ], by go_num, (by repeat (first | assumption | exact Below.refl _ _ | refine bel_alloc ?_ _ | refine bel_drewN ?_ _ | refine bel_drew ?_ | refine bel_trans ?_ (by assumption)))⟩
        case measure => simp [intOf]; omega
      · have hz : t < N k := Int.not_le.1 fun h => hc ((HM.out k hlt).1 h)
        go_wp2
        go_roundw
        case rel => exact ⟨k + 1, by omega, by rw [min_le (by omega)], by rw [min_le (by omega)], by go_num, (by repeat (first | assumption | exact Below.refl _ _ | refine bel_alloc ?_ _ | refine bel_drewN ?_ _ | refine bel_drew ?_ | refine bel_trans ?_ (by assumption)))⟩
        case measure => simp [intOf]; omega
    · obtain rfl : k = n := by omega
      have e1 : min k p = p := by omega
      rw [e1]
      go_wp2
      go_ret2
      exact ⟨rfl, (by repeat (first | assumption | exact Below.refl _ _ | refine bel_alloc ?_ _ | refine bel_drewN ?_ _ | refine bel_drew ?_ | refine bel_trans ?_ (by assumption)))⟩

/-- What When tells, if q is the first mark that isn't ahead of the number. -/
def whN (n : Nat) (N : Nat → Int) (q : Nat) : Int := if q < n then N q else 0
def whB (n q : Nat) : Bool := decide (q < n)
theorem whN_lt {n q : Nat} (N : Nat → Int) (h : q < n) : whN n N q = N q := by simp [whN, h]
theorem whB_lt {n q : Nat} (h : q < n) : whB n q = true := by simp [whB, h]
theorem whN_ge {n q : Nat} (N : Nat → Int) (h : n ≤ q) : whN n N q = 0 := by simp [whN]; omega
theorem whB_ge {n q : Nat} (h : n ≤ q) : whB n q = false := by simp [whB]; omega

set_option maxRecDepth 100000 in
set_option maxHeartbeats 1000000 in
theorem when_any (A : Option Addr) (n c q : Nat) (S N : Nat → Int) (s : Int) (w : World) (hn : n ≤ 1000) (h : Marks w A n S N) (hq : q ≤ n) (hm : ∀ i, i < n → (s ≤ S i ↔ q ≤ i)) :
    Calls Try.prog 30 #[.slice A n c, .int .u64 s] w fun e w' => e = .returned (.tuple #[.int .u64 (whN n N q), .bool (whB n q)]) ∧ Below w.heap.size w w' := by
  have H := Lib.hid h
  clear h
  have HM := Lib.hid hm
  clear hm
  go_enter Try.func30, Try.ntmps30
  go_wp2
  go_loopw [10] (fun i wr => ∃ k : Nat, k ≤ q ∧ i = .int .i64 k ∧ Below w.heap.size w wr) (fun i _ => n - (intOf i).toNat)
  case atStart => exact ⟨0, Nat.zero_le _, rfl, (by repeat (first | assumption | exact Below.refl _ _ | refine bel_alloc ?_ _ | refine bel_drewN ?_ _ | refine bel_drew ?_ | refine bel_trans ?_ (by assumption)))⟩
  case round =>
    obtain ⟨k, hk, rfl, hb⟩ := hrel
    by_cases hlt : k < n
    · obtain ⟨b, off, rfl, g1, g2, g3, gb⟩ := Marks.at_ (Arr.below H.out hb) k hlt
      clear g3
      by_cases hc : q ≤ k
      · have hz := (HM.out k hlt).2 hc
        obtain rfl : k = q := by omega
        go_wp2
        go_ret2
        exact ⟨by rw [whN_lt _ hlt, whB_lt hlt]; rfl, (by repeat (first | assumption | exact Below.refl _ _ | refine bel_alloc ?_ _ | refine bel_drewN ?_ _ | refine bel_drew ?_ | refine bel_trans ?_ (by assumption)))⟩
      · have hz : S k < s := Int.not_le.1 fun h => hc ((HM.out k hlt).1 h)
        go_wp2
        go_roundw
        case rel => exact ⟨k + 1, by omega, by go_num, (by repeat (first | assumption | exact Below.refl _ _ | refine bel_alloc ?_ _ | refine bel_drewN ?_ _ | refine bel_drew ?_ | refine bel_trans ?_ (by assumption)))⟩
        case measure => simp [intOf]; omega
    · go_wp2
      go_ret2
      exact ⟨by rw [whN_ge _ (by omega), whB_ge (by omega)]; rfl, (by repeat (first | assumption | exact Below.refl _ _ | refine bel_alloc ?_ _ | refine bel_drewN ?_ _ | refine bel_drew ?_ | refine bel_trans ?_ (by assumption)))⟩

set_option maxRecDepth 100000 in
set_option maxHeartbeats 1000000 in
theorem rwhen_any (A : Option Addr) (n c q : Nat) (S N : Nat → Int) (s : Int) (w : World) (hn : n ≤ 1000) (h : Marks w A n S N) (hq : q ≤ n) (hm : ∀ i, i < n → (s ≤ S i ↔ q ≤ i)) :
    Calls Try.prog 31 #[.slice A n c, .int .u64 s] w fun e w' => e = .returned (.tuple #[.int .u64 (whN n N q), .bool (whB n q)]) ∧ Below w.heap.size w w' := by
  have H := Lib.hid h
  clear h
  have HM := Lib.hid hm
  clear hm
  go_enter Try.func31, Try.ntmps31
  go_wp2
  go_loopw [6, 7, 8] (fun s6 s7 i wr => ∃ k : Nat, k ≤ n ∧ s6 = .int .u64 (whN n N (max k q)) ∧ s7 = .bool (whB n (max k q)) ∧ i = .int .i64 ((k : Int) - 1) ∧ Below w.heap.size w wr) (fun _ _ i _ => (intOf i + 1).toNat)
  case atStart => exact ⟨n, Nat.le_refl _, by rw [whN_ge _ (by omega)], by rw [whB_ge (by omega)], rfl, (by repeat (first | assumption | exact Below.refl _ _ | refine bel_alloc ?_ _ | refine bel_drewN ?_ _ | refine bel_drew ?_ | refine bel_trans ?_ (by assumption)))⟩
  case round =>
    obtain ⟨k, hk, rfl, rfl, rfl, hb⟩ := hrel
    rcases k with _ | k
    · go_wp2
      go_ret2
      exact ⟨by simp only [Nat.zero_max]; rfl, (by repeat (first | assumption | exact Below.refl _ _ | refine bel_alloc ?_ _ | refine bel_drewN ?_ _ | refine bel_drew ?_ | refine bel_trans ?_ (by assumption)))⟩
    · have e1 : ((k + 1 : Nat) : Int) - 1 = (k : Int) := by omega
      rw [e1]
      have hlt : k < n := by omega
      obtain ⟨b, off, rfl, g1, g2, g3, gb⟩ := Marks.at_ (Arr.below H.out hb) k hlt
      clear g3
      by_cases hc : q ≤ k
      · have hz := (HM.out k hlt).2 hc
        go_wp2
        go_roundw
        case rel => exact ⟨k, by omega, by rw [show max k q = k by omega, whN_lt _ hlt], by rw [show max k q = k by omega, whB_lt hlt], by go_num, (by repeat (first | assumption | exact Below.refl _ _ | refine bel_alloc ?_ _ | refine bel_drewN ?_ _ | refine bel_drew ?_ | refine bel_trans ?_ (by assumption)))⟩
        case measure => simp [intOf]
      · have hz : S k < s := Int.not_le.1 fun h => hc ((HM.out k hlt).1 h)
        go_wp2
        go_roundw
        case rel => exact ⟨k, by omega, by rw [show max (k + 1) q = max k q by omega], by rw [show max (k + 1) q = max k q by omega], by go_num, (by repeat (first | assumption | exact Below.refl _ _ | refine bel_alloc ?_ _ | refine bel_drewN ?_ _ | refine bel_drew ?_ | refine bel_trans ?_ (by assumption)))⟩
        case measure => simp [intOf]
end Go.Proofs.Ytfdnpdolpfnlgaa.Times
