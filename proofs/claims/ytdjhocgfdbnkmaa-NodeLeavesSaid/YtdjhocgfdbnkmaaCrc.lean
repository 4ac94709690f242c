/- The program's sum: turn, Add, Of. -/
import Derived.Test.YtdjhocgfdbnkmaaFix
import Derived.Test.YtdjhocgfdbnkmaaCrcLaw
namespace Go.Proofs.Ytdjhocgfdbnkmaa.Crc
open Go.RowKit Mem Bytes Fix
set_option linter.unusedVariables false
set_option linter.unusedSimpArgs false
theorem and_one (s : Nat) (h : s < 4294967296) : bits .and .u32 (s : Int) 1 = ((s % 2 : Nat) : Int) := by
  have := u32_and_nat s 1 h (by omega)
  rw [nat_mask1] at this
  exact this
theorem sh_odd (s : Nat) (h : s < 4294967296) (ho : s % 2 = 1) : bits .xor .u32 ((s : Int) / 2) 3988292384 = ((sh s : Nat) : Int) := by
  have := u32_xor_nat (s / 2) poly (by omega) poly_lt
  unfold sh
  rw [if_pos ho, ← this]
  rfl
theorem sh_even (s : Nat) (ho : s % 2 = 0) : (s : Int) / 2 = ((sh s : Nat) : Int) := by
  unfold sh
  rw [if_neg (by omega)]
  rfl
set_option maxRecDepth 100000 in
set_option maxHeartbeats 1000000 in
theorem turn_any (n c : Nat) (x : Int) (w : World) (hx : x = c) (hn : n < 4294967296) (hc : c < 256) :
    Calls Try.prog 220 #[.int .u32 n, .int .u8 x] w fun e w' => e = .returned (.int .u32 (turnN n c : Nat)) ∧ w = w' := by
  subst hx
  have hxor := u32_xor_nat n c hn (by omega)
  have hlt := xor_lt32 hn (show c < 4294967296 by omega)
  have HT := Lib.hid (show turnN n c = shs 8 (n ^^^ c) from rfl)
  generalize n ^^^ c = s0 at *
  go_enter Try.func220, Try.ntmps220
  go_wp2
  clear hxor
  go_loopw [0, 9] (fun n i wr => ∃ k : Nat, k ≤ 8 ∧ i = .int .i64 k ∧ n = .int .u32 (shs k s0 : Nat) ∧ wr = w) (fun _ i _ => 8 - (intOf i).toNat)
  case atStart => exact ⟨0, Nat.zero_le _, rfl, rfl, rfl⟩
  case round =>
    obtain ⟨k, hk, rfl, rfl, rfl⟩ := hrel
    have hs := shs_lt (k := k) hlt
    have HS := Lib.hid (show shs (k + 1) s0 = sh (shs k s0) from rfl)
    by_cases hlt8 : k < 8
    · generalize shs k s0 = s at *
      rcases Nat.mod_two_eq_zero_or_one s with h2 | h2
      · have ha := and_one s hs
        rw [h2] at ha
        have hb := sh_even s h2
        have HH2 := Lib.hid h2
        clear h2
        go_wp2
        go_roundw
        case rel => exact ⟨k + 1, by omega, by go_num, by rw [HS.out], trivial⟩
        case measure => simp [intOf]; omega
      · have ha := and_one s hs
        rw [h2] at ha
        have hb := sh_odd s hs h2
        have HH2 := Lib.hid h2
        clear h2
        go_wp2
        go_roundw
        case rel => exact ⟨k + 1, by omega, by go_num, by rw [HS.out], trivial⟩
        case measure => simp [intOf]; omega
    · obtain rfl : k = 8 := by omega
      go_wp2
      go_ret
      exact ⟨by rw [HT.out]; rfl, rfl⟩
/-- The bytes as numbers. -/
def nats (L : List Int) : List Nat := L.map Int.toNat
theorem nats_lt {L : List Int} (h : IsB L) : ∀ c ∈ nats L, c < 256 := by
  intro c hc
  simp only [nats, List.mem_map] at hc
  obtain ⟨x, hx, rfl⟩ := hc
  have := h x hx
  omega
theorem comp_bit (n i : Nat) (h : n < 4294967296) : (4294967295 - n).testBit i = (decide (i < 32) && !n.testBit i) := by
  have := Nat.testBit_two_pow_sub_succ (n := 32) (x := n) h i
  rw [← this, show 2 ^ 32 - (n + 1) = 4294967295 - n by omega]
theorem ones_bit (i : Nat) : (4294967295 : Nat).testBit i = decide (i < 32) := by
  have := Nat.testBit_two_pow_sub_one 32 i
  rw [← this]
theorem comp_xor (n : Nat) (h : n < 4294967296) : (4294967295 : Nat) ^^^ n = 4294967295 - n := by
  apply Nat.eq_of_testBit_eq
  intro i
  rw [Nat.testBit_xor, comp_bit n i h, ones_bit]
  by_cases hi : i < 32
  · simp [hi]
  · have : n.testBit i = false := Nat.testBit_lt_two_pow (Nat.lt_of_lt_of_le h (Nat.pow_le_pow_right (n := 2) (i := 32) (by omega) (by omega)))
    simp [hi, this]
theorem not32 (n : Nat) (h : n < 4294967296) : bits .xor .u32 IntKind.u32.max (n : Int) = ((4294967295 - n : Nat) : Int) := by
  have h1 := u32_xor_nat 4294967295 n (by omega) h
  rw [comp_xor n h] at h1
  exact h1

set_option maxRecDepth 100000 in
set_option maxHeartbeats 1000000 in
theorem add_any (g n : Nat) (A : Option Addr) (m c : Nat) (L : List Int) (w : World) (hg : w.cell? ⟨g, 0, none⟩ = some (.int .u32 n)) (hf : w.frozen? ⟨g, 0, none⟩ = false) (hn : n < 4294967296) (hm : m = L.length) (hm9 : m ≤ 9223372036854775807) (h : BS w A L) (hB : IsB L) :
    Calls Try.prog 211 #[.pointer (some ⟨g, 0, none⟩), .slice A m c] w fun e w' => e = .returned (.tuple #[]) ∧ w' = w.setCell ⟨g, 0, none⟩ (.int .u32 ((4294967295 - crcL (4294967295 - n) (nats L) : Nat) : Int)) := by
  have H := Lib.hid h
  clear h
  have HM := Lib.hid hm
  clear hm
  have hnot := not32 n hn
  have h2 : 4294967295 - n < 4294967296 := by omega
  have HL := Lib.hid (fun k => crcL_lt (l := (nats L).take k) h2 (fun x hx => nats_lt hB x (List.mem_of_mem_take hx)))
  generalize 4294967295 - n = s0 at *
  go_enter Try.func211, Try.ntmps211
  go_wp2
  clear hnot
  go_loopw [4, 14] (fun n i wr => ∃ k : Nat, k ≤ m ∧ i = .int .i64 k ∧ n = .int .u32 (crcL s0 ((nats L).take k) : Nat) ∧ wr = w) (fun _ i _ => m - (intOf i).toNat)
  case atStart => exact ⟨0, Nat.zero_le _, rfl, by rw [List.take_zero, crcL_nil], rfl⟩
  case round =>
    obtain ⟨k, hk, rfl, rfl, rfl⟩ := hrel
    by_cases hlt : k < m
    · obtain ⟨b, off, x, rfl, hx, ht, hmem, g1, gb⟩ := Sl.at1 H.out k (by have := HM.out; omega)
      simp only [IE] at g1
      have hb := hB x hmem
      have hx0 : 0 ≤ x := hb.1
      have hx1 : x ≤ 255 := hb.2
      have HS : Hid (crcL s0 ((nats L).take (k + 1)) = turnN (crcL s0 ((nats L).take k)) x.toNat) := Lib.hid (by
        rw [← crcL_snoc]; congr 1
        unfold nats
        rw [← List.map_take, ht, List.map_append, ← List.map_take]; rfl)
      have hl1 := HL.out k
      clear hx ht hmem hb
      generalize crcL s0 ((nats L).take k) = q at *
      go_wp2_with (go_at_call 220; refine (turn_any q x.toNat x _ (by omega) hl1 (by omega)).mono ?_; rintro e w' ⟨rfl, rfl⟩)
      go_roundw
      case rel => exact ⟨k + 1, by omega, by go_num, by rw [HS.out], trivial⟩
      case measure => simp [intOf]; omega
    · obtain rfl : k = m := by omega
      have hl1 := HL.out k
      have e1 : (nats L).take k = nats L := List.take_of_length_le (by unfold nats; rw [List.length_map]; have := HM.out; omega)
      rw [e1] at hl1
      rw [e1]
      clear e1
      generalize hq : crcL s0 (nats L) = q at *
      have HQ := Lib.hid hq
      clear hq
      have hnot2 := not32 q hl1
      go_wp2
      go_end0
      exact ⟨rfl, by rw [HQ.out]⟩
theorem value_any (g : Nat) (n : Int) (w : World) (hg : w.cell? ⟨g, 0, none⟩ = some (.int .u32 n)) :
    Calls Try.prog 212 #[.pointer (some ⟨g, 0, none⟩)] w fun e w' => e = .returned (.int .u32 n) ∧ w = w' := by
  go_enter Try.func212, Try.ntmps212
  go_wp2
  go_ret
  exact ⟨rfl, rfl⟩
/-- The sum of bytes. -/
def crcV (L : List Int) : Nat := 4294967295 - crcL 4294967295 (nats L)
set_option maxRecDepth 100000 in
set_option maxHeartbeats 1000000 in
theorem of_any (p cp : Nat) (A : Option Addr) (m c : Nat) (L : List Int) (w : World) (hp : w.cell? ⟨p, 0, none⟩ = some (.slice A m c)) (hm : m = L.length) (hm9 : m ≤ 9223372036854775807) (h : BS w A L) (hB : IsB L) :
    Calls Try.prog 197 #[.slice (some ⟨p, 0, none⟩) 1 cp] w fun e w' => e = .returned (.int .u32 ((crcV L : Nat) : Int)) ∧ Below w.heap.size w w' := by
  have H := Lib.hid h
  clear h
  have HM := Lib.hid hm
  clear hm
  have hpb : p < w.heap.size := lt_of_cell hp
  go_enter Try.func197, Try.ntmps197
  go_wp2
  refine wp_loop_rounds 2 ?_; rw [rounds_succ]
  go_wp2_with fail
  refine (add_any w.heap.size 0 A m c L _ (by simp) (by simp) (by omega) HM.out hm9 (by exact H.out.alloc _) hB).mono ?_
  rintro e w1 ⟨rfl, rfl⟩
  go_wp2
  rw [rounds_succ]
  go_wp2_with (go_at_call 212; refine (value_any _ _ _ (by simp; rfl)).mono ?_; rintro e w' ⟨rfl, rfl⟩)
  go_ret
  exact ⟨rfl, (by repeat (first | assumption | exact Below.refl _ _ | refine bel_alloc ?_ _ | refine bel_drewN ?_ _ | refine bel_drew ?_ | refine bel_set ?_ (by first | (simp; done) | omega | (simp; omega)) _ | refine bel_trans ?_ (by assumption)))⟩
end Go.Proofs.Ytdjhocgfdbnkmaa.Crc
