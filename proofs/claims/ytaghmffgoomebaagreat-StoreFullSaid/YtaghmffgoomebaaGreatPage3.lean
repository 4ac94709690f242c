/- Numbers as bytes: fix.Put, fix.Get and the reference's. fix.Reader: what a reader holds, and what its calls do. The program's sum: turn, Add, Of. Pages: what they are; page.Put and the reference's. Pages, read: what a sector is (plain), page.Get. -/
import Derived.Test.YtaghmffgoomebaaGreatCrcLaw
import Derived.Laws.BitsAll
import Derived.Deep.WholeRow
import Derived.Laws.Rows
import Derived.Laws.Tables
import Derived.StillTailTactics
import Derived.Deep.LoopGhost
import Derived.Test.YtaghmffgoomebaaGreatRegion
import Derived.Deep.RegionHeld3
import Derived.Deep.RegionLaw
namespace Go.Proofs.YtaghmffgoomebaaGreat.Fix
open Go.RowKit Mem Bytes
set_option linter.unusedVariables false
set_option linter.unusedSimpArgs false
theorem elt_B : Elt Tryz.prog 23 5 1 1 := Elt.mk' (z := .int .u8 0) Tryz.underlying23 (by kernel_rfl) rfl (by decide)
/-- A slice of bytes that the call has built. -/
def OB (w : World) (base : Nat) (v : Value) (L : List Int) : Prop := OwnL w base 5 1 v (IE .u8) L
theorem OB.of_eq {w : World} {base : Nat} {v : Value} {L M : List Int} (h : OB w base v L) (e : L = M) : OB w base v M := e ▸ h
/-- Bytes that lie somewhere. -/
def BS (w : World) (A : Option Addr) (L : List Int) : Prop := Sl w A 1 (IE .u8) L
theorem pow256 (i : Nat) : (2 : Int) ^ (8 * i) = 256 ^ i := by rw [Int.pow_mul]; rfl

set_option maxRecDepth 100000 in
set_option maxHeartbeats 1000000 in
theorem put_any (base : Nat) (v : Value) (L : List Int) (n s : Int) (k : Nat) (w : World) (hs : s = k) (hk : k ≤ 8) (hn : 0 ≤ n) (h : OB w base v L) (hL : L.length ≤ 100000) (hbase : base ≤ w.heap.size) :
    Calls Tryz.prog 100 #[v, .int .u64 n, .int .i64 s] w fun e w' => ∃ v', e = .returned v' ∧ OB w' base v' (L ++ le n k) ∧ Grew w w' v v' := by
  subst hs
  have H := Lib.hid h
  clear h
  have hL8 : ∀ i, i ≤ 8 → (L ++ le n i).length ≤ 100008 := fun i hi => by rw [List.length_append, le_length]; omega
  have HL := Lib.hid hL8
  clear hL8
  go_enter Tryz.func100, Tryz.ntmps100
  go_wp2
  go_loopw [0, 10] (fun u i wr => ∃ j : Nat, j ≤ k ∧ i = .int .i64 j ∧ OB wr base u (L ++ le n j) ∧ Grew w wr v u) (fun _ i _ => k - (intOf i).toNat)
  case atStart => exact ⟨0, Nat.zero_le _, rfl, (H.out).of_eq (by rw [le_zero, List.append_nil]), Grew.refl _ _⟩
  case round =>
    obtain ⟨j, hj, rfl, ho, hg⟩ := hrel
    have HO := Lib.hid ho
    have HG := Lib.hid hg
    have hb2 : base ≤ wr.heap.size := Nat.le_trans hbase hg.1.size
    clear ho hg
    by_cases hlt : j < k
    · go_wp2_with (at_builtin; refine wpList_append_sl _ rfl _ _ 23 rfl elt_B base (IE .u8) _ _ rfl (HO.out.alloc _) _ _ _ _ rfl rfl (sl_one _ _ _ _ _ _ (by simp) rfl) (fun _ _ => rfl) (by have := HL.out j (by omega); simp only [List.length_singleton]; unfold maxLen; omega) (by have := HL.out j (by omega); simp only [List.length_singleton]; omega) (by simp; omega) ?_; intro v1 w1 hown1 hgrow1; have HO1 := Lib.hid hown1; have HG1 := Lib.hid (HG.out.trans (hgrow1.below_left (bel_alloc (Below.refl _ _) _))); clear hown1 hgrow1)
      go_roundw
      case rel =>
        refine ⟨j + 1, by omega, by go_num, HO1.out.of_eq ?_, HG1.out⟩
        rw [List.append_assoc, le_snoc, pow256]
      case measure => simp [intOf]; omega
    · obtain rfl : j = k := by omega
      go_wp2
      go_ret
      exact ⟨_, rfl, HO.out, HG.out⟩
set_option maxRecDepth 100000 in
set_option maxHeartbeats 1000000 in
theorem rget_any (A : Option Addr) (m c : Nat) (L : List Int) (w : World) (hm : m = L.length) (h : BS w A L) (hB : IsB L) (hl : m ≤ 8) :
    Calls Tryz.prog 66 #[.slice A m c] w fun e w' => e = .returned (.int .u64 (num L)) ∧ Below w.heap.size w w' := by
  have H := Lib.hid h
  clear h
  have HM := Lib.hid hm
  clear hm
  go_enter Tryz.func66, Tryz.ntmps66
  go_wp2
  go_loopw [3, 4] (fun n i wr => ∃ k : Nat, k ≤ m ∧ i = .int .i64 ((k : Int) - 1) ∧ n = .int .u64 (num (L.drop k)) ∧ wr = w) (fun _ i _ => (intOf i + 1).toNat)
  case atStart => exact ⟨m, Nat.le_refl _, rfl, by rw [List.drop_of_length_le (by have := HM.out; omega)]; rfl, rfl⟩
  case round =>
    obtain ⟨k, hk, rfl, rfl, rfl⟩ := hrel
    rcases k with _ | k
    · go_wp2
      go_ret
      exact ⟨by rw [List.drop_zero]; rfl, (by repeat (first | assumption | exact Below.refl _ _ | refine bel_alloc ?_ _ | refine bel_drewN ?_ _ | refine bel_drew ?_ | refine bel_set ?_ (by first | (simp; done) | omega | (simp; omega)) _ | refine bel_trans ?_ (by assumption)))⟩
    · have e1 : ((k + 1 : Nat) : Int) - 1 = (k : Int) := by omega
      rw [e1]
      have hlt : k < m := by omega
      obtain ⟨b, off, x, rfl, hx, ht, hmem, g1, gb⟩ := Sl.at1 H.out k (by have := HM.out; omega)
      simp only [IE] at g1
      have hb := hB x hmem
      have hx0 : 0 ≤ x := hb.1
      have hx1 : x ≤ 255 := hb.2
      have hd := num_drop hx
      have hn0 := (num_bd (hB.drop (k + 1))).1
      have hn1 : num (L.drop k) < 18446744073709551616 := num_lt8 (hB.drop k) (by rw [List.length_drop]; have := HM.out; omega)
      have hn2 : num (L.drop (k + 1)) * 256 + x ≤ 18446744073709551615 := by omega
      have HX := Lib.hid hd
      clear hx ht hmem hb hn1 hd
      generalize num (L.drop (k + 1)) = n at *
      go_wp2
      go_roundw
      case rel =>
        refine ⟨k, by omega, by go_num, ?_, ?_⟩
        · rw [HX.out, show n * 256 + x = x + 256 * n by omega]
        · trivial
      case measure => simp [intOf]
end Go.Proofs.YtaghmffgoomebaaGreat.Fix
namespace Go.Proofs.YtaghmffgoomebaaGreat.Reader
open Go.RowKit Mem Bytes Fix
set_option linter.unusedVariables false
set_option linter.unusedSimpArgs false
/-- A reader in block g: what is left, and whether something was not there. -/
def Rd (w : World) (g : Nat) (L : List Int) (bad : Bool) : Prop :=
  ∃ A c, Blk w g #[.slice A L.length c, .bool bad] 201 ∧ BS w A L ∧ L.length ≤ c ∧ (A = none → c = 0) ∧ (0 < L.length → ∀ a, A = some a → a.block ≠ g)
theorem Rd.lt {w : World} {g : Nat} {L : List Int} {bad : Bool} (h : Rd w g L bad) : g < w.heap.size := by
  obtain ⟨A, c, h1, _⟩ := h; exact h1.lt
theorem Rd.below {w w' : World} {g : Nat} {L : List Int} {bad : Bool} (h : Rd w g L bad) (hb : Below w.heap.size w w') : Rd w' g L bad := by
  obtain ⟨A, c, h1, h2, h3, h4, h5⟩ := h
  exact ⟨A, c, h1.below hb, Sl.below h2 hb, h3, h4, h5⟩
/-- What a call for k bytes takes, and what it leaves. -/
def tk (L : List Int) (k : Nat) : List Int := if k ≤ L.length then L.take k else []
def rs (L : List Int) (k : Nat) : List Int := if k ≤ L.length then L.drop k else []
def rb (L : List Int) (bad : Bool) (k : Nat) : Bool := if k ≤ L.length then bad else true
end Go.Proofs.YtaghmffgoomebaaGreat.Reader
namespace Go.Proofs.YtaghmffgoomebaaGreat.Crc
open Go.RowKit Mem Bytes Fix
set_option linter.unusedVariables false
set_option linter.unusedSimpArgs false
theorem and_one (s : Nat) (h : s < 4294967296) : bits .and .u32 (s : Int) 1 = ((s % 2 : Nat) : Int) := by
  have := u32_and_nat s 1 h (by omega)
  rw [nat_mask1] at this
  exact this
theorem sh_odd (s : Nat) (h : s < 4294967296) (ho : s % 2 = 1) : bits .xor .u32 ((s : Int) / 2) 3988292384 = ((sh s : Nat) : Int) := by
  have := u32_xor_nat (s / 2) poly (by omega) poly_lt
  unfold sh
  rw [if_pos ho, ← this]
  rfl
theorem sh_even (s : Nat) (ho : s % 2 = 0) : (s : Int) / 2 = ((sh s : Nat) : Int) := by
  unfold sh
  rw [if_neg (by omega)]
  rfl
set_option maxRecDepth 100000 in
set_option maxHeartbeats 1000000 in
theorem turn_any (n c : Nat) (x : Int) (w : World) (hx : x = c) (hn : n < 4294967296) (hc : c < 256) :
    Calls Tryz.prog 138 #[.int .u32 n, .int .u8 x] w fun e w' => e = .returned (.int .u32 (turnN n c : Nat)) ∧ w = w' := by
  subst hx
  have hxor := u32_xor_nat n c hn (by omega)
  have hlt := xor_lt32 hn (show c < 4294967296 by omega)
  have HT := Lib.hid (show turnN n c = shs 8 (n ^^^ c) from rfl)
  generalize n ^^^ c = s0 at *
  go_enter Tryz.func138, Tryz.ntmps138
  go_wp2
  clear hxor
  go_loopw [0, 9] (fun n i wr => ∃ k : Nat, k ≤ 8 ∧ i = .int .i64 k ∧ n = .int .u32 (shs k s0 : Nat) ∧ wr = w) (fun _ i _ => 8 - (intOf i).toNat)
  case atStart => exact ⟨0, Nat.zero_le _, rfl, rfl, rfl⟩
  case round =>
    obtain ⟨k, hk, rfl, rfl, rfl⟩ := hrel
    have hs := shs_lt (k := k) hlt
    have HS := Lib.hid (show shs (k + 1) s0 = sh (shs k s0) from rfl)
    by_cases hlt8 : k < 8
    · generalize shs k s0 = s at *
      rcases Nat.mod_two_eq_zero_or_one s with h2 | h2
      · have ha := and_one s hs
        rw [h2] at ha
        have hb := sh_even s h2
        have HH2 := Lib.hid h2
        clear h2
        go_wp2
        go_roundw
        case rel => exact ⟨k + 1, by omega, by go_num, by rw [HS.out], trivial⟩
        case measure => simp [intOf]; omega
      · have ha := and_one s hs
        rw [h2] at ha
        have hb := sh_odd s hs h2
        have HH2 := Lib.hid h2
        clear h2
        go_wp2
        go_roundw
        case rel => exact ⟨k + 1, by omega, by go_num, by rw [HS.out], trivial⟩
        case measure => simp [intOf]; omega
    · obtain rfl : k = 8 := by omega
      go_wp2
      go_ret
      exact ⟨by rw [HT.out]; rfl, rfl⟩
/-- The bytes as numbers. -/
def nats (L : List Int) : List Nat := L.map Int.toNat
theorem nats_lt {L : List Int} (h : IsB L) : ∀ c ∈ nats L, c < 256 := by
  intro c hc
  simp only [nats, List.mem_map] at hc
  obtain ⟨x, hx, rfl⟩ := hc
  have := h x hx
  omega
theorem comp_bit (n i : Nat) (h : n < 4294967296) : (4294967295 - n).testBit i = (decide (i < 32) && !n.testBit i) := by
  have := Nat.testBit_two_pow_sub_succ (n := 32) (x := n) h i
  rw [← this, show 2 ^ 32 - (n + 1) = 4294967295 - n by omega]
theorem ones_bit (i : Nat) : (4294967295 : Nat).testBit i = decide (i < 32) := by
  have := Nat.testBit_two_pow_sub_one 32 i
  rw [← this]
theorem comp_xor (n : Nat) (h : n < 4294967296) : (4294967295 : Nat) ^^^ n = 4294967295 - n := by
  apply Nat.eq_of_testBit_eq
  intro i
  rw [Nat.testBit_xor, comp_bit n i h, ones_bit]
  by_cases hi : i < 32
  · simp [hi]
  · have : n.testBit i = false := Nat.testBit_lt_two_pow (Nat.lt_of_lt_of_le h (Nat.pow_le_pow_right (n := 2) (i := 32) (by omega) (by omega)))
    simp [hi, this]
theorem not32 (n : Nat) (h : n < 4294967296) : bits .xor .u32 IntKind.u32.max (n : Int) = ((4294967295 - n : Nat) : Int) := by
  have h1 := u32_xor_nat 4294967295 n (by omega) h
  rw [comp_xor n h] at h1
  exact h1

set_option maxRecDepth 100000 in
set_option maxHeartbeats 1000000 in
theorem add_any (g n : Nat) (A : Option Addr) (m c : Nat) (L : List Int) (w : World) (hg : w.cell? ⟨g, 0, none⟩ = some (.int .u32 n)) (hf : w.frozen? ⟨g, 0, none⟩ = false) (hn : n < 4294967296) (hm : m = L.length) (hm9 : m ≤ 9223372036854775807) (h : BS w A L) (hB : IsB L) :
    Calls Tryz.prog 127 #[.pointer (some ⟨g, 0, none⟩), .slice A m c] w fun e w' => e = .returned (.tuple #[]) ∧ w' = w.setCell ⟨g, 0, none⟩ (.int .u32 ((4294967295 - crcL (4294967295 - n) (nats L) : Nat) : Int)) := by
  have H := Lib.hid h
  clear h
  have HM := Lib.hid hm
  clear hm
  have hnot := not32 n hn
  have h2 : 4294967295 - n < 4294967296 := by omega
  have HL := Lib.hid (fun k => crcL_lt (l := (nats L).take k) h2 (fun x hx => nats_lt hB x (List.mem_of_mem_take hx)))
  generalize 4294967295 - n = s0 at *
  go_enter Tryz.func127, Tryz.ntmps127
  go_wp2
  clear hnot
  go_loopw [4, 14] (fun n i wr => ∃ k : Nat, k ≤ m ∧ i = .int .i64 k ∧ n = .int .u32 (crcL s0 ((nats L).take k) : Nat) ∧ wr = w) (fun _ i _ => m - (intOf i).toNat)
  case atStart => exact ⟨0, Nat.zero_le _, rfl, by rw [List.take_zero, crcL_nil], rfl⟩
  case round =>
    obtain ⟨k, hk, rfl, rfl, rfl⟩ := hrel
    by_cases hlt : k < m
    · obtain ⟨b, off, x, rfl, hx, ht, hmem, g1, gb⟩ := Sl.at1 H.out k (by have := HM.out; omega)
      simp only [IE] at g1
      have hb := hB x hmem
      have hx0 : 0 ≤ x := hb.1
      have hx1 : x ≤ 255 := hb.2
      have HS : Hid (crcL s0 ((nats L).take (k + 1)) = turnN (crcL s0 ((nats L).take k)) x.toNat) := Lib.hid (by
        rw [← crcL_snoc]; congr 1
        unfold nats
        rw [← List.map_take, ht, List.map_append, ← List.map_take]; rfl)
      have hl1 := HL.out k
      clear hx ht hmem hb
      generalize crcL s0 ((nats L).take k) = q at *
      go_wp2_with (go_at_call 138; refine (turn_any q x.toNat x _ (by omega) hl1 (by omega)).mono ?_; rintro e w' ⟨rfl, rfl⟩)
      go_roundw
      case rel => exact ⟨k + 1, by omega, by go_num, by rw [HS.out], trivial⟩
      case measure => simp [intOf]; omega
    · obtain rfl : k = m := by omega
      have hl1 := HL.out k
      have e1 : (nats L).take k = nats L := List.take_of_length_le (by unfold nats; rw [List.length_map]; have := HM.out; omega)
      rw [e1] at hl1
      rw [e1]
      clear e1
      generalize hq : crcL s0 (nats L) = q at *
      have HQ := Lib.hid hq
      clear hq
      have hnot2 := not32 q hl1
      go_wp2
      go_end0
      exact ⟨rfl, by rw [HQ.out]⟩
theorem value_any (g : Nat) (n : Int) (w : World) (hg : w.cell? ⟨g, 0, none⟩ = some (.int .u32 n)) :
    Calls Tryz.prog 128 #[.pointer (some ⟨g, 0, none⟩)] w fun e w' => e = .returned (.int .u32 n) ∧ w = w' := by
  go_enter Tryz.func128, Tryz.ntmps128
  go_wp2
  go_ret
  exact ⟨rfl, rfl⟩
/-- The sum of bytes. -/
def crcV (L : List Int) : Nat := 4294967295 - crcL 4294967295 (nats L)
set_option maxRecDepth 100000 in
set_option maxHeartbeats 1000000 in
theorem of_any (p cp : Nat) (A : Option Addr) (m c : Nat) (L : List Int) (w : World) (hp : w.cell? ⟨p, 0, none⟩ = some (.slice A m c)) (hm : m = L.length) (hm9 : m ≤ 9223372036854775807) (h : BS w A L) (hB : IsB L) :
    Calls Tryz.prog 109 #[.slice (some ⟨p, 0, none⟩) 1 cp] w fun e w' => e = .returned (.int .u32 ((crcV L : Nat) : Int)) ∧ Below w.heap.size w w' := by
  have H := Lib.hid h
  clear h
  have HM := Lib.hid hm
  clear hm
  have hpb : p < w.heap.size := lt_of_cell hp
  go_enter Tryz.func109, Tryz.ntmps109
  go_wp2
  refine wp_loop_rounds 2 ?_; rw [rounds_succ]
  go_wp2_with fail
  refine (add_any w.heap.size 0 A m c L _ (by simp) (by simp) (by omega) HM.out hm9 (by exact H.out.alloc _) hB).mono ?_
  rintro e w1 ⟨rfl, rfl⟩
  go_wp2
  rw [rounds_succ]
  go_wp2_with (go_at_call 128; refine (value_any _ _ _ (by simp; rfl)).mono ?_; rintro e w' ⟨rfl, rfl⟩)
  go_ret
  exact ⟨rfl, (by repeat (first | assumption | exact Below.refl _ _ | refine bel_alloc ?_ _ | refine bel_drewN ?_ _ | refine bel_drew ?_ | refine bel_set ?_ (by first | (simp; done) | omega | (simp; omega)) _ | refine bel_trans ?_ (by assumption)))⟩
end Go.Proofs.YtaghmffgoomebaaGreat.Crc
namespace Go.Proofs.YtaghmffgoomebaaGreat.Page
open Go.RowKit Mem Bytes Fix Crc
set_option linter.unusedVariables false
set_option linter.unusedSimpArgs false
/-- A page ahead of its sum. -/
def pg (k : Int) (L : List Int) : List Int := [157, 76, k, (L.length : Int)] ++ L ++ List.replicate (120 - L.length) 0
def page (k : Int) (L : List Int) : List Int := pg k L ++ le (crcV (pg k L) : Nat) 4
theorem pg_length {k : Int} {L : List Int} (h : L.length ≤ 120) : (pg k L).length = 124 := by simp [pg]; omega
theorem page_length {k : Int} {L : List Int} (h : L.length ≤ 120) : (page k L).length = 128 := by simp [page, pg_length h, le_length]
theorem pg_isB {k : Int} {L : List Int} (hk : 0 ≤ k ∧ k ≤ 255) (hL : L.length ≤ 120) (h : IsB L) : IsB (pg k L) :=
  ((IsB.cons (by omega) (IsB.cons (by omega) (IsB.cons hk (IsB.cons (by omega) IsB.nil)))).append h).append (IsB.replicate _)
theorem page_isB {k : Int} {L : List Int} (hk : 0 ≤ k ∧ k ≤ 255) (hL : L.length ≤ 120) (h : IsB L) : IsB (page k L) := (pg_isB hk hL h).append (le_isB _ _)
theorem _root_.Go.Proofs.YtaghmffgoomebaaGreat.Fix.OB.sl {w : World} {base : Nat} {v : Value} {L : List Int} (h : OB w base v L) (n : Nat) (hn : L.length = n) :
    ∃ A c, v = .slice A n c ∧ BS w A L ∧ n ≤ c ∧ c ≤ maxLen ∧ (A = none → c = 0) ∧ (∀ a, A = some a → base ≤ a.block ∧ a.block < w.heap.size) := by
  subst hn; exact OwnL.sl h
theorem crcV_lt (L : List Int) : crcV L < 4294967296 := by unfold crcV; omega
theorem kind_yes (k : Int) (w : World) (h1 : 1 ≤ k) (h2 : k ≤ 6) : Calls Tryz.prog 108 #[.int .i64 k] w fun e w' => e = .returned (.bool true) ∧ w = w' := by
  have d1 : decide (1 ≤ k) = true := by simpa using h1
  go_enter Tryz.func108, Tryz.ntmps108
  go_wp2
  go_ret
  exact ⟨rfl, rfl⟩
theorem zero_B : ∃ (i : TypeInfo) (z : Value), Tryz.prog.info? 5 = some i ∧ i.zero = some z ∧ i.size = 1 ∧ i.bytes = 1 ∧ z.cells = #[.int .u8 0] := by
  obtain ⟨i, h0, h1, h2, h3⟩ := info_parts (show (Tryz.prog.info? 5).map (fun i => (i.zero, i.size, i.bytes)) = some (some (.int .u8 0), 1, 1) by kernel_rfl)
  exact ⟨i, _, h0, h1, h2, h3, rfl⟩
/-- make([]byte, 0, n). -/
theorem made (n : Nat) (hn : n ≤ 100000) : ∃ cs : Array Value, cs.size = n ∧ ∀ w, (Instr.makeSlice 23 (.int .i64 0) (.int .i64 (n : Int))).run Tryz.prog w = .ok (.slice (some ⟨w.heap.size, 0, none⟩) 0 n) (w.alloc (.cells cs 5)) := by
  obtain ⟨i, z, hi, hz, hs, hb, hzc⟩ := elt_B.hi
  refine ⟨madeCells z.cells (n * i.size), by rw [size_madeCells, hs, Nat.mul_one], fun w => ?_⟩
  have := run_make (P := Tryz.prog) w 23 5 i z elt_B.ht hi hz .i64 .i64 0 (n : Int) (by omega) (by omega) (by rw [hb]; omega) (by omega)
  simpa using this
set_option maxRecDepth 100000 in
set_option maxHeartbeats 1000000 in
theorem put_ok (k : Int) (A : Option Addr) (m c : Nat) (L : List Int) (w : World) (h1 : 1 ≤ k) (h2 : k ≤ 6) (hm : m = L.length) (hm2 : m ≤ 120) (h : BS w A L) (hB : IsB L) :
    Calls Tryz.prog 102 #[.int .i64 k, .slice A m c] w fun e w' => ∃ v, e = .returned (.tuple #[v, .int .i64 0]) ∧ OB w' w.heap.size v (page k L) ∧ Below w.heap.size w w' := by
  have H := Lib.hid h
  clear h
  have HM := Lib.hid hm
  clear hm
  obtain ⟨cs, hcs, hmk⟩ := made 128 (by omega)
  have HCS := Lib.hid hcs
  clear hcs
  replace hmk : ∀ w, (Instr.makeSlice 23 (.int .i64 0) (.int .i64 128)).run Tryz.prog w = .ok (.slice (some ⟨w.heap.size, 0, none⟩) 0 128) (w.alloc (.cells cs 5)) := hmk
  go_enter Tryz.func102, Tryz.ntmps102
  go_wp2_with fail
  refine (kind_yes k _ h1 h2).mono ?_
  rintro e w' ⟨rfl, rfl⟩
  go_wp2_with fail
  have HO0 : Hid (OB (w.alloc (.cells cs 5)) w.heap.size (.slice (some ⟨w.heap.size, 0, none⟩) 0 128) []) := Lib.hid (OwnL.made _ rfl (Nat.le_refl _) (by unfold maxLen; omega) (by rw [HCS.out]))
  have HB0 : Below w.heap.size w (w.alloc (.cells cs 5)) := (by repeat (first | assumption | exact Below.refl _ _ | refine bel_alloc ?_ _ | refine bel_drewN ?_ _ | refine bel_drew ?_ | refine bel_set ?_ (by first | (simp; done) | omega | (simp; omega)) _ | refine bel_trans ?_ (by assumption)))
  clear hmk
  refine (put_any w.heap.size _ [] 19613 2 2 _ rfl (by omega) (by omega) HO0.out (by simp) (by simp)).mono ?_
  rintro e w2 ⟨v2, rfl, ho2, hg2⟩
  have HB2 : Below w.heap.size w w2 := hg2.bel HB0 HO0.out
  have HO2 := Lib.hid ho2
  clear ho2 hg2 HO0 HB0
  go_wp2_with (first
    | (at_builtin; refine wpList_append_sl _ rfl (.tmp 15) (.tmp 21) 23 rfl elt_B w.heap.size (IE .u8) _ _ rfl (HO2.out.alloc _) _ _ _ _ rfl rfl (sl_lit _ _ [_, _] _ _ _ (by simp) rfl) (fun _ _ => rfl) (by simp [le_length, maxLen]) (by simp [le_length]) (by have := HB2.size; simp; omega) ?_; intro v3 w3 hown3 hgrow3; have HO3 := Lib.hid hown3; have HB3 : Below w.heap.size w w3 := hgrow3.bel (bel_alloc HB2 _) (HO2.out.alloc _); clear hown3 hgrow3)
    | (at_builtin; refine wpList_append_sl _ rfl (.tmp 23) (.tmp 24) 23 rfl elt_B w.heap.size (IE .u8) _ _ rfl HO3.out _ _ _ L rfl HM.out (H.out.below HB3) (fun _ _ => rfl) (by have := HM.out; simp [le_length, maxLen]; omega) (by have := HM.out; simp [le_length]; omega) (by have := HB3.size; omega) ?_; intro v4 w4 hown4 hgrow4; have HO4 := Lib.hid hown4; have HB4 : Below w.heap.size w w4 := hgrow4.bel HB3 HO3.out; clear hown4 hgrow4)
    | (at_builtin; refine wpList_append_zeros _ rfl (.tmp 26) (.tmp 29) 23 3 rfl elt_B.ht .i64 Tryz.underlying3 (.int .u8 0) zero_B rfl w.heap.size (IE .u8) 0 (fun _ => rfl) _ _ rfl HO4.out .i64 (120 - m) _ rfl (by omega) (by have := HM.out; simp [le_length, maxLen]; omega) (by have := HM.out; simp [le_length]; omega) (by have := HB4.size; omega) ?_; intro v5 w5 hown5 hgrow5; have HB5 : Below w.heap.size w w5 := hgrow5.bel HB4 HO4.out; have HO5 : Hid (OB w5 w.heap.size v5 (pg k L)) := Lib.hid (OB.of_eq hown5 (by unfold pg; rw [← HM.out]; rfl)); clear hown5 hgrow5; obtain ⟨A5, c5, rfl, hs5, _⟩ := HO5.out.sl 124 (pg_length (by have := HM.out; omega)); have HS5 := Lib.hid hs5; clear hs5))
  have HPB := Lib.hid (pg_isB (k := k) (by omega) (by have := HM.out; omega) hB)
  have hq := crcV_lt (pg k L)
  refine (of_any _ _ A5 124 c5 (pg k L) _ (by simp) (by rw [pg_length (by have := HM.out; omega)]) (by omega) (by exact Sl.alloc HS5.out _) HPB.out).mono ?_
  rintro e w6 ⟨rfl, hb6⟩
  have HB6 : Below w.heap.size w w6 := bel_trans (bel_alloc HB5 _) hb6
  have HO6 := Lib.hid ((OwnL.alloc HO5.out _).below hb6)
  have HP : Hid (page k L = pg k L ++ le (crcV (pg k L) : Nat) 4) := Lib.hid rfl
  clear hb6 HO5
  generalize crcV (pg k L) = q at *
  go_wp2_with fail
  refine (put_any w.heap.size _ (pg k L) (q : Int) 4 4 _ rfl (by omega) (by omega) (by exact HO6.out) (by have := pg_length (k := k) (L := L) (by have := HM.out; omega); omega) (by have := HB6.size; omega)).mono ?_
  rintro e w7 ⟨v7, rfl, ho7, hg7⟩
  have HB7 : Below w.heap.size w w7 := hg7.bel HB6 HO6.out
  have HO7 := Lib.hid ho7
  clear ho7 hg7
  go_wp2
  go_ret2
  exact ⟨_, rfl, HO7.out.of_eq HP.out.symm, HB7⟩
end Go.Proofs.YtaghmffgoomebaaGreat.Page
namespace Go.Proofs.YtaghmffgoomebaaGreat.Page
open Go.RowKit Mem Bytes Fix Crc
set_option linter.unusedVariables false
set_option linter.unusedSimpArgs false
/-- The bytes of a page whose fourth byte is n. -/
def body (L : List Int) (n : Nat) : List Int := (L.drop 4).take n
/-- A slice that is new. -/
def NewA (w : World) (A : Option Addr) (c : Nat) : Prop := (∀ a, A = some a → w.heap.size ≤ a.block) ∧ c ≤ maxLen
/-- What a reader of pages ends with. -/
def GetRes (w w' : World) (e : Ending) (r : Int × List Int × Int) : Prop := ∃ A n c, n = r.2.1.length ∧ e = .returned (.tuple #[.int .i64 r.1, .slice A n c, .int .i64 r.2.2]) ∧ BS w' A r.2.1 ∧ n ≤ c ∧ (A = none → c = 0) ∧ Below w.heap.size w w' ∧ NewA w A c
theorem GetRes.nil {w w' : World} {e : Ending} {k code : Int} (h : e = .returned (.tuple #[.int .i64 k, .slice none 0 0, .int .i64 code]) ∧ Below w.heap.size w w') : GetRes w w' e (k, [], code) :=
  ⟨none, 0, 0, rfl, h.1, Sl.nil, Nat.le_refl _, fun _ => rfl, h.2, fun a ha => (by cases ha), Nat.zero_le _⟩
end Go.Proofs.YtaghmffgoomebaaGreat.Page
