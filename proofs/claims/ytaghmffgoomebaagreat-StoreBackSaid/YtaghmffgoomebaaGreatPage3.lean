/- Numbers as bytes: fix.Put, fix.Get and the reference's. fix.Reader: what a reader holds, and what its calls do. The program's sum: turn, Add, Of. Pages: what they are; page.Put and the reference's. Pages, read: what a sector is (plain), page.Get. -/
import Derived.Test.YtaghmffgoomebaaGreatCrcLaw
import Derived.Laws.BitsAll
import Derived.Deep.WholeRow
import Derived.Laws.Rows
import Derived.Laws.Tables
import Derived.StillTailTactics
import Derived.Deep.LoopGhost
import Derived.Test.YtaghmffgoomebaaGreatRegion
import Derived.Deep.RegionHeld3
import Derived.Deep.RegionLaw
set_option linter.unusedVariables false
set_option linter.unusedSimpArgs false
namespace Go.Proofs.YtaghmffgoomebaaGreat.Fix
open Go.RowKit Mem Bytes
theorem zfm : Elt Tryz.prog 23 5 1 1 := Elt.mk' (z := .int .u8 0) Tryz.underlying23 (by kernel_rfl) rfl (by decide)
def OB (w : World) (base : Nat) (v : Value) (L : List Int) : Prop := OwnL w base 5 1 v (IE .u8) L
theorem OB.of_eq {w : World} {base : Nat} {v : Value} {L M : List Int} (h : OB w base v L) (e : L = M) : OB w base v M := e ▸ h
def BS (w : World) (A : Option Addr) (L : List Int) : Prop := Sl w A 1 (IE .u8) L
theorem pow256 (i : Nat) : (2 : Int) ^ (8 * i) = 256 ^ i := by rw [Int.pow_mul]; rfl
theorem zno (n x : Int) (k : Nat) (hk : k < 8) (h0 : 0 ≤ n) (h1 : n < 256 ^ k) (x0 : 0 ≤ x) (x1 : x ≤ 255) : bits .or .u64 n (IntKind.u64.wrap (x * 2 ^ (8 * k))) = n + x * 256 ^ k := by
 rw [pow256]
 have hp := zb9 k
 have h8 : (256 : Int) ^ 8 = 18446744073709551616 := by decide
 have hle : (256 : Int) ^ k * 256 ≤ 18446744073709551616 := by
  rw [← Int.pow_succ, ← h8, zeD (k + 1) 8 (by omega)]
  have h2 := zb9 (8 - (k + 1))
  have h3 := zb9 (k + 1)
  have := Int.mul_le_mul_of_nonneg_left (show (1 : Int) ≤ 256 ^ (8 - (k + 1)) by omega) (show (0 : Int) ≤ 256 ^ (k + 1) by omega)
  omega
 have hx : x * 256 ^ k ≤ 255 * 256 ^ k := Int.mul_le_mul_of_nonneg_right x1 (Int.le_of_lt hp)
 have hx' : 0 ≤ x * 256 ^ k := Int.mul_nonneg x0 (Int.le_of_lt hp)
 generalize hy : x * 256 ^ k = y at *
 have hw : IntKind.u64.wrap y = y := by
  rw [IntKind.wrap_u64, Int.emod_eq_of_lt hx' (by omega)]
 rw [hw, u64_or n y h0 (by omega) hx' (by omega), Nat.or_comm]
 have hdiv : y.toNat % 2 ^ (8 * k) = 0 := by
  have e1 : y = ((x.toNat * 2 ^ (8 * k) : Nat) : Int) := by
   rw [← hy, ← pow256]
   simp only [Int.natCast_mul, Int.natCast_pow]
   rw [Int.toNat_of_nonneg x0]; rfl
  rw [e1, Int.toNat_natCast, Nat.mul_mod_left]
 have hlt : n.toNat < 2 ^ (8 * k) := by
  have : (n.toNat : Int) < ((2 ^ (8 * k) : Nat) : Int) := by
   rw [Int.toNat_of_nonneg h0, Int.natCast_pow]
   show n < (2 : Int) ^ (8 * k)
   rw [pow256]; exact h1
  exact Int.ofNat_lt.1 this
 rw [nat_join (8 * k) y.toNat n.toNat hdiv hlt]
 simp only [Int.natCast_add]
 rw [Int.toNat_of_nonneg h0, Int.toNat_of_nonneg hx', Int.add_comm]
set_option maxRecDepth 100000 in
set_option maxHeartbeats 1000000 in
theorem zdb (base : Nat) (v : Value) (L : List Int) (n s : Int) (k : Nat) (w : World) (hs : s = k) (hk : k ≤ 8) (hn : 0 ≤ n) (h : OB w base v L) (hL : L.length ≤ 100000) (hbase : base ≤ w.heap.size) :
 Calls Tryz.prog 100 #[v, .int .u64 n, .int .i64 s] w fun e w' => ∃ v', e = .returned v' ∧ OB w' base v' (L ++ le n k) ∧ Grew w w' v v' := by
 subst hs
 have H := Lib.hid h
 clear h
 have hL8 : ∀ i, i ≤ 8 → (L ++ le n i).length ≤ 100008 := fun i hi => by rw [List.length_append, zaL]; omega
 have HL := Lib.hid hL8
 clear hL8
 go_enter Tryz.func100, Tryz.ntmps100
 go_wp2
 go_loopw [0, 10] (fun u i wr => ∃ j : Nat, j ≤ k ∧ i = .int .i64 j ∧ OB wr base u (L ++ le n j) ∧ Grew w wr v u) (fun _ i _ => k - (intOf i).toNat)
 case atStart => exact ⟨0, Nat.zero_le _, rfl, (H.out).of_eq (by rw [le_zero, List.append_nil]), Grew.refl _ _⟩
 case round =>
  obtain ⟨j, hj, rfl, ho, hg⟩ := hrel
  have HO := Lib.hid ho
  have HG := Lib.hid hg
  have hb2 : base ≤ wr.heap.size := Nat.le_trans hbase hg.1.size
  clear ho hg
  by_cases hlt : j < k
  ·go_wp2_with (at_builtin; refine zbP _ rfl _ _ 23 rfl zfm base (IE .u8) _ _ rfl (HO.out.alloc _) _ _ _ _ rfl rfl (sl_one _ _ _ _ _ _ (by simp) rfl) (fun _ _ => rfl) (by have := HL.out j (by omega); simp only [List.length_singleton]; unfold maxLen; omega) (by have := HL.out j (by omega); simp only [List.length_singleton]; omega) (by simp; omega) ?_; intro v1 w1 hown1 hgrow1; have HO1 := Lib.hid hown1; have HG1 := Lib.hid (HG.out.trans (hgrow1.zkn (zaF (Below.refl _ _) _))); clear hown1 hgrow1)
   go_roundw
   case rel =>
    refine ⟨j + 1, by omega, by go_num, HO1.out.of_eq ?_, HG1.out⟩
    rw [List.append_assoc, zpy, pow256]
   case measure => simp [intOf]; omega
  ·obtain rfl : j = k := by omega
   go_wp2
   go_ret
   exact ⟨_, rfl, HO.out, HG.out⟩
set_option maxRecDepth 100000 in
set_option maxHeartbeats 1000000 in
theorem zgu (A : Option Addr) (m c : Nat) (L : List Int) (w : World) (hm : m = L.length) (hc : m ≤ c) (hA : A = none → c = 0) (h : BS w A L) (hB : IsB L) (hl : m ≤ 8) :
 Calls Tryz.prog 107 #[.slice A m c] w fun e w' => e = .returned (.int .u64 (num L)) ∧ Below w.heap.size w w' := by
 have H := Lib.hid h
 clear h
 have HM := Lib.hid hm
 clear hm
 go_enter Tryz.func107, Tryz.ntmps107
 go_wp2
 go_loopw [3, 12] (fun n i wr => ∃ k : Nat, k ≤ m ∧ i = .int .i64 k ∧ n = .int .u64 (num (L.take k)) ∧ wr = w) (fun _ i _ => m - (intOf i).toNat)
 case atStart => exact ⟨0, Nat.zero_le _, rfl, rfl, rfl⟩
 case round =>
  obtain ⟨k, hk, rfl, rfl, rfl⟩ := hrel
  by_cases hlt : k < m
  ·obtain ⟨b, off, x, rfl, hx, ht, hmem, g1, gb⟩ := Sl.at1 H.out k (by have := HM.out; omega)
   simp only [IE] at g1
   have hb := hB x hmem
   have hx0 : 0 ≤ x := hb.1
   have hx1 : x ≤ 255 := hb.2
   have HX := Lib.hid (zf9 hx)
   have hn0 := (zca (hB.take k)).1
   have hn9 : num (L.take k) < 256 ^ k := by have := (zca (hB.take k)).2; rwa [List.length_take, Nat.min_eq_left (by have := HM.out; omega)] at this
   clear hx ht hmem hb
   have HN9 := Lib.hid hn9
   clear hn9
   generalize num (L.take k) = n at *
   go_wp2
   go_roundw
   case rel =>
    refine ⟨k + 1, by omega, by go_num, ?_, ?_⟩
    ·rw [HX.out, zno n x k (by omega) hn0 HN9.out hx0 hx1]
    ·trivial
   case measure => simp [intOf]; omega
  ·obtain rfl : k = m := by omega
   go_wp2
   go_ret
   exact ⟨by rw [List.take_of_length_le (by have := HM.out; omega)]; rfl, (by repeat (first | assumption | exact Below.refl _ _ | refine zaF ?_ _ | refine zbf ?_ _ | refine zbj ?_ | refine zb5 ?_ (by first | (simp; done) | omega | (simp; omega)) _ | refine za0 ?_ (by assumption)))⟩
set_option maxRecDepth 100000 in
set_option maxHeartbeats 1000000 in
theorem ziL (A : Option Addr) (m c : Nat) (L : List Int) (w : World) (hm : m = L.length) (h : BS w A L) (hB : IsB L) (hl : m ≤ 8) :
 Calls Tryz.prog 66 #[.slice A m c] w fun e w' => e = .returned (.int .u64 (num L)) ∧ Below w.heap.size w w' := by
 have H := Lib.hid h
 clear h
 have HM := Lib.hid hm
 clear hm
 go_enter Tryz.func66, Tryz.ntmps66
 go_wp2
 go_loopw [3, 4] (fun n i wr => ∃ k : Nat, k ≤ m ∧ i = .int .i64 ((k : Int) - 1) ∧ n = .int .u64 (num (L.drop k)) ∧ wr = w) (fun _ i _ => (intOf i + 1).toNat)
 case atStart => exact ⟨m, Nat.le_refl _, rfl, by rw [List.drop_of_length_le (by have := HM.out; omega)]; rfl, rfl⟩
 case round =>
  obtain ⟨k, hk, rfl, rfl, rfl⟩ := hrel
  rcases k with _ | k
  ·go_wp2
   go_ret
   exact ⟨by rw [List.drop_zero]; rfl, (by repeat (first | assumption | exact Below.refl _ _ | refine zaF ?_ _ | refine zbf ?_ _ | refine zbj ?_ | refine zb5 ?_ (by first | (simp; done) | omega | (simp; omega)) _ | refine za0 ?_ (by assumption)))⟩
  ·have e1 : ((k + 1 : Nat) : Int) - 1 = (k : Int) := by omega
   rw [e1]
   have hlt : k < m := by omega
   obtain ⟨b, off, x, rfl, hx, ht, hmem, g1, gb⟩ := Sl.at1 H.out k (by have := HM.out; omega)
   simp only [IE] at g1
   have hb := hB x hmem
   have hx0 : 0 ≤ x := hb.1
   have hx1 : x ≤ 255 := hb.2
   have hd := znv hx
   have hn0 := (zca (hB.drop (k + 1))).1
   have hn1 : num (L.drop k) < 18446744073709551616 := zpn (hB.drop k) (by rw [List.length_drop]; have := HM.out; omega)
   have hn2 : num (L.drop (k + 1)) * 256 + x ≤ 18446744073709551615 := by omega
   have HX := Lib.hid hd
   clear hx ht hmem hb hn1 hd
   generalize num (L.drop (k + 1)) = n at *
   go_wp2
   go_roundw
   case rel =>
    refine ⟨k, by omega, by go_num, ?_, ?_⟩
    ·rw [HX.out, show n * 256 + x = x + 256 * n by omega]
    ·trivial
   case measure => simp [intOf]
end Go.Proofs.YtaghmffgoomebaaGreat.Fix
namespace Go.Proofs.YtaghmffgoomebaaGreat.Reader
open Go.RowKit Mem Bytes Fix
def Rd (w : World) (g : Nat) (L : List Int) (bad : Bool) : Prop :=
 ∃ A c, Blk w g #[.slice A L.length c, .bool bad] 201 ∧ BS w A L ∧ L.length ≤ c ∧ (A = none → c = 0) ∧ (0 < L.length → ∀ a, A = some a → a.block ≠ g)
theorem Rd.lt {w : World} {g : Nat} {L : List Int} {bad : Bool} (h : Rd w g L bad) : g < w.heap.size := by
 obtain ⟨A, c, h1, _⟩ := h; exact h1.lt
theorem Rd.below {w w' : World} {g : Nat} {L : List Int} {bad : Bool} (h : Rd w g L bad) (hb : Below w.heap.size w w') : Rd w' g L bad := by
 obtain ⟨A, c, h1, h2, h3, h4, h5⟩ := h
 exact ⟨A, c, h1.below hb, Sl.below h2 hb, h3, h4, h5⟩
def tk (L : List Int) (k : Nat) : List Int := if k ≤ L.length then L.take k else []
def rs (L : List Int) (k : Nat) : List Int := if k ≤ L.length then L.drop k else []
def rb (L : List Int) (bad : Bool) (k : Nat) : Bool := if k ≤ L.length then bad else true
theorem zew {L : List Int} (h : IsB L) (k : Nat) : IsB (tk L k) := by
 unfold tk; split
 ·exact h.take k
 ·exact IsB.nil
theorem rs_isB {L : List Int} (h : IsB L) (k : Nat) : IsB (rs L k) := by
 unfold rs; split
 ·exact h.drop k
 ·exact IsB.nil
theorem zov (L : List Int) (k : Nat) : (tk L k).length ≤ k := by
 unfold tk; split
 ·rw [List.length_take]; omega
 ·simp
theorem rs_len (L : List Int) (k : Nat) : (rs L k).length ≤ L.length := by
 unfold rs; split
 ·rw [List.length_drop]; omega
 ·simp
theorem zgO {L : List Int} (h : IsB L) (k : Nat) (m : Int) (hk : k ≤ 8) (hm : (256 : Int) ^ k = m) : num (tk L k) < m := by
 have h1 := (zca (zew h k)).2
 have h2 : (256 : Int) ^ (tk L k).length ≤ 256 ^ k := by
  have hl := zov L k
  rw [zeD _ k hl]
  have h3 := zb9 (k - (tk L k).length)
  have h4 := zb9 (tk L k).length
  have := Int.mul_le_mul_of_nonneg_left (show (1 : Int) ≤ 256 ^ (k - (tk L k).length) by omega) (show (0 : Int) ≤ 256 ^ (tk L k).length by omega)
  omega
 omega
set_option maxRecDepth 100000 in
set_option maxHeartbeats 1000000 in
theorem zmi (g : Nat) (L : List Int) (bad : Bool) (w : World) (hL : L.length ≤ 100000) (h : Rd w g L bad) :
 Calls Tryz.prog 83 #[.pointer (some ⟨g, 0, none⟩)] w fun e w' => e = .returned (.int .i64 (if bad = true then 20 else if 0 < L.length then 21 else 0)) ∧ w = w' := by
 obtain ⟨A, c, hB, hS, hc, hA, hne⟩ := h
 obtain ⟨kc, kf, kz⟩ := hB.facts
 clear hB hS hA hne
 rcases bad with _ | _
 ·by_cases h0 : 0 < L.length
  ·rw [if_neg (by simp), if_pos h0]
   go_enter Tryz.func83, Tryz.ntmps83
   go_wp2
   go_ret
   exact ⟨rfl, rfl⟩
  ·rw [if_neg (by simp), if_neg h0]
   have h0' : ¬ (0 : Int) < (L.length : Int) := by omega
   go_enter Tryz.func83, Tryz.ntmps83
   go_wp2
   go_ret
   exact ⟨rfl, rfl⟩
 ·rw [if_pos rfl]
  go_enter Tryz.func83, Tryz.ntmps83
  go_wp2
  go_ret
  exact ⟨rfl, rfl⟩
end Go.Proofs.YtaghmffgoomebaaGreat.Reader
namespace Go.Proofs.YtaghmffgoomebaaGreat.Crc
open Go.RowKit Mem Bytes Fix
theorem and_one (s : Nat) (h : s < 4294967296) : bits .and .u32 (s : Int) 1 = ((s % 2 : Nat) : Int) := by
 have := u32_and_nat s 1 h (by omega)
 rw [nat_mask1] at this
 exact this
theorem sh_odd (s : Nat) (h : s < 4294967296) (ho : s % 2 = 1) : bits .xor .u32 ((s : Int) / 2) 3988292384 = ((sh s : Nat) : Int) := by
 have := u32_xor_nat (s / 2) poly (by omega) zpj
 unfold sh
 rw [if_pos ho, ← this]
 rfl
theorem zpb (s : Nat) (ho : s % 2 = 0) : (s : Int) / 2 = ((sh s : Nat) : Int) := by
 unfold sh
 rw [if_neg (by omega)]
 rfl
set_option maxRecDepth 100000 in
set_option maxHeartbeats 1000000 in
theorem zmY (n c : Nat) (x : Int) (w : World) (hx : x = c) (hn : n < 4294967296) (hc : c < 256) :
 Calls Tryz.prog 138 #[.int .u32 n, .int .u8 x] w fun e w' => e = .returned (.int .u32 (turnN n c : Nat)) ∧ w = w' := by
 subst hx
 have hxor := u32_xor_nat n c hn (by omega)
 have hlt := zfJ hn (show c < 4294967296 by omega)
 have HT := Lib.hid (show turnN n c = shs 8 (n ^^^ c) from rfl)
 generalize n ^^^ c = s0 at *
 go_enter Tryz.func138, Tryz.ntmps138
 go_wp2
 clear hxor
 go_loopw [0, 9] (fun n i wr => ∃ k : Nat, k ≤ 8 ∧ i = .int .i64 k ∧ n = .int .u32 (shs k s0 : Nat) ∧ wr = w) (fun _ i _ => 8 - (intOf i).toNat)
 case atStart => exact ⟨0, Nat.zero_le _, rfl, rfl, rfl⟩
 case round =>
  obtain ⟨k, hk, rfl, rfl, rfl⟩ := hrel
  have hs := zoA (k := k) hlt
  have HS := Lib.hid (show shs (k + 1) s0 = sh (shs k s0) from rfl)
  by_cases hlt8 : k < 8
  ·generalize shs k s0 = s at *
   rcases Nat.mod_two_eq_zero_or_one s with h2 | h2
   ·have ha := and_one s hs
    rw [h2] at ha
    have hb := zpb s h2
    have HH2 := Lib.hid h2
    clear h2
    go_wp2
    go_roundw
    case rel => exact ⟨k + 1, by omega, by go_num, by rw [HS.out], trivial⟩
    case measure => simp [intOf]; omega
   ·have ha := and_one s hs
    rw [h2] at ha
    have hb := sh_odd s hs h2
    have HH2 := Lib.hid h2
    clear h2
    go_wp2
    go_roundw
    case rel => exact ⟨k + 1, by omega, by go_num, by rw [HS.out], trivial⟩
    case measure => simp [intOf]; omega
  ·obtain rfl : k = 8 := by omega
   go_wp2
   go_ret
   exact ⟨by rw [HT.out]; rfl, rfl⟩
def nats (L : List Int) : List Nat := L.map Int.toNat
theorem zpr {L : List Int} (h : IsB L) : ∀ c ∈ nats L, c < 256 := by
 intro c hc
 simp only [nats, List.mem_map] at hc
 obtain ⟨x, hx, rfl⟩ := hc
 have := h x hx
 omega
theorem zof (n i : Nat) (h : n < 4294967296) : (4294967295 - n).testBit i = (decide (i < 32) && !n.testBit i) := by
 have := Nat.testBit_two_pow_sub_succ (n := 32) (x := n) h i
 rw [← this, show 2 ^ 32 - (n + 1) = 4294967295 - n by omega]
theorem znq (i : Nat) : (4294967295 : Nat).testBit i = decide (i < 32) := by
 have := Nat.testBit_two_pow_sub_one 32 i
 rw [← this]
theorem zoe (n : Nat) (h : n < 4294967296) : (4294967295 : Nat) ^^^ n = 4294967295 - n := by
 apply Nat.eq_of_testBit_eq
 intro i
 rw [Nat.testBit_xor, zof n i h, znq]
 by_cases hi : i < 32
 ·simp [hi]
 ·have : n.testBit i = false := Nat.testBit_lt_two_pow (Nat.lt_of_lt_of_le h (Nat.pow_le_pow_right (n := 2) (i := 32) (by omega) (by omega)))
  simp [hi, this]
theorem not32 (n : Nat) (h : n < 4294967296) : bits .xor .u32 IntKind.u32.max (n : Int) = ((4294967295 - n : Nat) : Int) := by
 have h1 := u32_xor_nat 4294967295 n (by omega) h
 rw [zoe n h] at h1
 exact h1
set_option maxRecDepth 100000 in
set_option maxHeartbeats 1000000 in
theorem zqc (g n : Nat) (A : Option Addr) (m c : Nat) (L : List Int) (w : World) (hg : w.cell? ⟨g, 0, none⟩ = some (.int .u32 n)) (hf : w.frozen? ⟨g, 0, none⟩ = false) (hn : n < 4294967296) (hm : m = L.length) (hm9 : m ≤ 9223372036854775807) (h : BS w A L) (hB : IsB L) :
 Calls Tryz.prog 127 #[.pointer (some ⟨g, 0, none⟩), .slice A m c] w fun e w' => e = .returned (.tuple #[]) ∧ w' = w.setCell ⟨g, 0, none⟩ (.int .u32 ((4294967295 - crcL (4294967295 - n) (nats L) : Nat) : Int)) := by
 have H := Lib.hid h
 clear h
 have HM := Lib.hid hm
 clear hm
 have hnot := not32 n hn
 have h2 : 4294967295 - n < 4294967296 := by omega
 have HL := Lib.hid (fun k => zp5 (l := (nats L).take k) h2 (fun x hx => zpr hB x (List.mem_of_mem_take hx)))
 generalize 4294967295 - n = s0 at *
 go_enter Tryz.func127, Tryz.ntmps127
 go_wp2
 clear hnot
 go_loopw [4, 14] (fun n i wr => ∃ k : Nat, k ≤ m ∧ i = .int .i64 k ∧ n = .int .u32 (crcL s0 ((nats L).take k) : Nat) ∧ wr = w) (fun _ i _ => m - (intOf i).toNat)
 case atStart => exact ⟨0, Nat.zero_le _, rfl, by rw [List.take_zero, zjA], rfl⟩
 case round =>
  obtain ⟨k, hk, rfl, rfl, rfl⟩ := hrel
  by_cases hlt : k < m
  ·obtain ⟨b, off, x, rfl, hx, ht, hmem, g1, gb⟩ := Sl.at1 H.out k (by have := HM.out; omega)
   simp only [IE] at g1
   have hb := hB x hmem
   have hx0 : 0 ≤ x := hb.1
   have hx1 : x ≤ 255 := hb.2
   have HS : Hid (crcL s0 ((nats L).take (k + 1)) = turnN (crcL s0 ((nats L).take k)) x.toNat) := Lib.hid (by
    rw [← zmv]; congr 1
    unfold nats
    rw [← List.map_take, ht, List.map_append, ← List.map_take]; rfl)
   have hl1 := HL.out k
   clear hx ht hmem hb
   generalize crcL s0 ((nats L).take k) = q at *
   go_wp2_with (go_at_call 138; refine (zmY q x.toNat x _ (by omega) hl1 (by omega)).mono ?_; rintro e w' ⟨rfl, rfl⟩)
   go_roundw
   case rel => exact ⟨k + 1, by omega, by go_num, by rw [HS.out], trivial⟩
   case measure => simp [intOf]; omega
  ·obtain rfl : k = m := by omega
   have hl1 := HL.out k
   have e1 : (nats L).take k = nats L := List.take_of_length_le (by unfold nats; rw [List.length_map]; have := HM.out; omega)
   rw [e1] at hl1
   rw [e1]
   clear e1
   generalize hq : crcL s0 (nats L) = q at *
   have HQ := Lib.hid hq
   clear hq
   have hnot2 := not32 q hl1
   go_wp2
   go_end0
   exact ⟨rfl, by rw [HQ.out]⟩
theorem zku (g : Nat) (n : Int) (w : World) (hg : w.cell? ⟨g, 0, none⟩ = some (.int .u32 n)) :
 Calls Tryz.prog 128 #[.pointer (some ⟨g, 0, none⟩)] w fun e w' => e = .returned (.int .u32 n) ∧ w = w' := by
 go_enter Tryz.func128, Tryz.ntmps128
 go_wp2
 go_ret
 exact ⟨rfl, rfl⟩
def crcV (L : List Int) : Nat := 4294967295 - crcL 4294967295 (nats L)
set_option maxRecDepth 100000 in
set_option maxHeartbeats 1000000 in
theorem zla (p cp : Nat) (A : Option Addr) (m c : Nat) (L : List Int) (w : World) (hp : w.cell? ⟨p, 0, none⟩ = some (.slice A m c)) (hm : m = L.length) (hm9 : m ≤ 9223372036854775807) (h : BS w A L) (hB : IsB L) :
 Calls Tryz.prog 109 #[.slice (some ⟨p, 0, none⟩) 1 cp] w fun e w' => e = .returned (.int .u32 ((crcV L : Nat) : Int)) ∧ Below w.heap.size w w' := by
 have H := Lib.hid h
 clear h
 have HM := Lib.hid hm
 clear hm
 have hpb : p < w.heap.size := lt_of_cell hp
 go_enter Tryz.func109, Tryz.ntmps109
 go_wp2
 refine wp_loop_rounds 2 ?_; rw [rounds_succ]
 go_wp2_with fail
 refine (zqc w.heap.size 0 A m c L _ (by simp) (by simp) (by omega) HM.out hm9 (by exact H.out.alloc _) hB).mono ?_
 rintro e w1 ⟨rfl, rfl⟩
 go_wp2
 rw [rounds_succ]
 go_wp2_with (go_at_call 128; refine (zku _ _ _ (by simp; rfl)).mono ?_; rintro e w' ⟨rfl, rfl⟩)
 go_ret
 exact ⟨rfl, (by repeat (first | assumption | exact Below.refl _ _ | refine zaF ?_ _ | refine zbf ?_ _ | refine zbj ?_ | refine zb5 ?_ (by first | (simp; done) | omega | (simp; omega)) _ | refine za0 ?_ (by assumption)))⟩
end Go.Proofs.YtaghmffgoomebaaGreat.Crc
namespace Go.Proofs.YtaghmffgoomebaaGreat.Page
open Go.RowKit Mem Bytes Fix Crc
def pg (k : Int) (L : List Int) : List Int := [157, 76, k, (L.length : Int)] ++ L ++ List.replicate (120 - L.length) 0
def page (k : Int) (L : List Int) : List Int := pg k L ++ le (crcV (pg k L) : Nat) 4
theorem zcg {k : Int} {L : List Int} (h : L.length ≤ 120) : (pg k L).length = 124 := by simp [pg]; omega
theorem zcv {k : Int} {L : List Int} (h : L.length ≤ 120) : (page k L).length = 128 := by simp [page, zcg h, zaL]
theorem zoE {k : Int} {L : List Int} (hk : 0 ≤ k ∧ k ≤ 255) (hL : L.length ≤ 120) (h : IsB L) : IsB (pg k L) :=
 ((IsB.cons (by omega) (IsB.cons (by omega) (IsB.cons hk (IsB.cons (by omega) IsB.nil)))).append h).append (IsB.replicate _)
theorem zf6 {k : Int} {L : List Int} (hk : 0 ≤ k ∧ k ≤ 255) (hL : L.length ≤ 120) (h : IsB L) : IsB (page k L) := (zoE hk hL h).append (zfv _ _)
theorem _root_.Go.Proofs.YtaghmffgoomebaaGreat.Fix.OB.sl {w : World} {base : Nat} {v : Value} {L : List Int} (h : OB w base v L) (n : Nat) (hn : L.length = n) :
 ∃ A c, v = .slice A n c ∧ BS w A L ∧ n ≤ c ∧ c ≤ maxLen ∧ (A = none → c = 0) ∧ (∀ a, A = some a → base ≤ a.block ∧ a.block < w.heap.size) := by
 subst hn; exact OwnL.sl h
theorem zil (L : List Int) : crcV L < 4294967296 := by unfold crcV; omega
theorem zjd (k : Int) (w : World) (h1 : 1 ≤ k) (h2 : k ≤ 6) : Calls Tryz.prog 108 #[.int .i64 k] w fun e w' => e = .returned (.bool true) ∧ w = w' := by
 have d1 : decide (1 ≤ k) = true := by simpa using h1
 go_enter Tryz.func108, Tryz.ntmps108
 go_wp2
 go_ret
 exact ⟨rfl, rfl⟩
theorem zpC (k : Int) (w : World) (h : k < 1 ∨ (1 ≤ k ∧ 6 < k)) : Calls Tryz.prog 108 #[.int .i64 k] w fun e w' => e = .returned (.bool false) ∧ w = w' := by
 rcases h with h | ⟨h1, h2⟩
 ·have d1 : decide (1 ≤ k) = false := by simpa using h
  go_enter Tryz.func108, Tryz.ntmps108
  go_wp2
  go_ret
  exact ⟨rfl, rfl⟩
 ·have d1 : decide (1 ≤ k) = true := by simpa using h1
  have d2 : decide (k ≤ 6) = false := by simpa using h2
  go_enter Tryz.func108, Tryz.ntmps108
  go_wp2
  go_ret
  exact ⟨rfl, rfl⟩
theorem zero_B : ∃ (i : TypeInfo) (z : Value), Tryz.prog.info? 5 = some i ∧ i.zero = some z ∧ i.size = 1 ∧ i.bytes = 1 ∧ z.cells = #[.int .u8 0] := by
 obtain ⟨i, h0, h1, h2, h3⟩ := info_parts (show (Tryz.prog.info? 5).map (fun i => (i.zero, i.size, i.bytes)) = some (some (.int .u8 0), 1, 1) by kernel_rfl)
 exact ⟨i, _, h0, h1, h2, h3, rfl⟩
theorem made (n : Nat) (hn : n ≤ 100000) : ∃ cs : Array Value, cs.size = n ∧ ∀ w, (Instr.makeSlice 23 (.int .i64 0) (.int .i64 (n : Int))).run Tryz.prog w = .ok (.slice (some ⟨w.heap.size, 0, none⟩) 0 n) (w.alloc (.cells cs 5)) := by
 obtain ⟨i, z, hi, hz, hs, hb, hzc⟩ := zfm.hi
 refine ⟨madeCells z.cells (n * i.size), by rw [size_madeCells, hs, Nat.mul_one], fun w => ?_⟩
 have := run_make (P := Tryz.prog) w 23 5 i z zfm.ht hi hz .i64 .i64 0 (n : Int) (by omega) (by omega) (by rw [hb]; omega) (by omega)
 simpa using this
set_option maxRecDepth 100000 in
set_option maxHeartbeats 1000000 in
theorem zoB (k : Int) (A : Option Addr) (m c : Nat) (L : List Int) (w : World) (h1 : 1 ≤ k) (h2 : k ≤ 6) (hm : m = L.length) (hm2 : m ≤ 120) (h : BS w A L) (hB : IsB L) :
 Calls Tryz.prog 102 #[.int .i64 k, .slice A m c] w fun e w' => ∃ v, e = .returned (.tuple #[v, .int .i64 0]) ∧ OB w' w.heap.size v (page k L) ∧ Below w.heap.size w w' := by
 have H := Lib.hid h
 clear h
 have HM := Lib.hid hm
 clear hm
 obtain ⟨cs, hcs, hmk⟩ := made 128 (by omega)
 have HCS := Lib.hid hcs
 clear hcs
 replace hmk : ∀ w, (Instr.makeSlice 23 (.int .i64 0) (.int .i64 128)).run Tryz.prog w = .ok (.slice (some ⟨w.heap.size, 0, none⟩) 0 128) (w.alloc (.cells cs 5)) := hmk
 go_enter Tryz.func102, Tryz.ntmps102
 go_wp2_with fail
 refine (zjd k _ h1 h2).mono ?_
 rintro e w' ⟨rfl, rfl⟩
 go_wp2_with fail
 have HO0 : Hid (OB (w.alloc (.cells cs 5)) w.heap.size (.slice (some ⟨w.heap.size, 0, none⟩) 0 128) []) := Lib.hid (OwnL.made _ rfl (Nat.le_refl _) (by unfold maxLen; omega) (by rw [HCS.out]))
 have HB0 : Below w.heap.size w (w.alloc (.cells cs 5)) := (by repeat (first | assumption | exact Below.refl _ _ | refine zaF ?_ _ | refine zbf ?_ _ | refine zbj ?_ | refine zb5 ?_ (by first | (simp; done) | omega | (simp; omega)) _ | refine za0 ?_ (by assumption)))
 clear hmk
 refine (zdb w.heap.size _ [] 19613 2 2 _ rfl (by omega) (by omega) HO0.out (by simp) (by simp)).mono ?_
 rintro e w2 ⟨v2, rfl, ho2, hg2⟩
 have HB2 : Below w.heap.size w w2 := hg2.bel HB0 HO0.out
 have HO2 := Lib.hid ho2
 clear ho2 hg2 HO0 HB0
 go_wp2_with (first
  | (at_builtin; refine zbP _ rfl (.tmp 15) (.tmp 21) 23 rfl zfm w.heap.size (IE .u8) _ _ rfl (HO2.out.alloc _) _ _ _ _ rfl rfl (sl_lit _ _ [_, _] _ _ _ (by simp) rfl) (fun _ _ => rfl) (by simp [zaL, maxLen]) (by simp [zaL]) (by have := HB2.size; simp; omega) ?_; intro v3 w3 hown3 hgrow3; have HO3 := Lib.hid hown3; have HB3 : Below w.heap.size w w3 := hgrow3.bel (zaF HB2 _) (HO2.out.alloc _); clear hown3 hgrow3)
  | (at_builtin; refine zbP _ rfl (.tmp 23) (.tmp 24) 23 rfl zfm w.heap.size (IE .u8) _ _ rfl HO3.out _ _ _ L rfl HM.out (H.out.below HB3) (fun _ _ => rfl) (by have := HM.out; simp [zaL, maxLen]; omega) (by have := HM.out; simp [zaL]; omega) (by have := HB3.size; omega) ?_; intro v4 w4 hown4 hgrow4; have HO4 := Lib.hid hown4; have HB4 : Below w.heap.size w w4 := hgrow4.bel HB3 HO3.out; clear hown4 hgrow4)
  | (at_builtin; refine zc6 _ rfl (.tmp 26) (.tmp 29) 23 3 rfl zfm.ht .i64 Tryz.underlying3 (.int .u8 0) zero_B rfl w.heap.size (IE .u8) 0 (fun _ => rfl) _ _ rfl HO4.out .i64 (120 - m) _ rfl (by omega) (by have := HM.out; simp [zaL, maxLen]; omega) (by have := HM.out; simp [zaL]; omega) (by have := HB4.size; omega) ?_; intro v5 w5 hown5 hgrow5; have HB5 : Below w.heap.size w w5 := hgrow5.bel HB4 HO4.out; have HO5 : Hid (OB w5 w.heap.size v5 (pg k L)) := Lib.hid (OB.of_eq hown5 (by unfold pg; rw [← HM.out]; rfl)); clear hown5 hgrow5; obtain ⟨A5, c5, rfl, hs5, _⟩ := HO5.out.sl 124 (zcg (by have := HM.out; omega)); have HS5 := Lib.hid hs5; clear hs5))
 have HPB := Lib.hid (zoE (k := k) (by omega) (by have := HM.out; omega) hB)
 have hq := zil (pg k L)
 refine (zla _ _ A5 124 c5 (pg k L) _ (by simp) (by rw [zcg (by have := HM.out; omega)]) (by omega) (by exact Sl.alloc HS5.out _) HPB.out).mono ?_
 rintro e w6 ⟨rfl, hb6⟩
 have HB6 : Below w.heap.size w w6 := za0 (zaF HB5 _) hb6
 have HO6 := Lib.hid ((OwnL.alloc HO5.out _).below hb6)
 have HP : Hid (page k L = pg k L ++ le (crcV (pg k L) : Nat) 4) := Lib.hid rfl
 clear hb6 HO5
 generalize crcV (pg k L) = q at *
 go_wp2_with fail
 refine (zdb w.heap.size _ (pg k L) (q : Int) 4 4 _ rfl (by omega) (by omega) (by exact HO6.out) (by have := zcg (k := k) (L := L) (by have := HM.out; omega); omega) (by have := HB6.size; omega)).mono ?_
 rintro e w7 ⟨v7, rfl, ho7, hg7⟩
 have HB7 : Below w.heap.size w w7 := hg7.bel HB6 HO6.out
 have HO7 := Lib.hid ho7
 clear ho7 hg7
 go_wp2
 go_ret2
 exact ⟨_, rfl, HO7.out.of_eq HP.out.symm, HB7⟩
end Go.Proofs.YtaghmffgoomebaaGreat.Page
namespace Go.Proofs.YtaghmffgoomebaaGreat.Page
open Go.RowKit Mem Bytes Fix Crc
def body (L : List Int) (n : Nat) : List Int := (L.drop 4).take n
def getS (L : List Int) : Int × List Int × Int :=
 if L.length ≠ 128 then (0, [], 12)
 else if ¬ (1 ≤ L.getD 2 0 ∧ L.getD 2 0 ≤ 6) ∨ 120 < L.getD 3 0 then (0, [], 21)
 else if L.take 124 ≠ pg (L.getD 2 0) (body L (L.getD 3 0).toNat) then (0, [], 21)
 else if L ≠ page (L.getD 2 0) (body L (L.getD 3 0).toNat) then (0, [], 22)
 else (L.getD 2 0, body L (L.getD 3 0).toNat, 0)
theorem zfa {L : List Int} {n : Nat} (h : L.length = 128) (hn : n ≤ 120) : (body L n).length = n := by
 unfold body; rw [List.length_take, List.length_drop]; omega
theorem zoj {L : List Int} {n : Nat} (h : IsB L) : IsB (body L n) := (h.drop 4).take n
theorem four {L : List Int} (h : L.length = 128) : L.take 4 = [L.getD 0 0, L.getD 1 0, L.getD 2 0, L.getD 3 0] := by
 rcases L with _ | ⟨a, _ | ⟨b, _ | ⟨c, _ | ⟨d, l⟩⟩⟩⟩
 all_goals first | rfl | (simp at h)
theorem head_eq {L : List Int} (h : L.length = 128) (hB : IsB L) {k n : Int} (hk : L.getD 2 0 = k) (hn : L.getD 3 0 = n) (hn2 : n ≤ 120) (hn0 : 0 ≤ n) :
 L.take 124 = pg k (body L n.toNat) ↔ num (L.take 2) = 19613 ∧ ∀ x ∈ (L.take 124).drop (4 + n.toNat), x = 0 := by
 have hbl := zfa h (show n.toNat ≤ 120 by omega)
 have e0 : L.take 124 = L.take 4 ++ (body L n.toNat ++ (L.take 124).drop (4 + n.toNat)) := by
  have h1 : L.take 124 = (L.take 124).take 4 ++ (L.take 124).drop 4 := (List.take_append_drop 4 _).symm
  have h2 : (L.take 124).drop 4 = ((L.take 124).drop 4).take n.toNat ++ ((L.take 124).drop 4).drop n.toNat := (List.take_append_drop n.toNat _).symm
  rw [List.take_take, Nat.min_eq_left (by omega)] at h1
  have h3 : ((L.take 124).drop 4).take n.toNat = body L n.toNat := by
   unfold body
   rw [List.drop_take, List.take_take, Nat.min_eq_left (by omega)]
  rw [h3, List.drop_drop] at h2
  rw [← h2]; exact h1
 have e1 : pg k (body L n.toNat) = [157, 76, k, n] ++ (body L n.toNat ++ List.replicate (120 - n.toNat) 0) := by
  unfold pg
  rw [hbl, List.append_assoc, Int.toNat_of_nonneg hn0]
 have hl : ((L.take 124).drop (4 + n.toNat)).length = 120 - n.toNat := by rw [List.length_drop, List.length_take]; omega
 have h2 : L.take 2 = [L.getD 0 0, L.getD 1 0] := by
  have := congrArg (List.take 2) (four h)
  rw [List.take_take] at this
  exact this
 have b0 : 0 ≤ L.getD 0 0 ∧ L.getD 0 0 ≤ 255 := hB _ (by rw [List.getD_eq_getElem?_getD, List.getElem?_eq_getElem (by omega)]; exact List.getElem_mem _)
 have b1 : 0 ≤ L.getD 1 0 ∧ L.getD 1 0 ≤ 255 := hB _ (by rw [List.getD_eq_getElem?_getD, List.getElem?_eq_getElem (by omega)]; exact List.getElem_mem _)
 have hnum : num (L.take 2) = L.getD 0 0 + 256 * L.getD 1 0 := by rw [h2]; simp [num]
 rw [e1, hnum]
 constructor
 ·intro he
  have h3 := e0.symm.trans he
  rw [four h, hk, hn] at h3
  have h4 := List.append_inj h3 rfl
  have h5 := List.append_inj h4.2 rfl
  refine ⟨?_, fun x hx => ?_⟩
  ·have := h4.1
   simp only [List.cons.injEq] at this
   rw [this.1, this.2.1]; omega
  ·rw [h5.2] at hx
   exact List.eq_of_mem_replicate hx
 ·rintro ⟨hm, hz⟩
  rw [e0, four h, hk, hn]
  have g0 : L.getD 0 0 = 157 := by omega
  have g1 : L.getD 1 0 = 76 := by omega
  rw [g0, g1]
  congr 2
  rw [← hl]
  exact List.eq_replicate_of_mem hz
theorem sum_eq {L : List Int} (h : L.length = 128) (hB : IsB L) {k : Int} {B : List Int} (h1 : L.take 124 = pg k B) :
 L = page k B ↔ num (L.drop 124) = (crcV (L.take 124) : Nat) := by
 have e : L = L.take 124 ++ L.drop 124 := (List.take_append_drop 124 L).symm
 have hd : (L.drop 124).length = 4 := by rw [List.length_drop]; omega
 have hlt := zil (pg k B)
 have hnl : num (le (crcV (pg k B) : Nat) 4) = (crcV (pg k B) : Nat) := by
  rw [zoH _ (by omega)]
  exact Int.emod_eq_of_lt (by omega) (by have : (256 : Int) ^ 4 = 4294967296 := by decide
                                         omega)
 unfold page
 constructor
 ·intro he
  rw [h1]
  have h2 : L.take 124 ++ L.drop 124 = pg k B ++ le (crcV (pg k B) : Nat) 4 := by rw [← e]; exact he
  rw [h1] at h2
  have h3 := List.append_cancel_left h2
  rw [h3, hnl]
 ·intro he
  rw [h1] at he
  conv => lhs; rw [e]
  rw [h1]
  congr 1
  refine zpo (hB.drop 124) (zfv _ _) (by rw [hd, zaL]) ?_
  rw [he, hnl]
theorem zdI {L : List Int} (h : L.length = 128) {k n : Int} (hk : L.getD 2 0 = k) (hn : L.getD 3 0 = n) (hx : ¬ (1 ≤ k ∧ k ≤ 6) ∨ 120 < n ∨ L.take 124 ≠ pg k (body L n.toNat)) : getS L = (0, [], 21) := by
 unfold getS
 rw [if_neg (by omega), hk, hn]
 by_cases h1 : ¬ (1 ≤ k ∧ k ≤ 6) ∨ 120 < n
 ·rw [if_pos h1]
 ·rw [if_neg h1, if_pos]
  rcases hx with h2 | h2 | h2
  ·exact absurd (.inl h2) h1
  ·exact absurd (.inr h2) h1
  ·exact h2
theorem znU {L : List Int} (h : L.length = 128) {k n : Int} (hk : L.getD 2 0 = k) (hn : L.getD 3 0 = n) (h1 : 1 ≤ k) (h2 : k ≤ 6) (h3 : n ≤ 120) (h4 : L.take 124 = pg k (body L n.toNat)) (h5 : L ≠ page k (body L n.toNat)) : getS L = (0, [], 22) := by
 unfold getS
 rw [if_neg (by omega), hk, hn, if_neg (by omega), if_neg (by simpa using h4), if_pos h5]
theorem zlZ {L : List Int} (h : L.length = 128) {k n : Int} (hk : L.getD 2 0 = k) (hn : L.getD 3 0 = n) (h1 : 1 ≤ k) (h2 : k ≤ 6) (h3 : n ≤ 120) (h4 : L.take 124 = pg k (body L n.toNat)) (h5 : L = page k (body L n.toNat)) : getS L = (k, body L n.toNat, 0) := by
 unfold getS
 rw [if_neg (by omega), hk, hn, if_neg (by omega), if_neg (by simpa using h4), if_neg (by simpa using h5)]
theorem zkz {w : World} {b off : Nat} {L : List Int} (h : BS w (some ⟨b, off, none⟩) L) (lo : Nat) (hlo : lo < L.length) : BS w (some ⟨b, off + lo, none⟩) (L.drop lo) := by
 obtain ⟨b', off', e, hs⟩ := Sl.drop h lo hlo
 injection e with e; injection e with e1 e2; subst e1; subst e2
 rw [Nat.mul_one] at hs
 exact hs
def NewA (w : World) (A : Option Addr) (c : Nat) : Prop := (∀ a, A = some a → w.heap.size ≤ a.block) ∧ c ≤ maxLen
def GetRes (w w' : World) (e : Ending) (r : Int × List Int × Int) : Prop := ∃ A n c, n = r.2.1.length ∧ e = .returned (.tuple #[.int .i64 r.1, .slice A n c, .int .i64 r.2.2]) ∧ BS w' A r.2.1 ∧ n ≤ c ∧ (A = none → c = 0) ∧ Below w.heap.size w w' ∧ NewA w A c
theorem GetRes.nil {w w' : World} {e : Ending} {k code : Int} (h : e = .returned (.tuple #[.int .i64 k, .slice none 0 0, .int .i64 code]) ∧ Below w.heap.size w w') : GetRes w w' e (k, [], code) :=
 ⟨none, 0, 0, rfl, h.1, Sl.nil, Nat.le_refl _, fun _ => rfl, h.2, fun a ha => (by cases ha), Nat.zero_le _⟩
theorem zmG {w : World} {A : Option Addr} {L : List Int} (h : BS w A L) (i : Nat) (hi : i < L.length) : ∃ b off, A = some ⟨b, off, none⟩ ∧ w.cell? ⟨b, off + i, none⟩ = some (.int .u8 (L.getD i 0)) ∧ b < w.heap.size := by
 obtain ⟨b, off, x, e, hx, _, _, hc, hb⟩ := Sl.at1 h i hi
 refine ⟨b, off, e, ?_, hb⟩
 rw [hc, List.getD_eq_getElem?_getD, hx]; rfl
set_option maxRecDepth 100000 in
set_option maxHeartbeats 1000000 in
theorem zlY (A : Option Addr) (m c : Nat) (w : World) (hm : m ≠ 128) : Calls Tryz.prog 78 #[.slice A m c] w fun e w' => e = .returned (.tuple #[.int .i64 0, .slice none 0 0, .int .i64 12]) ∧ Below w.heap.size w w' := by
 have d1 : ((m : Int) != 128) = true := by simp; omega
 have HM := Lib.hid hm
 clear hm
 go_enter Tryz.func78, Tryz.ntmps78
 go_wp2
 go_ret3
 exact ⟨rfl, (by repeat (first | assumption | exact Below.refl _ _ | refine zaF ?_ _ | refine zbf ?_ _ | refine zbj ?_ | refine zb5 ?_ (by first | (simp; done) | omega | (simp; omega)) _ | refine za0 ?_ (by assumption)))⟩
set_option maxRecDepth 100000 in
set_option maxHeartbeats 1000000 in
theorem zkc (b off c : Nat) (L : List Int) (w : World) (hm : L.length = 128) (hc : 128 ≤ c) (h : BS w (some ⟨b, off, none⟩) L) (hB : IsB L) :
 Calls Tryz.prog 78 #[.slice (some ⟨b, off, none⟩) 128 c] w fun e w' => GetRes w w' e (getS L) := by
 have H := Lib.hid h
 clear h
 have HM := Lib.hid hm
 clear hm
 obtain ⟨b', off', e1, g3, gb⟩ := zmG H.out 3 (by rw [HM.out]; omega)
 obtain ⟨rfl, rfl⟩ : b = b' ∧ off = off' := by injection e1 with e1; injection e1 with e1 e2; exact ⟨e1, e2⟩
 obtain ⟨b', off', e2, g2, _⟩ := zmG H.out 2 (by rw [HM.out]; omega)
 obtain ⟨rfl, rfl⟩ : b = b' ∧ off = off' := by injection e2 with e1; injection e1 with e1 e2; exact ⟨e1, e2⟩
 clear e1 e2
 have bk : 0 ≤ L.getD 2 0 ∧ L.getD 2 0 ≤ 255 := hB _ (by rw [List.getD_eq_getElem?_getD, List.getElem?_eq_getElem (by rw [HM.out]; omega)]; exact List.getElem_mem _)
 have bn : 0 ≤ L.getD 3 0 ∧ L.getD 3 0 ≤ 255 := hB _ (by rw [List.getD_eq_getElem?_getD, List.getElem?_eq_getElem (by rw [HM.out]; omega)]; exact List.getElem_mem _)
 have HT2 : Hid (BS w (some ⟨b, off, none⟩) (L.take 2)) := Lib.hid (Sl.take H.out 2)
 generalize hk : L.getD 2 0 = k at *
 generalize hn : L.getD 3 0 = n at *
 have HK := Lib.hid hk
 have HN := Lib.hid hn
 clear hk hn
 go_enter Tryz.func78, Tryz.ntmps78
 go_wp2_with fail
 refine (zgu _ 2 c (L.take 2) _ (by rw [List.length_take, HM.out]; rfl) (by omega) (fun h => by cases h) (by exact HT2.out) (hB.take 2) (by omega)).mono ?_
 rintro e w1 ⟨rfl, hb1⟩
 have g2' := zb0 hb1 _ _ g2
 have gb1 : b < w1.heap.size := Nat.lt_of_lt_of_le gb hb1.size
 have H1 := Lib.hid (Sl.below H.out hb1)
 have HNUM := Lib.hid (show num (L.take 2) = num (L.take 2) from rfl)
 clear g2 g3
 by_cases c1 : num (L.take 2) = 19613
 ·rw [c1]
  have HC1 := Lib.hid c1
  clear c1 HNUM
  by_cases c2 : 1 ≤ k ∧ k ≤ 6
  ·obtain ⟨k1, k2⟩ := c2
   go_wp2_with fail
   refine (zjd k _ k1 k2).mono ?_
   rintro e w' ⟨rfl, rfl⟩
   by_cases c3 : n ≤ 120
   ·obtain ⟨nn, rfl⟩ : ∃ nn : Nat, n = nn := ⟨n.toNat, by omega⟩
    have hnn : nn ≤ 120 := by omega
    have HH := Lib.hid (head_eq HM.out hB HK.out HN.out c3 (by omega))
    have dn : decide (120 < (nn : Int)) = false := by simp; omega
    have HZ : Hid (BS w1 (some ⟨b, off + (4 + nn), none⟩) ((L.take 124).drop (4 + nn))) := Lib.hid (by
     by_cases h120 : nn = 120
     ·have : (L.take 124).drop (4 + nn) = [] := by rw [List.drop_eq_nil_iff, List.length_take]; omega
      rw [this]; exact Sl.nil
     ·exact zkz (Sl.take H1.out 124) (4 + nn) (by rw [List.length_take, HM.out]; omega))
    have HZL : Hid (((L.take 124).drop (4 + nn)).length = 124 - (4 + nn)) := Lib.hid (by rw [List.length_drop, List.length_take, HM.out]; omega)
    go_wp2
    go_loopw [36] (fun i wr => ∃ j : Nat, j ≤ 124 - (4 + nn) ∧ i = .int .i64 j ∧ wr = w1 ∧ Hid (∀ x ∈ ((L.take 124).drop (4 + nn)).take j, x = 0)) (fun i _ => 124 - (4 + nn) - (intOf i).toNat)
    case atStart => exact ⟨0, Nat.zero_le _, rfl, rfl, Lib.hid (fun x hx => by simp at hx)⟩
    case round =>
     obtain ⟨j, hj, rfl, rfl, hz⟩ := hrel
     by_cases hlt : j < 124 - (4 + nn)
     ·obtain ⟨bb, oo, x, e1, hx, ht, hmem, g1, _⟩ := Sl.at1 HZ.out j (by have := HZL.out; omega)
      obtain ⟨rfl, rfl⟩ : b = bb ∧ off + (4 + nn) = oo := by injection e1 with e1; injection e1 with e1 e2; exact ⟨e1, e2⟩
      simp only [IE] at g1
      have HT := Lib.hid ht
      have HME := Lib.hid hmem
      clear e1 hx ht hmem
      by_cases hx0 : x = 0
      ·have d1 : (x != 0) = false := by simpa using hx0
       have HX0 := Lib.hid hx0
       clear hx0
       go_wp2
       go_roundw
       case rel => exact ⟨j + 1, by omega, by go_num, trivial, Lib.hid (fun y hy => by
        rw [HT.out] at hy
        rcases List.mem_append.1 hy with hy | hy
        ·exact hz.out y hy
        ·simp at hy; subst hy; exact HX0.out)⟩
       case measure => simp [intOf]; omega
      ·have d1 : (x != 0) = true := by simpa using hx0
       have hg := zdI HM.out HK.out HN.out (.inr (.inr (fun h => hx0 ((HH.out.1 h).2 x HME.out))))
       have HG := Lib.hid hg
       clear hg hx0
       go_wp2
       go_ret3
       rw [HG.out]
       exact GetRes.nil ⟨rfl, hb1⟩
     ·obtain rfl : j = 124 - (4 + nn) := by omega
      have HE : Hid (L.take 124 = pg k (body L nn)) := Lib.hid (HH.out.2 ⟨HC1.out, fun x hx => hz.out x (by rw [List.take_of_length_le (by have := HZL.out; omega)]; exact hx)⟩)
      have HD : Hid (BS wr (some ⟨b, off + 124, none⟩) (L.drop 124)) := Lib.hid (zkz H1.out 124 (by rw [HM.out]; omega))
      have HQ : Hid (BS wr (some ⟨b, off, none⟩) (L.take 124)) := Lib.hid (Sl.take H1.out 124)
      have HL4 : Hid (4 = (L.drop 124).length) := Lib.hid (by rw [List.length_drop, HM.out])
      have HL124 : Hid (124 = (L.take 124).length) := Lib.hid (by rw [List.length_take, HM.out]; rfl)
      have h4 := (zca (hB.drop 124)).1
      have h5 : num (L.drop 124) < 4294967296 := by
       have := (zca (hB.drop 124)).2
       rw [← HL4.out] at this
       have h6 : (256 : Int) ^ 4 = 4294967296 := by decide
       omega
      have h7 := zil (L.take 124)
      have hw5 : IntKind.u32.wrap (num (L.drop 124)) = num (L.drop 124) := by rw [IntKind.wrap_u32', Int.emod_eq_of_lt h4 h5]
      have HSUM := Lib.hid (sum_eq HM.out hB HE.out)
      have hci : (124 : Int) ≤ (c : Int) := by omega
      have hci2 : (128 : Int) ≤ (c : Int) := by omega
      have hci3 : (0 : Int) ≤ (c : Int) := by omega
      have hci4 : ¬ c = 124 := by omega
      by_cases c5 : num (L.drop 124) = (crcV (L.take 124) : Nat)
      ·have d5 : (num (L.drop 124) != ((crcV (L.take 124) : Nat) : Int)) = false := by simpa using c5
       have hg := zlZ HM.out HK.out HN.out k1 k2 c3 HE.out (HSUM.out.2 c5)
       have HG := Lib.hid hg
       have HBO : Hid (BS wr (some ⟨b, off + 4, none⟩) (body L nn)) := Lib.hid (Sl.take (zkz H1.out 4 (by rw [HM.out]; omega)) nn)
       have HBL : Hid (nn = (body L nn).length) := Lib.hid (zfa HM.out hnn).symm
       clear c5 hg
       go_wp2
       go_region_held3 (fun _ => True) (trivial) (first | (go_at_call 107; refine (zgu _ 4 _ (L.drop 124) _ HL4.out (by omega) (fun h => by cases h) (by first | exact HD.out | exact Sl.below HD.out (by repeat (first | assumption | exact Below.refl _ _ | refine zaF ?_ _ | refine zbf ?_ _ | refine zbj ?_ | refine zb5 ?_ (by first | (simp; done) | omega | (simp; omega)) _ | refine za0 ?_ (by assumption)))) (hB.drop 124) (by omega)).mono ?_; rintro e wf ⟨rfl, hbf⟩) | (go_at_call 109; refine (zla _ _ (some ⟨b, off, none⟩) 124 c (L.take 124) _ (by first | (simp; done) | exact zb0 hbf _ _ (by simp)) HL124.out (by omega) (by exact Sl.below HQ.out (by repeat (first | assumption | exact Below.refl _ _ | refine zaF ?_ _ | refine zbf ?_ _ | refine zbj ?_ | refine zb5 ?_ (by first | (simp; done) | omega | (simp; omega)) _ | refine za0 ?_ (by assumption)))) (hB.take 124)).mono ?_; rintro e wf ⟨rfl, hbf⟩))
       all_goals
        have HBr : Below wr.heap.size wr wf := (by repeat (first | assumption | exact Below.refl _ _ | refine zaF ?_ _ | refine zbf ?_ _ | refine zbj ?_ | refine zb5 ?_ (by first | (simp; done) | omega | (simp; omega)) _ | refine za0 ?_ (by assumption)))
        have HBf : Below w.heap.size w wf := za0 hb1 HBr
        have HB2 := Lib.hid (Sl.below HBO.out HBr)
        have g9 := zb0 HBr _ _ g2'
        have gb9 : b < wf.heap.size := Nat.lt_of_lt_of_le gb1 HBr.size
        clear hbf HBr
        have q1 : IntKind.i64.wrap (4 + (nn : Int)) = 4 + (nn : Int) := IntWalk.i64_in _ (by omega)
        have q2 : (4 : Int) ≤ 4 + (nn : Int) := by omega
        have q3 : 4 + (nn : Int) ≤ (c : Int) := by omega
        have q4 : (0 : Int) ≤ 4 + (nn : Int) := by omega
        have q5 : ¬ c = 4 := by omega
        have q6 : (4 : Int) ≤ (c : Int) := by omega
        have q7 : IntKind.i64.wrap k = k := IntWalk.i64_in _ (by omega)
        go_wp2
        go_region_held3 (fun w' => w'.cell? ⟨b, off + 2, none⟩ = some (.int .u8 k)) (first | exact g9 | exact zb0 HBA _ _ g9) ((refine zfh _ (by rfl) (.const (.slice none 0 0)) (.tmp 59) 23 (by rfl) zfm w.heap.size (IE .u8) _ [] (by rfl) OwnL.nil _ _ _ (body L nn) (by rfl) (by have := HBL.out; omega) (Sl.drew HB2.out) (fun _ _ => rfl) (by have := HBL.out; simp only [List.length_nil]; unfold maxLen; omega) (by have := HBL.out; simp only [List.length_nil]; omega) (by have := HBf.size; simpa using this) ?_; intro v3 w3 hown3 hgrow3; have HO3 := Lib.hid hown3; have HBA : Below wf.heap.size wf w3 := hgrow3.bel (zbj (Below.refl _ _)) (OwnL.nil (α := Int) (enc := IE .u8) (e := 5) (sz := 1)); clear hown3 hgrow3))
        have HB3 : Below w.heap.size w w3 := za0 HBf HBA
        go_wp2
        obtain ⟨A3, c3', rfl, hs3, hc31, hc32, hc33, hc34⟩ := OB.sl (L := body L nn) HO3.out nn HBL.out.symm
        have HNW : NewA w A3 c3' := ⟨fun a ha => (hc34 a ha).1, hc32⟩
        clear hc34
        go_ret3
        rw [HG.out]
        exact ⟨A3, nn, c3', HBL.out, rfl, hs3, hc31, hc33, HB3, HNW⟩
      ·have d5 : (num (L.drop 124) != ((crcV (L.take 124) : Nat) : Int)) = true := by simpa using c5
       have hg := znU HM.out HK.out HN.out k1 k2 c3 HE.out (fun h => c5 (HSUM.out.1 h))
       have HG := Lib.hid hg
       clear c5 hg
       go_wp2
       go_region_held3 (fun _ => True) (trivial) (first | (go_at_call 107; refine (zgu _ 4 _ (L.drop 124) _ HL4.out (by omega) (fun h => by cases h) (by first | exact HD.out | exact Sl.below HD.out (by repeat (first | assumption | exact Below.refl _ _ | refine zaF ?_ _ | refine zbf ?_ _ | refine zbj ?_ | refine zb5 ?_ (by first | (simp; done) | omega | (simp; omega)) _ | refine za0 ?_ (by assumption)))) (hB.drop 124) (by omega)).mono ?_; rintro e wf ⟨rfl, hbf⟩) | (go_at_call 109; refine (zla _ _ (some ⟨b, off, none⟩) 124 c (L.take 124) _ (by first | (simp; done) | exact zb0 hbf _ _ (by simp)) HL124.out (by omega) (by exact Sl.below HQ.out (by repeat (first | assumption | exact Below.refl _ _ | refine zaF ?_ _ | refine zbf ?_ _ | refine zbj ?_ | refine zb5 ?_ (by first | (simp; done) | omega | (simp; omega)) _ | refine za0 ?_ (by assumption)))) (hB.take 124)).mono ?_; rintro e wf ⟨rfl, hbf⟩))
       all_goals
        go_wp2
        go_ret3
        rw [HG.out]
        exact GetRes.nil ⟨rfl, (by repeat (first | assumption | exact Below.refl _ _ | refine zaF ?_ _ | refine zbf ?_ _ | refine zbj ?_ | refine zb5 ?_ (by first | (simp; done) | omega | (simp; omega)) _ | refine za0 ?_ (by assumption)))⟩
   ·have hg := zdI HM.out HK.out HN.out (.inr (.inl (by omega)))
    have HG := Lib.hid hg
    have c3' : 120 < n := by omega
    clear hg c3
    go_wp2
    go_ret3
    rw [HG.out]
    exact GetRes.nil ⟨rfl, hb1⟩
  ·have hg := zdI HM.out HK.out HN.out (.inl c2)
   have HG := Lib.hid hg
   have c2' : k < 1 ∨ (1 ≤ k ∧ 6 < k) := by omega
   have HC2 := Lib.hid c2'
   clear hg c2 c2'
   go_wp2_with (go_at_call 108; refine (zpC k _ HC2.out).mono ?_; rintro e w' ⟨rfl, rfl⟩)
   go_ret3
   rw [HG.out]
   exact GetRes.nil ⟨rfl, hb1⟩
 ·have hg : getS L = (0, [], 21) := by
   by_cases c2 : (1 ≤ k ∧ k ≤ 6) ∧ n ≤ 120
   ·exact zdI HM.out HK.out HN.out (.inr (.inr (fun h => c1 ((head_eq HM.out hB HK.out HN.out c2.2 (by omega)).1 h).1)))
   ·exact zdI HM.out HK.out HN.out (by omega)
  have HG := Lib.hid hg
  clear hg
  have d1 : (num (L.take 2) != 19613) = true := by simpa using c1
  clear c1 HNUM
  generalize num (L.take 2) = q at *
  go_wp2
  go_ret3
  rw [HG.out]
  exact GetRes.nil ⟨rfl, hb1⟩
end Go.Proofs.YtaghmffgoomebaaGreat.Page
