/- Numbers as bytes: fix.Put, fix.Get and the reference's. fix.Reader: what a reader holds, and what its calls do. The program's sum: turn, Add, Of. The document's sum: a row of 32 bools, bit by bit. The document's sum, all of it; it is the program's. Pages: what they are; page.Put and the reference's. The reference's page, written. Pages, read: what a sector is (plain), page.Get. page.Of; the reference's same, Get and Of; bytes.Equal; the chapter's example. page.Of; the reference's Get and Of; the chapter's example. A page is read as it was. -/
import Derived.Test.YtaghmffgoomebaaGreatCrcLaw
import Derived.Laws.BitsAll
import Derived.Laws.Rows
import Derived.Laws.Tables
import Derived.StillTailTactics
import Derived.Deep.WholeRow
import Derived.Deep.LoopGhost
import Derived.Test.YtaghmffgoomebaaGreatRegion
import Derived.Deep.RegionHeld3
import Derived.Deep.RegionLaw
import Derived.Laws.BytesArg
namespace Go.Proofs.YtaghmffgoomebaaGreat.Fix
open Go.RowKit Mem Bytes
set_option linter.unusedVariables false
set_option linter.unusedSimpArgs false
theorem elt_B : Elt Tryz.prog 23 5 1 1 := Elt.mk' (z := .int .u8 0) Tryz.underlying23 (by kernel_rfl) rfl (by decide)
/-- A slice of bytes that the call has built. -/
def OB (w : World) (base : Nat) (v : Value) (L : List Int) : Prop := OwnL w base 5 1 v (IE .u8) L
theorem OB.of_eq {w : World} {base : Nat} {v : Value} {L M : List Int} (h : OB w base v L) (e : L = M) : OB w base v M := e ▸ h
/-- Bytes that lie somewhere. -/
def BS (w : World) (A : Option Addr) (L : List Int) : Prop := Sl w A 1 (IE .u8) L
theorem pow256 (i : Nat) : (2 : Int) ^ (8 * i) = 256 ^ i := by rw [Int.pow_mul]; rfl

theorem or_shift (n x : Int) (k : Nat) (hk : k < 8) (h0 : 0 ≤ n) (h1 : n < 256 ^ k) (x0 : 0 ≤ x) (x1 : x ≤ 255) : bits .or .u64 n (IntKind.u64.wrap (x * 2 ^ (8 * k))) = n + x * 256 ^ k := by
  rw [pow256]
  have hp := pow_pos' k
  have h8 : (256 : Int) ^ 8 = 18446744073709551616 := by decide
  have hle : (256 : Int) ^ k * 256 ≤ 18446744073709551616 := by
    rw [← Int.pow_succ, ← h8, pow_split (k + 1) 8 (by omega)]
    have h2 := pow_pos' (8 - (k + 1))
    have h3 := pow_pos' (k + 1)
    have := Int.mul_le_mul_of_nonneg_left (show (1 : Int) ≤ 256 ^ (8 - (k + 1)) by omega) (show (0 : Int) ≤ 256 ^ (k + 1) by omega)
    omega
  have hx : x * 256 ^ k ≤ 255 * 256 ^ k := Int.mul_le_mul_of_nonneg_right x1 (Int.le_of_lt hp)
  have hx' : 0 ≤ x * 256 ^ k := Int.mul_nonneg x0 (Int.le_of_lt hp)
  generalize hy : x * 256 ^ k = y at *
  have hw : IntKind.u64.wrap y = y := by
    rw [IntKind.wrap_u64, Int.emod_eq_of_lt hx' (by omega)]
  rw [hw, u64_or n y h0 (by omega) hx' (by omega), Nat.or_comm]
  have hdiv : y.toNat % 2 ^ (8 * k) = 0 := by
    have e1 : y = ((x.toNat * 2 ^ (8 * k) : Nat) : Int) := by
      rw [← hy, ← pow256]
      simp only [Int.natCast_mul, Int.natCast_pow]
      rw [Int.toNat_of_nonneg x0]; rfl
    rw [e1, Int.toNat_natCast, Nat.mul_mod_left]
  have hlt : n.toNat < 2 ^ (8 * k) := by
    have : (n.toNat : Int) < ((2 ^ (8 * k) : Nat) : Int) := by
      rw [Int.toNat_of_nonneg h0, Int.natCast_pow]
      show n < (2 : Int) ^ (8 * k)
      rw [pow256]; exact h1
    exact Int.ofNat_lt.1 this
  rw [nat_join (8 * k) y.toNat n.toNat hdiv hlt]
  simp only [Int.natCast_add]
  rw [Int.toNat_of_nonneg h0, Int.toNat_of_nonneg hx', Int.add_comm]
set_option maxRecDepth 100000 in
set_option maxHeartbeats 1000000 in
theorem put_any (base : Nat) (v : Value) (L : List Int) (n s : Int) (k : Nat) (w : World) (hs : s = k) (hk : k ≤ 8) (hn : 0 ≤ n) (h : OB w base v L) (hL : L.length ≤ 100000) (hbase : base ≤ w.heap.size) :
    Calls Tryz.prog 100 #[v, .int .u64 n, .int .i64 s] w fun e w' => ∃ v', e = .returned v' ∧ OB w' base v' (L ++ le n k) ∧ Grew w w' v v' := by
  subst hs
  have H := Lib.hid h
  clear h
  have hL8 : ∀ i, i ≤ 8 → (L ++ le n i).length ≤ 100008 := fun i hi => by rw [List.length_append, le_length]; omega
  have HL := Lib.hid hL8
  clear hL8
  go_enter Tryz.func100, Tryz.ntmps100
  go_wp2
  go_loopw [0, 10] (fun u i wr => ∃ j : Nat, j ≤ k ∧ i = .int .i64 j ∧ OB wr base u (L ++ le n j) ∧ Grew w wr v u) (fun _ i _ => k - (intOf i).toNat)
  case atStart => exact ⟨0, Nat.zero_le _, rfl, (H.out).of_eq (by rw [le_zero, List.append_nil]), Grew.refl _ _⟩
  case round =>
    obtain ⟨j, hj, rfl, ho, hg⟩ := hrel
    have HO := Lib.hid ho
    have HG := Lib.hid hg
    have hb2 : base ≤ wr.heap.size := Nat.le_trans hbase hg.1.size
    clear ho hg
    by_cases hlt : j < k
    · go_wp2_with (at_builtin; refine wpList_append_sl _ rfl _ _ 23 rfl elt_B base (IE .u8) _ _ rfl (HO.out.alloc _) _ _ _ _ rfl rfl (sl_one _ _ _ _ _ _ (by simp) rfl) (fun _ _ => rfl) (by have := HL.out j (by omega); simp only [List.length_singleton]; unfold maxLen; omega) (by have := HL.out j (by omega); simp only [List.length_singleton]; omega) (by simp; omega) ?_; intro v1 w1 hown1 hgrow1; have HO1 := Lib.hid hown1; have HG1 := Lib.hid (HG.out.trans (hgrow1.below_left (bel_alloc (Below.refl _ _) _))); clear hown1 hgrow1)
      go_roundw
      case rel =>
        refine ⟨j + 1, by omega, by go_num, HO1.out.of_eq ?_, HG1.out⟩
        rw [List.append_assoc, le_snoc, pow256]
      case measure => simp [intOf]; omega
    · obtain rfl : j = k := by omega
      go_wp2
      go_ret
      exact ⟨_, rfl, HO.out, HG.out⟩
set_option maxRecDepth 100000 in
set_option maxHeartbeats 1000000 in
theorem get_any (A : Option Addr) (m c : Nat) (L : List Int) (w : World) (hm : m = L.length) (hc : m ≤ c) (hA : A = none → c = 0) (h : BS w A L) (hB : IsB L) (hl : m ≤ 8) :
    Calls Tryz.prog 107 #[.slice A m c] w fun e w' => e = .returned (.int .u64 (num L)) ∧ Below w.heap.size w w' := by
  have H := Lib.hid h
  clear h
  have HM := Lib.hid hm
  clear hm
  go_enter Tryz.func107, Tryz.ntmps107
  go_wp2
  go_loopw [3, 12] (fun n i wr => ∃ k : Nat, k ≤ m ∧ i = .int .i64 k ∧ n = .int .u64 (num (L.take k)) ∧ wr = w) (fun _ i _ => m - (intOf i).toNat)
  case atStart => exact ⟨0, Nat.zero_le _, rfl, rfl, rfl⟩
  case round =>
    obtain ⟨k, hk, rfl, rfl, rfl⟩ := hrel
    by_cases hlt : k < m
    · obtain ⟨b, off, x, rfl, hx, ht, hmem, g1, gb⟩ := Sl.at1 H.out k (by have := HM.out; omega)
      simp only [IE] at g1
      have hb := hB x hmem
      have hx0 : 0 ≤ x := hb.1
      have hx1 : x ≤ 255 := hb.2
      have HX := Lib.hid (num_take_succ hx)
      have hn0 := (num_bd (hB.take k)).1
      have hn9 : num (L.take k) < 256 ^ k := by have := (num_bd (hB.take k)).2; rwa [List.length_take, Nat.min_eq_left (by have := HM.out; omega)] at this
      clear hx ht hmem hb
      have HN9 := Lib.hid hn9
      clear hn9
      generalize num (L.take k) = n at *
      go_wp2
      go_roundw
      case rel =>
        refine ⟨k + 1, by omega, by go_num, ?_, ?_⟩
        · rw [HX.out, or_shift n x k (by omega) hn0 HN9.out hx0 hx1]
        · trivial
      case measure => simp [intOf]; omega
    · obtain rfl : k = m := by omega
      go_wp2
      go_ret
      exact ⟨by rw [List.take_of_length_le (by have := HM.out; omega)]; rfl, (by repeat (first | assumption | exact Below.refl _ _ | refine bel_alloc ?_ _ | refine bel_drewN ?_ _ | refine bel_drew ?_ | refine bel_set ?_ (by first | (simp; done) | omega | (simp; omega)) _ | refine bel_trans ?_ (by assumption)))⟩
set_option maxRecDepth 100000 in
set_option maxHeartbeats 1000000 in
theorem rget_any (A : Option Addr) (m c : Nat) (L : List Int) (w : World) (hm : m = L.length) (h : BS w A L) (hB : IsB L) (hl : m ≤ 8) :
    Calls Tryz.prog 66 #[.slice A m c] w fun e w' => e = .returned (.int .u64 (num L)) ∧ Below w.heap.size w w' := by
  have H := Lib.hid h
  clear h
  have HM := Lib.hid hm
  clear hm
  go_enter Tryz.func66, Tryz.ntmps66
  go_wp2
  go_loopw [3, 4] (fun n i wr => ∃ k : Nat, k ≤ m ∧ i = .int .i64 ((k : Int) - 1) ∧ n = .int .u64 (num (L.drop k)) ∧ wr = w) (fun _ i _ => (intOf i + 1).toNat)
  case atStart => exact ⟨m, Nat.le_refl _, rfl, by rw [List.drop_of_length_le (by have := HM.out; omega)]; rfl, rfl⟩
  case round =>
    obtain ⟨k, hk, rfl, rfl, rfl⟩ := hrel
    rcases k with _ | k
    · go_wp2
      go_ret
      exact ⟨by rw [List.drop_zero]; rfl, (by repeat (first | assumption | exact Below.refl _ _ | refine bel_alloc ?_ _ | refine bel_drewN ?_ _ | refine bel_drew ?_ | refine bel_set ?_ (by first | (simp; done) | omega | (simp; omega)) _ | refine bel_trans ?_ (by assumption)))⟩
    · have e1 : ((k + 1 : Nat) : Int) - 1 = (k : Int) := by omega
      rw [e1]
      have hlt : k < m := by omega
      obtain ⟨b, off, x, rfl, hx, ht, hmem, g1, gb⟩ := Sl.at1 H.out k (by have := HM.out; omega)
      simp only [IE] at g1
      have hb := hB x hmem
      have hx0 : 0 ≤ x := hb.1
      have hx1 : x ≤ 255 := hb.2
      have hd := num_drop hx
      have hn0 := (num_bd (hB.drop (k + 1))).1
      have hn1 : num (L.drop k) < 18446744073709551616 := num_lt8 (hB.drop k) (by rw [List.length_drop]; have := HM.out; omega)
      have hn2 : num (L.drop (k + 1)) * 256 + x ≤ 18446744073709551615 := by omega
      have HX := Lib.hid hd
      clear hx ht hmem hb hn1 hd
      generalize num (L.drop (k + 1)) = n at *
      go_wp2
      go_roundw
      case rel =>
        refine ⟨k, by omega, by go_num, ?_, ?_⟩
        · rw [HX.out, show n * 256 + x = x + 256 * n by omega]
        · trivial
      case measure => simp [intOf]
set_option maxRecDepth 100000 in
set_option maxHeartbeats 1000000 in
theorem rput_any (A : Option Addr) (m c : Nat) (L : List Int) (n s : Int) (k : Nat) (w : World) (hs : s = k) (hk : k ≤ 8) (hn : 0 ≤ n) (hn2 : n ≤ 18446744073709551615) (hm : m = L.length) (h : BS w A L) (hL : m ≤ 100000) :
    Calls Tryz.prog 28 #[.slice A m c, .int .u64 n, .int .i64 s] w fun e w' => ∃ v', e = .returned v' ∧ OB w' w.heap.size v' (L ++ le n k) ∧ Below w.heap.size w w' := by
  subst hs
  have H := Lib.hid h
  clear h
  have HM := Lib.hid hm
  have hL8 : ∀ i, i ≤ 8 → (L ++ le n i).length ≤ 100008 := fun i hi => by rw [List.length_append, le_length]; omega
  have HL := Lib.hid hL8
  clear hL8 hm
  go_enter Tryz.func28, Tryz.ntmps28
  go_wp2_with (at_builtin; refine wpList_append_sl _ rfl (.tmp 9) (.tmp 10) 23 rfl elt_B w.heap.size (IE .u8) _ [] rfl (OwnL.made _ rfl (Nat.le_refl _) (by unfold maxLen; omega) rfl) _ _ _ L rfl HM.out (H.out.alloc _) (fun _ _ => rfl) (by have := HM.out; simp only [List.length_nil]; unfold maxLen; omega) (by have := HM.out; simp only [List.length_nil]; omega) (by simp) ?_; intro v1 w1 hown1 hgrow1; have HB1 : Below w.heap.size w w1 := hgrow1.bel (by repeat (first | assumption | exact Below.refl _ _ | refine bel_alloc ?_ _ | refine bel_drewN ?_ _ | refine bel_drew ?_ | refine bel_set ?_ (by first | (simp; done) | omega | (simp; omega)) _ | refine bel_trans ?_ (by assumption))) (OwnL.made (α := Int) (enc := IE .u8) (e := 5) (sz := 1) _ rfl (Nat.le_refl _) (by unfold maxLen; omega) rfl); have HO1 := Lib.hid hown1; clear hown1 hgrow1)
  go_loopw [1, 7, 8] (fun x u i wr => ∃ j : Nat, j ≤ k ∧ i = .int .i64 j ∧ x = .int .u64 (n / 256 ^ j) ∧ OB wr w.heap.size u (L ++ le n j) ∧ Below w.heap.size w wr) (fun _ _ i _ => k - (intOf i).toNat)
  case atStart => exact ⟨0, Nat.zero_le _, rfl, by simp, HO1.out.of_eq (by rw [le_zero, List.append_nil]; rfl), HB1⟩
  case round =>
    obtain ⟨j, hj, rfl, rfl, ho, hb⟩ := hrel
    have HO := Lib.hid ho
    have hz := hb.size
    clear ho
    have q0 : 0 ≤ n / 256 ^ j := Int.ediv_nonneg hn (Int.le_of_lt (pow_pos' j))
    have q1 : n / 256 ^ j ≤ 18446744073709551615 := Int.le_trans (Int.ediv_le_self _ hn) hn2
    have HD := Lib.hid (show n / 256 ^ (j + 1) = n / 256 ^ j / 256 by rw [Int.pow_succ, Int.ediv_ediv_of_nonneg (Int.le_of_lt (pow_pos' j))])
    have HS := Lib.hid (le_snoc n j)
    by_cases hlt : j < k
    · generalize n / 256 ^ j = q at *
      go_wp2_with (at_builtin; refine wpList_append_sl _ rfl (.tmp 21) (.tmp 25) 23 rfl elt_B w.heap.size (IE .u8) _ _ rfl (HO.out.alloc _) _ _ _ _ rfl rfl (sl_one _ _ _ _ _ _ (by simp) rfl) (fun _ _ => rfl) (by have := HL.out j (by omega); simp only [List.length_singleton]; unfold maxLen; omega) (by have := HL.out j (by omega); simp only [List.length_singleton]; omega) (by simp; omega) ?_; intro v1 w1 hown1 hgrow1; have HO1 := Lib.hid hown1; have HB2 : Below w.heap.size w w1 := hgrow1.bel (bel_alloc hb _) (HO.out.alloc _); clear hown1 hgrow1)
      go_roundw
      case rel =>
        refine ⟨j + 1, by omega, by go_num, by rw [HD.out], HO1.out.of_eq ?_, HB2⟩
        rw [List.append_assoc, HS.out]
      case measure => simp [intOf]; omega
    · obtain rfl : j = k := by omega
      go_wp2
      go_ret
      exact ⟨_, rfl, HO.out, hb⟩
end Go.Proofs.YtaghmffgoomebaaGreat.Fix
namespace Go.Proofs.YtaghmffgoomebaaGreat.Reader
open Go.RowKit Mem Bytes Fix
set_option linter.unusedVariables false
set_option linter.unusedSimpArgs false
/-- A reader in block g: what is left, and whether something was not there. -/
def Rd (w : World) (g : Nat) (L : List Int) (bad : Bool) : Prop :=
  ∃ A c, Blk w g #[.slice A L.length c, .bool bad] 201 ∧ BS w A L ∧ L.length ≤ c ∧ (A = none → c = 0) ∧ (0 < L.length → ∀ a, A = some a → a.block ≠ g)
theorem Rd.lt {w : World} {g : Nat} {L : List Int} {bad : Bool} (h : Rd w g L bad) : g < w.heap.size := by
  obtain ⟨A, c, h1, _⟩ := h; exact h1.lt
theorem Rd.below {w w' : World} {g : Nat} {L : List Int} {bad : Bool} (h : Rd w g L bad) (hb : Below w.heap.size w w') : Rd w' g L bad := by
  obtain ⟨A, c, h1, h2, h3, h4, h5⟩ := h
  exact ⟨A, c, h1.below hb, Sl.below h2 hb, h3, h4, h5⟩
/-- What a call for k bytes takes, and what it leaves. -/
def tk (L : List Int) (k : Nat) : List Int := if k ≤ L.length then L.take k else []
def rs (L : List Int) (k : Nat) : List Int := if k ≤ L.length then L.drop k else []
def rb (L : List Int) (bad : Bool) (k : Nat) : Bool := if k ≤ L.length then bad else true
theorem tk_isB {L : List Int} (h : IsB L) (k : Nat) : IsB (tk L k) := by
  unfold tk; split
  · exact h.take k
  · exact IsB.nil
theorem rs_isB {L : List Int} (h : IsB L) (k : Nat) : IsB (rs L k) := by
  unfold rs; split
  · exact h.drop k
  · exact IsB.nil
theorem tk_len (L : List Int) (k : Nat) : (tk L k).length ≤ k := by
  unfold tk; split
  · rw [List.length_take]; omega
  · simp
theorem rs_len (L : List Int) (k : Nat) : (rs L k).length ≤ L.length := by
  unfold rs; split
  · rw [List.length_drop]; omega
  · simp
theorem tk_lt {L : List Int} (h : IsB L) (k : Nat) (m : Int) (hk : k ≤ 8) (hm : (256 : Int) ^ k = m) : num (tk L k) < m := by
  have h1 := (num_bd (tk_isB h k)).2
  have h2 : (256 : Int) ^ (tk L k).length ≤ 256 ^ k := by
    have hl := tk_len L k
    rw [pow_split _ k hl]
    have h3 := pow_pos' (k - (tk L k).length)
    have h4 := pow_pos' (tk L k).length
    have := Int.mul_le_mul_of_nonneg_left (show (1 : Int) ≤ 256 ^ (k - (tk L k).length) by omega) (show (0 : Int) ≤ 256 ^ (tk L k).length by omega)
    omega
  omega
set_option maxRecDepth 100000 in
set_option maxHeartbeats 1000000 in
theorem end_any (g : Nat) (L : List Int) (bad : Bool) (w : World) (hL : L.length ≤ 100000) (h : Rd w g L bad) :
    Calls Tryz.prog 83 #[.pointer (some ⟨g, 0, none⟩)] w fun e w' => e = .returned (.int .i64 (if bad = true then 20 else if 0 < L.length then 21 else 0)) ∧ w = w' := by
  obtain ⟨A, c, hB, hS, hc, hA, hne⟩ := h
  obtain ⟨kc, kf, kz⟩ := hB.facts
  clear hB hS hA hne
  rcases bad with _ | _
  · by_cases h0 : 0 < L.length
    · rw [if_neg (by simp), if_pos h0]
      go_enter Tryz.func83, Tryz.ntmps83
      go_wp2
      go_ret
      exact ⟨rfl, rfl⟩
    · rw [if_neg (by simp), if_neg h0]
      have h0' : ¬ (0 : Int) < (L.length : Int) := by omega
      go_enter Tryz.func83, Tryz.ntmps83
      go_wp2
      go_ret
      exact ⟨rfl, rfl⟩
  · rw [if_pos rfl]
    go_enter Tryz.func83, Tryz.ntmps83
    go_wp2
    go_ret
    exact ⟨rfl, rfl⟩
end Go.Proofs.YtaghmffgoomebaaGreat.Reader
namespace Go.Proofs.YtaghmffgoomebaaGreat.Crc
open Go.RowKit Mem Bytes Fix
set_option linter.unusedVariables false
set_option linter.unusedSimpArgs false
theorem and_one (s : Nat) (h : s < 4294967296) : bits .and .u32 (s : Int) 1 = ((s % 2 : Nat) : Int) := by
  have := u32_and_nat s 1 h (by omega)
  rw [nat_mask1] at this
  exact this
theorem sh_odd (s : Nat) (h : s < 4294967296) (ho : s % 2 = 1) : bits .xor .u32 ((s : Int) / 2) 3988292384 = ((sh s : Nat) : Int) := by
  have := u32_xor_nat (s / 2) poly (by omega) poly_lt
  unfold sh
  rw [if_pos ho, ← this]
  rfl
theorem sh_even (s : Nat) (ho : s % 2 = 0) : (s : Int) / 2 = ((sh s : Nat) : Int) := by
  unfold sh
  rw [if_neg (by omega)]
  rfl
set_option maxRecDepth 100000 in
set_option maxHeartbeats 1000000 in
theorem turn_any (n c : Nat) (x : Int) (w : World) (hx : x = c) (hn : n < 4294967296) (hc : c < 256) :
    Calls Tryz.prog 138 #[.int .u32 n, .int .u8 x] w fun e w' => e = .returned (.int .u32 (turnN n c : Nat)) ∧ w = w' := by
  subst hx
  have hxor := u32_xor_nat n c hn (by omega)
  have hlt := xor_lt32 hn (show c < 4294967296 by omega)
  have HT := Lib.hid (show turnN n c = shs 8 (n ^^^ c) from rfl)
  generalize n ^^^ c = s0 at *
  go_enter Tryz.func138, Tryz.ntmps138
  go_wp2
  clear hxor
  go_loopw [0, 9] (fun n i wr => ∃ k : Nat, k ≤ 8 ∧ i = .int .i64 k ∧ n = .int .u32 (shs k s0 : Nat) ∧ wr = w) (fun _ i _ => 8 - (intOf i).toNat)
  case atStart => exact ⟨0, Nat.zero_le _, rfl, rfl, rfl⟩
  case round =>
    obtain ⟨k, hk, rfl, rfl, rfl⟩ := hrel
    have hs := shs_lt (k := k) hlt
    have HS := Lib.hid (show shs (k + 1) s0 = sh (shs k s0) from rfl)
    by_cases hlt8 : k < 8
    · generalize shs k s0 = s at *
      rcases Nat.mod_two_eq_zero_or_one s with h2 | h2
      · have ha := and_one s hs
        rw [h2] at ha
        have hb := sh_even s h2
        have HH2 := Lib.hid h2
        clear h2
        go_wp2
        go_roundw
        case rel => exact ⟨k + 1, by omega, by go_num, by rw [HS.out], trivial⟩
        case measure => simp [intOf]; omega
      · have ha := and_one s hs
        rw [h2] at ha
        have hb := sh_odd s hs h2
        have HH2 := Lib.hid h2
        clear h2
        go_wp2
        go_roundw
        case rel => exact ⟨k + 1, by omega, by go_num, by rw [HS.out], trivial⟩
        case measure => simp [intOf]; omega
    · obtain rfl : k = 8 := by omega
      go_wp2
      go_ret
      exact ⟨by rw [HT.out]; rfl, rfl⟩
/-- The bytes as numbers. -/
def nats (L : List Int) : List Nat := L.map Int.toNat
theorem nats_lt {L : List Int} (h : IsB L) : ∀ c ∈ nats L, c < 256 := by
  intro c hc
  simp only [nats, List.mem_map] at hc
  obtain ⟨x, hx, rfl⟩ := hc
  have := h x hx
  omega
theorem comp_bit (n i : Nat) (h : n < 4294967296) : (4294967295 - n).testBit i = (decide (i < 32) && !n.testBit i) := by
  have := Nat.testBit_two_pow_sub_succ (n := 32) (x := n) h i
  rw [← this, show 2 ^ 32 - (n + 1) = 4294967295 - n by omega]
theorem ones_bit (i : Nat) : (4294967295 : Nat).testBit i = decide (i < 32) := by
  have := Nat.testBit_two_pow_sub_one 32 i
  rw [← this]
theorem comp_xor (n : Nat) (h : n < 4294967296) : (4294967295 : Nat) ^^^ n = 4294967295 - n := by
  apply Nat.eq_of_testBit_eq
  intro i
  rw [Nat.testBit_xor, comp_bit n i h, ones_bit]
  by_cases hi : i < 32
  · simp [hi]
  · have : n.testBit i = false := Nat.testBit_lt_two_pow (Nat.lt_of_lt_of_le h (Nat.pow_le_pow_right (n := 2) (i := 32) (by omega) (by omega)))
    simp [hi, this]
theorem not32 (n : Nat) (h : n < 4294967296) : bits .xor .u32 IntKind.u32.max (n : Int) = ((4294967295 - n : Nat) : Int) := by
  have h1 := u32_xor_nat 4294967295 n (by omega) h
  rw [comp_xor n h] at h1
  exact h1

set_option maxRecDepth 100000 in
set_option maxHeartbeats 1000000 in
theorem add_any (g n : Nat) (A : Option Addr) (m c : Nat) (L : List Int) (w : World) (hg : w.cell? ⟨g, 0, none⟩ = some (.int .u32 n)) (hf : w.frozen? ⟨g, 0, none⟩ = false) (hn : n < 4294967296) (hm : m = L.length) (hm9 : m ≤ 9223372036854775807) (h : BS w A L) (hB : IsB L) :
    Calls Tryz.prog 127 #[.pointer (some ⟨g, 0, none⟩), .slice A m c] w fun e w' => e = .returned (.tuple #[]) ∧ w' = w.setCell ⟨g, 0, none⟩ (.int .u32 ((4294967295 - crcL (4294967295 - n) (nats L) : Nat) : Int)) := by
  have H := Lib.hid h
  clear h
  have HM := Lib.hid hm
  clear hm
  have hnot := not32 n hn
  have h2 : 4294967295 - n < 4294967296 := by omega
  have HL := Lib.hid (fun k => crcL_lt (l := (nats L).take k) h2 (fun x hx => nats_lt hB x (List.mem_of_mem_take hx)))
  generalize 4294967295 - n = s0 at *
  go_enter Tryz.func127, Tryz.ntmps127
  go_wp2
  clear hnot
  go_loopw [4, 14] (fun n i wr => ∃ k : Nat, k ≤ m ∧ i = .int .i64 k ∧ n = .int .u32 (crcL s0 ((nats L).take k) : Nat) ∧ wr = w) (fun _ i _ => m - (intOf i).toNat)
  case atStart => exact ⟨0, Nat.zero_le _, rfl, by rw [List.take_zero, crcL_nil], rfl⟩
  case round =>
    obtain ⟨k, hk, rfl, rfl, rfl⟩ := hrel
    by_cases hlt : k < m
    · obtain ⟨b, off, x, rfl, hx, ht, hmem, g1, gb⟩ := Sl.at1 H.out k (by have := HM.out; omega)
      simp only [IE] at g1
      have hb := hB x hmem
      have hx0 : 0 ≤ x := hb.1
      have hx1 : x ≤ 255 := hb.2
      have HS : Hid (crcL s0 ((nats L).take (k + 1)) = turnN (crcL s0 ((nats L).take k)) x.toNat) := Lib.hid (by
        rw [← crcL_snoc]; congr 1
        unfold nats
        rw [← List.map_take, ht, List.map_append, ← List.map_take]; rfl)
      have hl1 := HL.out k
      clear hx ht hmem hb
      generalize crcL s0 ((nats L).take k) = q at *
      go_wp2_with (go_at_call 138; refine (turn_any q x.toNat x _ (by omega) hl1 (by omega)).mono ?_; rintro e w' ⟨rfl, rfl⟩)
      go_roundw
      case rel => exact ⟨k + 1, by omega, by go_num, by rw [HS.out], trivial⟩
      case measure => simp [intOf]; omega
    · obtain rfl : k = m := by omega
      have hl1 := HL.out k
      have e1 : (nats L).take k = nats L := List.take_of_length_le (by unfold nats; rw [List.length_map]; have := HM.out; omega)
      rw [e1] at hl1
      rw [e1]
      clear e1
      generalize hq : crcL s0 (nats L) = q at *
      have HQ := Lib.hid hq
      clear hq
      have hnot2 := not32 q hl1
      go_wp2
      go_end0
      exact ⟨rfl, by rw [HQ.out]⟩
theorem value_any (g : Nat) (n : Int) (w : World) (hg : w.cell? ⟨g, 0, none⟩ = some (.int .u32 n)) :
    Calls Tryz.prog 128 #[.pointer (some ⟨g, 0, none⟩)] w fun e w' => e = .returned (.int .u32 n) ∧ w = w' := by
  go_enter Tryz.func128, Tryz.ntmps128
  go_wp2
  go_ret
  exact ⟨rfl, rfl⟩
/-- The sum of bytes. -/
def crcV (L : List Int) : Nat := 4294967295 - crcL 4294967295 (nats L)
set_option maxRecDepth 100000 in
set_option maxHeartbeats 1000000 in
theorem of_any (p cp : Nat) (A : Option Addr) (m c : Nat) (L : List Int) (w : World) (hp : w.cell? ⟨p, 0, none⟩ = some (.slice A m c)) (hm : m = L.length) (hm9 : m ≤ 9223372036854775807) (h : BS w A L) (hB : IsB L) :
    Calls Tryz.prog 109 #[.slice (some ⟨p, 0, none⟩) 1 cp] w fun e w' => e = .returned (.int .u32 ((crcV L : Nat) : Int)) ∧ Below w.heap.size w w' := by
  have H := Lib.hid h
  clear h
  have HM := Lib.hid hm
  clear hm
  have hpb : p < w.heap.size := lt_of_cell hp
  go_enter Tryz.func109, Tryz.ntmps109
  go_wp2
  refine wp_loop_rounds 2 ?_; rw [rounds_succ]
  go_wp2_with fail
  refine (add_any w.heap.size 0 A m c L _ (by simp) (by simp) (by omega) HM.out hm9 (by exact H.out.alloc _) hB).mono ?_
  rintro e w1 ⟨rfl, rfl⟩
  go_wp2
  rw [rounds_succ]
  go_wp2_with (go_at_call 128; refine (value_any _ _ _ (by simp; rfl)).mono ?_; rintro e w' ⟨rfl, rfl⟩)
  go_ret
  exact ⟨rfl, (by repeat (first | assumption | exact Below.refl _ _ | refine bel_alloc ?_ _ | refine bel_drewN ?_ _ | refine bel_drew ?_ | refine bel_set ?_ (by first | (simp; done) | omega | (simp; omega)) _ | refine bel_trans ?_ (by assumption)))⟩
end Go.Proofs.YtaghmffgoomebaaGreat.Crc
namespace Go.Proofs.YtaghmffgoomebaaGreat.Crc
open Go.RowKit Mem Bytes Fix
set_option linter.unusedVariables false
set_option linter.unusedSimpArgs false
/-- A row of 32 bools. -/
def bitsF (f : Nat → Bool) : Array Value := ((List.range 32).map fun j => Value.bool (f j)).toArray
theorem bitsF_size (f : Nat → Bool) : (bitsF f).size = 32 := by simp [bitsF]
theorem bitsF_get (f : Nat → Bool) (k : Nat) (hk : k < 32) : (bitsF f)[k]? = some (.bool (f k)) := by
  simp [bitsF, List.getElem?_range hk]
theorem bitsF_congr {f g : Nat → Bool} (h : ∀ j, j < 32 → f j = g j) : bitsF f = bitsF g := by
  unfold bitsF
  congr 1
  apply List.map_congr_left
  intro j hj
  rw [h j (List.mem_range.1 hj)]
theorem bitsF_set (f : Nat → Bool) (k : Nat) (b : Bool) : (bitsF f).setIfInBounds k (.bool b) = bitsF (fun j => if j = k then b else f j) := by
  apply Array.ext_getElem?
  intro i
  by_cases hi : i < 32
  · rw [Array.getElem?_setIfInBounds, bitsF_get _ _ hi, bitsF_get _ _ hi]
    by_cases h : k = i
    · subst h; simp [bitsF_size, hi]
    · simp [h, show ¬ i = k from fun e => h e.symm]
  · rw [Array.getElem?_eq_none (by rw [Array.size_setIfInBounds, bitsF_size]; omega), Array.getElem?_eq_none (by rw [bitsF_size]; omega)]
theorem bitsF_one (f : Nat → Bool) : (bitsF f).all (·.oneCell') = true := by
  rw [Array.all_eq_true_iff_forall_mem]
  intro x hx
  simp only [bitsF, List.mem_toArray, List.mem_map] at hx
  obtain ⟨j, _, rfl⟩ := hx
  rfl
theorem results_cell1 {fn : Func} {a : Tmp} {t : TypeId} (h : fn.results = #[.cell a t]) (tmps : Array Value) (P : Program) (w : World) (g : Nat) (ha : tmps.getD a undef = .pointer (some ⟨g, 0, none⟩)) (v : Value) (hl : (loadVar t ⟨g, 0, none⟩).run P w = .ok v w) :
    (results fn tmps).run P w = .ok v w := by
  have ha' : tmps[a]?.getD undef = .pointer (some ⟨g, 0, none⟩) := by simpa using ha
  simp [results, h, ha', asAddr, hl]
/-- A row's whole content, put in its place, is the row that it was then. -/
theorem blk_row {w : World} {g : Nat} {old cs : Array Value} {t : TypeId} (h : Blk w g old t) : Blk (w.setRow g cs) g cs t := setRow_heap w g old cs t (0, 0) h
theorem bel_row {W w : World} (h : Below W.heap.size W w) {g : Nat} (hg : W.heap.size ≤ g) (cs : Array Value) : Below W.heap.size W (w.setRow g cs) :=
  h.trans ⟨rfl, rfl, rfl, by simp, fun k hk => setRow_other w g k cs (by omega)⟩
theorem info_row : (Tryz.prog.info? 156).map (·.size) = some 32 := by kernel_rfl
def bitsA (n : Nat) : Array Value := bitsF fun j => n.testBit j
theorem blk_bit {w : World} {g : Nat} {f : Nat → Bool} {t : TypeId} (h : Blk w g (bitsF f) t) (k : Nat) (hk : k < 32) : w.cell? ⟨g, k, none⟩ = some (.bool (f k)) := by
  rw [h.facts.1, bitsF_get f k hk]
theorem div_bit (n k : Nat) : (((n / 2 ^ k : Nat) : Int) % 2 == 1) = n.testBit k := by
  rw [Nat.testBit_eq_decide_div_mod_eq, Bool.eq_iff_iff]
  simp only [beq_iff_eq, decide_eq_true_eq]
  omega
set_option maxRecDepth 100000 in
set_option maxHeartbeats 1000000 in
theorem bits_any (n : Nat) (w : World) (hn : n < 4294967296) :
    Calls Tryz.prog 75 #[.int .u32 n] w fun e w' => e = .returned (.agg (bitsA n)) ∧ Below w.heap.size w w' := by
  go_enter Tryz.func75, Tryz.ntmps75
  go_wp2
  go_loopw [0, 4] (fun q i wr => ∃ k : Nat, k ≤ 32 ∧ i = .int .i64 k ∧ q = .int .u32 (n / 2 ^ k : Nat) ∧ Blk wr w.heap.size (bitsF fun _ => false) 156 ∧ Blk wr (w.heap.size + 1) (bitsF fun j => decide (j < k) && n.testBit j) 156 ∧ Below w.heap.size w wr) (fun _ i _ => 32 - (intOf i).toNat)
  case atStart => exact ⟨0, Nat.zero_le _, rfl, by simp, (Blk.new _ _ _ _ rfl).alloc _, by rw [bitsF_congr (g := fun _ => false) (fun j hj => by simp)]; exact Blk.new _ _ _ _ (by simp), (by repeat (first | assumption | exact Below.refl _ _ | refine bel_alloc ?_ _ | refine bel_drewN ?_ _ | refine bel_drew ?_ | refine bel_set ?_ (by first | (simp; done) | omega | (simp; omega)) _ | refine bel_trans ?_ (by assumption)))⟩
  case round =>
    obtain ⟨k, hk, rfl, rfl, hz, hp, hb⟩ := hrel
    by_cases hlt : k < 32
    · have g1 := blk_bit hp k hlt
      have f1 := hp.facts.2.1 k
      have gb := hp.lt
      have hq : n / 2 ^ k < 4294967296 := Nat.lt_of_le_of_lt (Nat.div_le_self _ _) hn
      have HD := Lib.hid (div_bit n k)
      have HE := Lib.hid (show n / 2 ^ (k + 1) = n / 2 ^ k / 2 by rw [Nat.pow_succ, Nat.div_div_eq_div_mul])
      have HP := Lib.hid hp
      have HZ := Lib.hid hz
      clear hp hz
      generalize n / 2 ^ k = q at *
      go_wp2
      go_roundw
      case rel =>
        refine ⟨k + 1, by omega, by go_num, by rw [HE.out]; rfl, HZ.out.set (by omega), ?_, (by repeat (first | assumption | exact Below.refl _ _ | refine bel_alloc ?_ _ | refine bel_drewN ?_ _ | refine bel_drew ?_ | refine bel_set ?_ (by first | (simp; done) | omega | (simp; omega)) _ | refine bel_trans ?_ (by assumption)))⟩
        have h1 := HP.out.store k (.bool ((q : Int) % 2 == 1))
        rw [bitsF_set, HD.out] at h1
        rw [HD.out]
        refine h1.of_eq (bitsF_congr (fun j hj => ?_))
        by_cases h : j = k
        · subst h; simp
        · by_cases h2 : j < k
          · simp [h, h2, show j < k + 1 by omega]
          · simp [h, h2, show ¬ j < k + 1 by omega]
      case measure => simp [intOf]; omega
    · obtain rfl : k = 32 := by omega
      have HP : Hid (Blk wr (w.heap.size + 1) (bitsA n) 156) := Lib.hid (hp.of_eq (bitsF_congr (fun j hj => by simp [hj])))
      have HZ := Lib.hid hz
      clear hp hz
      go_wp2_with (first | (refine wpList_load_row rfl 156 (.tmp 3) rfl _ rfl 156 _ (0, 0) _ HP.out Tryz.underlying156 rfl (by rw [show (bitsA n).size = 32 from bitsF_size _]; exact info_row) ?_) | (refine wpList_store_row rfl 156 (.tmp 2) (.tmp 16) rfl _ (bitsA n) rfl rfl 156 _ HZ.out (by rw [show (bitsA n).size = 32 from bitsF_size _]; exact info_row) (by rw [bitsF_size]; exact (bitsF_size _).symm) (bitsF_one _) ?_))
      refine bodyPost_ret_by (v := .agg (bitsA n)) ?_ rfl ⟨rfl, ?_⟩
      · exact results_cell1 (a := 2) rfl _ _ _ w.heap.size rfl _ (run_loadVar_row _ _ 156 156 _ (0, 0) _ (blk_row HZ.out) Tryz.underlying156 rfl (by rw [show (bitsA n).size = 32 from bitsF_size _]; exact info_row))
      · exact bel_row hb (Nat.le_refl _) _
set_option maxRecDepth 100000 in
set_option maxHeartbeats 1000000 in
theorem number_any (n : Nat) (w : World) (hn : n < 4294967296) :
    Calls Tryz.prog 76 #[.agg (bitsA n)] w fun e w' => e = .returned (.int .u32 n) ∧ Below w.heap.size w w' := by
  go_enter Tryz.func76, Tryz.ntmps76
  go_wp2
  go_loopw [3, 4] (fun q i wr => ∃ k : Nat, k ≤ 32 ∧ i = .int .i64 ((k : Int) - 1) ∧ q = .int .u32 (n / 2 ^ k : Nat) ∧ wr = w.alloc (.cells (bitsA n) 156)) (fun _ i _ => (intOf i + 1).toNat)
  case atStart => exact ⟨32, Nat.le_refl _, rfl, by rw [Nat.div_eq_of_lt hn]; rfl, rfl⟩
  case round =>
    obtain ⟨k, hk, rfl, rfl, rfl⟩ := hrel
    rcases k with _ | k
    · go_wp2
      go_ret
      exact ⟨by rw [Nat.pow_zero, Nat.div_one]; rfl, (by repeat (first | assumption | exact Below.refl _ _ | refine bel_alloc ?_ _ | refine bel_drewN ?_ _ | refine bel_drew ?_ | refine bel_set ?_ (by first | (simp; done) | omega | (simp; omega)) _ | refine bel_trans ?_ (by assumption)))⟩
    · have e1 : ((k + 1 : Nat) : Int) - 1 = (k : Int) := by omega
      rw [e1]
      have g1 := blk_bit (f := fun j => n.testBit j) (Blk.new w (bitsA n) 156 w.heap.size rfl) k (by omega)
      have hq : n / 2 ^ k < 4294967296 := Nat.lt_of_le_of_lt (Nat.div_le_self _ _) hn
      have hE : n / 2 ^ (k + 1) = n / 2 ^ k / 2 := by rw [Nat.pow_succ, Nat.div_div_eq_div_mul]
      have hT : n.testBit k = decide (n / 2 ^ k % 2 = 1) := Nat.testBit_eq_decide_div_mod_eq
      rw [hE]
      clear hE
      rw [hT] at g1
      clear hT
      generalize hqq : n / 2 ^ k = q at *
      have HQQ := Lib.hid hqq
      clear hqq
      by_cases ho : q % 2 = 1
      · rw [decide_eq_true ho] at g1
        have HO := Lib.hid ho
        clear ho
        go_wp2
        go_roundw
        case rel => exact ⟨k, by omega, by go_num, by rw [HQQ.out, show (2 : Int) * ((q : Int) / 2) + 1 = (q : Int) by have := HO.out; omega], trivial⟩
        case measure => simp [intOf]
      · rw [decide_eq_false ho] at g1
        have HO := Lib.hid ho
        clear ho
        go_wp2
        go_roundw
        case rel => exact ⟨k, by omega, by go_num, by rw [HQQ.out, show (2 : Int) * ((q : Int) / 2) = (q : Int) by have := HO.out; omega], trivial⟩
        case measure => simp [intOf]
set_option maxRecDepth 100000 in
set_option maxHeartbeats 1000000 in
theorem turned_any (n : Nat) (w : World) (hn : n < 4294967296) :
    Calls Tryz.prog 74 #[.agg (bitsA n)] w fun e w' => e = .returned (.agg (bitsA (4294967295 - n))) ∧ Below w.heap.size w w' := by
  go_enter Tryz.func74, Tryz.ntmps74
  go_wp2
  go_loopw [3] (fun i wr => ∃ k : Nat, k ≤ 32 ∧ i = .int .i64 k ∧ Blk wr w.heap.size (bitsF fun j => if j < k then !n.testBit j else n.testBit j) 156 ∧ Blk wr (w.heap.size + 1) (bitsF fun _ => false) 156 ∧ Below w.heap.size w wr) (fun i _ => 32 - (intOf i).toNat)
  case atStart => exact ⟨0, Nat.zero_le _, rfl, ((Blk.new w (bitsA n) 156 _ rfl).alloc _).of_eq (bitsF_congr (fun j hj => by simp)), Blk.new _ _ _ _ (by simp), (by repeat (first | assumption | exact Below.refl _ _ | refine bel_alloc ?_ _ | refine bel_drewN ?_ _ | refine bel_drew ?_ | refine bel_set ?_ (by first | (simp; done) | omega | (simp; omega)) _ | refine bel_trans ?_ (by assumption)))⟩
  case round =>
    obtain ⟨k, hk, rfl, hp, hz, hb⟩ := hrel
    by_cases hlt : k < 32
    · have g1 := blk_bit hp k hlt
      rw [if_neg (Nat.lt_irrefl k)] at g1
      have f1 := hp.facts.2.1 k
      have gb := hp.lt
      have HP := Lib.hid hp
      have HZ := Lib.hid hz
      clear hp hz
      go_wp2
      go_roundw
      case rel =>
        refine ⟨k + 1, by omega, by go_num, ?_, HZ.out.set (by omega), (by repeat (first | assumption | exact Below.refl _ _ | refine bel_alloc ?_ _ | refine bel_drewN ?_ _ | refine bel_drew ?_ | refine bel_set ?_ (by first | (simp; done) | omega | (simp; omega)) _ | refine bel_trans ?_ (by assumption)))⟩
        have h1 := HP.out.store k (.bool (!n.testBit k))
        rw [bitsF_set] at h1
        refine h1.of_eq (bitsF_congr (fun j hj => ?_))
        by_cases h : j = k
        · subst h; simp
        · by_cases h2 : j < k
          · simp [h, h2, show j < k + 1 by omega]
          · simp [h, h2, show ¬ j < k + 1 by omega]
      case measure => simp [intOf]; omega
    · obtain rfl : k = 32 := by omega
      have HP : Hid (Blk wr w.heap.size (bitsA (4294967295 - n)) 156) := Lib.hid (hp.of_eq (bitsF_congr (fun j hj => by rw [comp_bit n j hn]; simp [hj])))
      have HZ := Lib.hid hz
      clear hp hz
      go_wp2_with (first | (refine wpList_load_row rfl 156 (.tmp 1) rfl _ rfl 156 _ (0, 0) _ HP.out Tryz.underlying156 rfl (by rw [show (bitsA (4294967295 - n)).size = 32 from bitsF_size _]; exact info_row) ?_) | (refine wpList_store_row rfl 156 (.tmp 2) (.tmp 14) rfl _ (bitsA (4294967295 - n)) rfl rfl 156 _ HZ.out (by rw [show (bitsA (4294967295 - n)).size = 32 from bitsF_size _]; exact info_row) (by rw [bitsF_size]; exact (bitsF_size _).symm) (bitsF_one _) ?_))
      refine bodyPost_ret_by (v := .agg (bitsA (4294967295 - n))) ?_ rfl ⟨rfl, ?_⟩
      · exact results_cell1 (a := 2) rfl _ _ _ (w.heap.size + 1) rfl _ (run_loadVar_row _ _ 156 156 _ (0, 0) _ (blk_row HZ.out) Tryz.underlying156 rfl (by rw [show (bitsA (4294967295 - n)).size = 32 from bitsF_size _]; exact info_row))
      · exact bel_row hb (by omega) _
end Go.Proofs.YtaghmffgoomebaaGreat.Crc
namespace Go.Proofs.YtaghmffgoomebaaGreat.Crc
open Go.RowKit Mem Bytes Fix
set_option linter.unusedVariables false
set_option linter.unusedSimpArgs false
theorem bits_any' (n : Nat) (x : Int) (hx : x = n) (w : World) (hn : n < 4294967296) :
    Calls Tryz.prog 75 #[.int .u32 x] w fun e w' => e = .returned (.agg (bitsA n)) ∧ Below w.heap.size w w' := by
  subst hx; exact bits_any n w hn
def oddOf (R c k : Nat) : Bool := R.testBit 0 != c.testBit k
theorem rstep_bits (R c k j : Nat) : (rstep R c k).testBit j = (R.testBit (j + 1) != (oddOf R c k && poly.testBit j)) := rstep_bit
theorem bit32 {R : Nat} (h : R < 4294967296) : R.testBit 32 = false := Nat.testBit_lt_two_pow h
theorem poly_eq : (3988292384 : Int) = ((poly : Nat) : Int) := rfl
set_option maxRecDepth 100000 in
set_option maxHeartbeats 2000000 in
theorem rgo_any (A : Option Addr) (m c : Nat) (L : List Int) (w : World) (hm : m = L.length) (hm9 : m ≤ 9223372036854775807) (h : BS w A L) (hB : IsB L) :
    Calls Tryz.prog 49 #[.int .u32 0, .slice A m c] w fun e w' => e = .returned (.int .u32 ((crcV L : Nat) : Int)) ∧ Below w.heap.size w w' := by
  have H := Lib.hid h
  clear h
  have HM := Lib.hid hm
  clear hm
  go_enter Tryz.func49, Tryz.ntmps49
  go_wp2_with fail
  refine (bits_any' 0 _ rfl _ (by omega)).mono ?_
  rintro e w1 ⟨rfl, hbk⟩
  have HB1 : Below w.heap.size w w1 := bel_trans (Below.refl _ _) hbk
  clear hbk
  go_wp2_with fail
  refine (turned_any 0 _ (by omega)).mono ?_
  rintro e w2 ⟨rfl, hbk⟩
  have HB2 : Below w.heap.size w w2 := bel_trans HB1 hbk
  clear hbk HB1
  rw [Nat.sub_zero]
  go_wp2_with (refine wpList_store_row rfl 156 _ _ rfl _ _ rfl rfl 156 _ (Blk.new _ _ _ _ (by simp)) (by rw [show (bitsA 4294967295).size = 32 from bitsF_size _]; exact info_row) (by rw [show (bitsA 4294967295).size = 32 from bitsF_size _]; rfl) (bitsF_one _) ?_; rw [World.setRow_alloc_new])
  have HS2 : Hid (Blk (w2.alloc (.cells (bitsA 4294967295) 156)) w2.heap.size (bitsA 4294967295) 156) := Lib.hid (Blk.new _ _ _ _ rfl)
  refine (bits_any' poly _ poly_eq _ poly_lt).mono ?_
  rintro e w3 ⟨rfl, hb3⟩
  have HB3 : Below w.heap.size w w3 := bel_trans (bel_alloc HB2 _) hb3
  have HS3 := Lib.hid (HS2.out.below hb3)
  have hgs : w.heap.size ≤ w2.heap.size := HB2.size
  have hgs3 : w2.heap.size < w3.heap.size := HS3.out.lt
  clear hb3 HS2 HB2
  generalize w2.heap.size = gs at *
  go_wp2_with (refine wpList_store_row rfl 156 _ _ rfl _ _ rfl rfl 156 _ (Blk.new _ _ _ _ (by simp)) (by rw [show (bitsA poly).size = 32 from bitsF_size _]; exact info_row) (by rw [show (bitsA poly).size = 32 from bitsF_size _]; rfl) (bitsF_one _) ?_; rw [World.setRow_alloc_new])
  have HP4 : Hid (Blk (w3.alloc (.cells (bitsA poly) 156)) w3.heap.size (bitsA poly) 156) := Lib.hid (Blk.new _ _ _ _ rfl)
  have HS4 : Hid (Blk (w3.alloc (.cells (bitsA poly) 156)) gs (bitsA 4294967295) 156) := Lib.hid (HS3.out.alloc _)
  have HB4 : Below w.heap.size w (w3.alloc (.cells (bitsA poly) 156)) := bel_alloc HB3 _
  have hgp : w.heap.size ≤ w3.heap.size := HB3.size
  have hsp : gs ≠ w3.heap.size := by omega
  clear HS3 HB3
  generalize hw4 : w3.alloc (.cells (bitsA poly) 156) = w4 at *
  generalize w3.heap.size = gp at *
  clear hw4
  go_loopw [7] (fun i wr => ∃ k : Nat, k ≤ m ∧ i = .int .i64 k ∧ Blk wr gs (bitsA (crcL 4294967295 ((nats L).take k))) 156 ∧ Blk wr gp (bitsA poly) 156 ∧ Below w.heap.size w wr) (fun i _ => m - (intOf i).toNat)
  case atStart => exact ⟨0, Nat.zero_le _, rfl, HS4.out.of_eq (by rw [List.take_zero, crcL_nil]), HP4.out, HB4⟩
  case round =>
    obtain ⟨k, hk, rfl, hs, hp, hb⟩ := hrel
    have hlim := crcL_lt (n := 4294967295) (l := (nats L).take k) (by omega) (fun x hx => nats_lt hB x (List.mem_of_mem_take hx))
    clear HS4 HP4 HB4
    by_cases hlt : k < m
    · obtain ⟨b, off, x, rfl, hx, ht, hmem, g1, gb⟩ := Sl.at1 (H.out.below hb) k (by have := HM.out; omega)
      simp only [IE] at g1
      have hbx := hB x hmem
      have hx0 : 0 ≤ x := hbx.1
      have hx1 : x ≤ 255 := hbx.2
      have HR : Hid (crcL 4294967295 ((nats L).take (k + 1)) = turnN (crcL 4294967295 ((nats L).take k)) x.toNat) := Lib.hid (by
        rw [← crcL_snoc]; congr 1
        unfold nats
        rw [← List.map_take, ht, List.map_append, ← List.map_take]; rfl)
      have HS := Lib.hid hs
      have HP := Lib.hid hp
      clear hx ht hmem hbx hs hp
      generalize crcL 4294967295 ((nats L).take k) = S at *
      go_wp2_with fail
      refine (bits_any' x.toNat _ (by omega) _ (by omega)).mono ?_
      rintro e w5 ⟨rfl, hb5⟩
      have HB5 : Below w.heap.size w w5 := bel_trans hb hb5
      have HS5 := Lib.hid (HS.out.below hb5)
      have HP5 := Lib.hid (HP.out.below hb5)
      have hc5 : gs < w5.heap.size := HS5.out.lt
      have hc6 : gp < w5.heap.size := HP5.out.lt
      have hcc : x.toNat < 256 := by omega
      clear hb5 HS HP hb gb
      generalize x.toNat = cc at *
      go_wp2_with (refine wpList_store_row rfl 156 _ _ rfl _ _ rfl rfl 156 _ (Blk.new _ _ _ _ (by simp)) (by rw [show (bitsA cc).size = 32 from bitsF_size _]; exact info_row) (by rw [show (bitsA cc).size = 32 from bitsF_size _]; rfl) (bitsF_one _) ?_; rw [World.setRow_alloc_new])
      have HC6 : Hid (Blk (w5.alloc (.cells (bitsA cc) 156)) w5.heap.size (bitsA cc) 156) := Lib.hid (Blk.new _ _ _ _ rfl)
      have HS6 := Lib.hid (HS5.out.alloc (.cells (bitsA cc) 156))
      have HP6 := Lib.hid (HP5.out.alloc (.cells (bitsA cc) 156))
      have HB6 := Lib.hid (bel_alloc HB5 (.cells (bitsA cc) 156))
      have hgc : w.heap.size ≤ w5.heap.size := HB5.size
      have ne1 : gs ≠ w5.heap.size := by omega
      have ne2 : gp ≠ w5.heap.size := by omega
      clear HS5 HP5 HB5 g1
      generalize w5.alloc (.cells (bitsA cc) 156) = w6 at *
      generalize w5.heap.size = gc at *
      have hne : gs ≠ gp := hsp
      go_loopw [9] (fun i wr => ∃ q : Nat, q ≤ 8 ∧ i = .int .i64 q ∧ Blk wr gs (bitsA (rbyte S cc q)) 156 ∧ Blk wr gp (bitsA poly) 156 ∧ Blk wr gc (bitsA cc) 156 ∧ Below w.heap.size w wr) (fun i _ => 8 - (intOf i).toNat)
      case atStart => exact ⟨0, Nat.zero_le _, rfl, HS6.out, HP6.out, HC6.out, HB6.out⟩
      case round =>
        obtain ⟨q, hq, rfl, hs, hp, hcb, hb⟩ := hrel
        clear HS6 HP6 HC6 HB6
        by_cases hq8 : q < 8
        · have hRl := rbyte_lt (c := cc) (k := q) hlim
          have HRS : Hid (rbyte S cc (q + 1) = rstep (rbyte S cc q) cc q) := Lib.hid rfl
          generalize rbyte S cc q = R at *
          have g0 := blk_bit (f := fun j => R.testBit j) hs 0 (by omega)
          have g1 := blk_bit (f := fun j => cc.testBit j) hcb q (by omega)
          have HS := Lib.hid hs
          have HP := Lib.hid hp
          have HC := Lib.hid hcb
          have b0 := hs.lt
          have b1 := hcb.lt
          have b2 := hp.lt
          clear hs hp hcb
          have hq32 : (q : Int) < 32 := by omega
          have hq0 : (0 : Int) ≤ (q : Int) := by omega
          have hd8 : decide ((q : Int) < 8) = true := by simp; omega
          rcases hodd : oddOf R cc q with _ | _
          all_goals
            have HODD := Lib.hid hodd
            have hcq : cc.testBit q = (R.testBit 0 != oddOf R cc q) := by unfold oddOf; cases R.testBit 0 <;> cases cc.testBit q <;> rfl
            rw [hodd] at hcq
            simp only [hcq] at g1
            clear hcq hodd
            generalize R.testBit 0 = r0 at g0 g1
            rcases r0 with _ | _
            all_goals
              simp only [Bool.bne_true, Bool.bne_false, Bool.not_true, Bool.not_false] at g1
              go_wp2
              go_quiet (fail)
              go_wp2
              go_loopw [11] (fun i wr2 => ∃ j : Nat, j ≤ 31 ∧ i = .int .i64 j ∧ Blk wr2 gs (bitsF fun t => if t < j then (R.testBit (t + 1) != (oddOf R cc q && poly.testBit t)) else R.testBit t) 156 ∧ Blk wr2 gp (bitsA poly) 156 ∧ Blk wr2 gc (bitsA cc) 156 ∧ Below w.heap.size w wr2) (fun i _ => 31 - (intOf i).toNat)
              case atStart => exact ⟨0, Nat.zero_le _, rfl, (HS.out.drewN _).of_eq (bitsF_congr fun t ht => by simp), HP.out.drewN _, HC.out.drewN _, (by repeat (first | assumption | exact Below.refl _ _ | refine bel_alloc ?_ _ | refine bel_drewN ?_ _ | refine bel_drew ?_ | refine bel_set ?_ (by first | (simp; done) | omega | (simp; omega)) _ | refine bel_trans ?_ (by assumption)))⟩
              case round =>
                obtain ⟨j, hj, rfl, hs2, hp2, hc2, hb2⟩ := hrel
                by_cases hj31 : j < 31
                · have k0 := blk_bit hs2 (j + 1) (by omega)
                  rw [if_neg (by omega)] at k0
                  have k1 := blk_bit hs2 j (by omega)
                  rw [if_neg (by omega)] at k1
                  have kf := hs2.facts.2.1 j
                  have k2 := blk_bit (f := fun j => poly.testBit j) hp2 j (by omega)
                  have d0 := hs2.lt
                  have d1 := hp2.lt
                  have HS2 := Lib.hid hs2
                  have HP2 := Lib.hid hp2
                  have HC2 := Lib.hid hc2
                  have hj0 : (0 : Int) ≤ (j : Int) := by omega
                  have hj32 : (j : Int) < 32 := by omega
                  have hjj0 : (0 : Int) ≤ (j : Int) + 1 := by omega
                  have hjj : (j : Int) + 1 < 32 := by omega
                  have hwj : IntKind.i64.wrap ((j : Int) + 1) = (j : Int) + 1 := IntWalk.i64_in _ (by omega)
                  clear hs2 hp2 hc2
                  go_wp2
                  go_still_tail 13, (by kernel_rfl)
                  change wpList _ _ _ _ _ wr.drew
                  go_wp2
                  go_roundw
                  case rel =>
                    refine ⟨j + 1, by omega, by go_num, (Blk.store HS2.out j _).of_eq ?_, HP2.out.set (Ne.symm hne), HC2.out.set (Ne.symm ne1), (by repeat (first | assumption | exact Below.refl _ _ | refine bel_alloc ?_ _ | refine bel_drewN ?_ _ | refine bel_drew ?_ | refine bel_set ?_ (by first | (simp; done) | omega | (simp; omega)) _ | refine bel_trans ?_ (by assumption)))⟩
                    rw [bitsF_set]
                    refine bitsF_congr (fun t ht => ?_)
                    by_cases h : t = j
                    · subst h
                      rw [if_pos rfl, if_pos (Nat.lt_succ_self _), HODD.out]
                      cases R.testBit (t + 1) <;> cases poly.testBit t <;> rfl
                    · by_cases h2 : t < j
                      · rw [if_neg h, if_pos h2, if_pos (by omega)]
                      · rw [if_neg h, if_neg h2, if_neg (by omega)]
                  case measure => simp [intOf]; omega
                · obtain rfl : j = 31 := by omega
                  have k1 := blk_bit hs2 31 (by omega)
                  have kf := hs2.facts.2.1 31
                  have k2 := blk_bit (f := fun j => poly.testBit j) hp2 31 (by omega)
                  have d0 := hs2.lt
                  have d1 := hp2.lt
                  have HS2 := Lib.hid hs2
                  have HP2 := Lib.hid hp2
                  have HC2 := Lib.hid hc2
                  clear hs2 hp2 hc2
                  go_wp2
                  go_roundw
                  case rel =>
                    refine ⟨q + 1, by omega, by go_num, (Blk.store HS2.out 31 _).of_eq ?_, HP2.out.set (Ne.symm hne), HC2.out.set (Ne.symm ne1), (by repeat (first | assumption | exact Below.refl _ _ | refine bel_alloc ?_ _ | refine bel_drewN ?_ _ | refine bel_drew ?_ | refine bel_set ?_ (by first | (simp; done) | omega | (simp; omega)) _ | refine bel_trans ?_ (by assumption)))⟩
                    rw [bitsF_set, HRS.out]
                    refine bitsF_congr (fun t ht => ?_)
                    rw [rstep_bits, HODD.out]
                    by_cases h : t = 31
                    · subst h
                      rw [if_pos rfl, bit32 hRl]
                      first | rfl | (cases poly.testBit 31 <;> rfl)
                    · rw [if_neg h, if_pos (by omega)]
                  case measure => simp [intOf]; omega
        · obtain rfl : q = 8 := by omega
          have HS := Lib.hid hs
          have HP := Lib.hid hp
          clear hs hp hcb
          go_wp2
          go_roundw
          case rel => exact ⟨k + 1, by omega, by go_num, HS.out.of_eq (by rw [HR.out, turn_eq _ _ hcc]), HP.out, hb⟩
          case measure => simp [intOf]; omega
    · obtain rfl : k = m := by omega
      have e1 : (nats L).take k = nats L := List.take_of_length_le (by unfold nats; rw [List.length_map]; have := HM.out; omega)
      rw [e1] at hs hlim
      have HV : Hid (crcV L = 4294967295 - crcL 4294967295 (nats L)) := Lib.hid rfl
      have HS := Lib.hid hs
      clear hs hp e1
      generalize crcL 4294967295 (nats L) = S at *
      go_wp2_with (refine wpList_load_row rfl 156 (.tmp 5) rfl _ rfl 156 _ (0, 0) _ HS.out Tryz.underlying156 rfl (by rw [show (bitsA S).size = 32 from bitsF_size _]; exact info_row) ?_)
      refine (turned_any S _ hlim).mono ?_
      rintro e w5 ⟨rfl, hb5⟩
      have HB5 : Below w.heap.size w w5 := bel_trans hb hb5
      clear hb5 HS
      go_wp2_with fail
      refine (number_any (4294967295 - S) _ (by omega)).mono ?_
      rintro e w6 ⟨rfl, hb6⟩
      have HB6 : Below w.heap.size w w6 := bel_trans HB5 hb6
      clear hb6
      go_wp2
      go_ret
      exact ⟨by rw [HV.out]; rfl, HB6⟩
end Go.Proofs.YtaghmffgoomebaaGreat.Crc
namespace Go.Proofs.YtaghmffgoomebaaGreat.Page
open Go.RowKit Mem Bytes Fix Crc
set_option linter.unusedVariables false
set_option linter.unusedSimpArgs false
/-- A page ahead of its sum. -/
def pg (k : Int) (L : List Int) : List Int := [157, 76, k, (L.length : Int)] ++ L ++ List.replicate (120 - L.length) 0
def page (k : Int) (L : List Int) : List Int := pg k L ++ le (crcV (pg k L) : Nat) 4
theorem pg_length {k : Int} {L : List Int} (h : L.length ≤ 120) : (pg k L).length = 124 := by simp [pg]; omega
theorem page_length {k : Int} {L : List Int} (h : L.length ≤ 120) : (page k L).length = 128 := by simp [page, pg_length h, le_length]
theorem pg_isB {k : Int} {L : List Int} (hk : 0 ≤ k ∧ k ≤ 255) (hL : L.length ≤ 120) (h : IsB L) : IsB (pg k L) :=
  ((IsB.cons (by omega) (IsB.cons (by omega) (IsB.cons hk (IsB.cons (by omega) IsB.nil)))).append h).append (IsB.replicate _)
theorem page_isB {k : Int} {L : List Int} (hk : 0 ≤ k ∧ k ≤ 255) (hL : L.length ≤ 120) (h : IsB L) : IsB (page k L) := (pg_isB hk hL h).append (le_isB _ _)
theorem _root_.Go.Proofs.YtaghmffgoomebaaGreat.Fix.OB.sl {w : World} {base : Nat} {v : Value} {L : List Int} (h : OB w base v L) (n : Nat) (hn : L.length = n) :
    ∃ A c, v = .slice A n c ∧ BS w A L ∧ n ≤ c ∧ c ≤ maxLen ∧ (A = none → c = 0) ∧ (∀ a, A = some a → base ≤ a.block ∧ a.block < w.heap.size) := by
  subst hn; exact OwnL.sl h
theorem crcV_lt (L : List Int) : crcV L < 4294967296 := by unfold crcV; omega
theorem kind_yes (k : Int) (w : World) (h1 : 1 ≤ k) (h2 : k ≤ 6) : Calls Tryz.prog 108 #[.int .i64 k] w fun e w' => e = .returned (.bool true) ∧ w = w' := by
  have d1 : decide (1 ≤ k) = true := by simpa using h1
  go_enter Tryz.func108, Tryz.ntmps108
  go_wp2
  go_ret
  exact ⟨rfl, rfl⟩
theorem kind_no (k : Int) (w : World) (h : k < 1 ∨ (1 ≤ k ∧ 6 < k)) : Calls Tryz.prog 108 #[.int .i64 k] w fun e w' => e = .returned (.bool false) ∧ w = w' := by
  rcases h with h | ⟨h1, h2⟩
  · have d1 : decide (1 ≤ k) = false := by simpa using h
    go_enter Tryz.func108, Tryz.ntmps108
    go_wp2
    go_ret
    exact ⟨rfl, rfl⟩
  · have d1 : decide (1 ≤ k) = true := by simpa using h1
    have d2 : decide (k ≤ 6) = false := by simpa using h2
    go_enter Tryz.func108, Tryz.ntmps108
    go_wp2
    go_ret
    exact ⟨rfl, rfl⟩
theorem zero_B : ∃ (i : TypeInfo) (z : Value), Tryz.prog.info? 5 = some i ∧ i.zero = some z ∧ i.size = 1 ∧ i.bytes = 1 ∧ z.cells = #[.int .u8 0] := by
  obtain ⟨i, h0, h1, h2, h3⟩ := info_parts (show (Tryz.prog.info? 5).map (fun i => (i.zero, i.size, i.bytes)) = some (some (.int .u8 0), 1, 1) by kernel_rfl)
  exact ⟨i, _, h0, h1, h2, h3, rfl⟩
/-- make([]byte, 0, n). -/
theorem made (n : Nat) (hn : n ≤ 100000) : ∃ cs : Array Value, cs.size = n ∧ ∀ w, (Instr.makeSlice 23 (.int .i64 0) (.int .i64 (n : Int))).run Tryz.prog w = .ok (.slice (some ⟨w.heap.size, 0, none⟩) 0 n) (w.alloc (.cells cs 5)) := by
  obtain ⟨i, z, hi, hz, hs, hb, hzc⟩ := elt_B.hi
  refine ⟨madeCells z.cells (n * i.size), by rw [size_madeCells, hs, Nat.mul_one], fun w => ?_⟩
  have := run_make (P := Tryz.prog) w 23 5 i z elt_B.ht hi hz .i64 .i64 0 (n : Int) (by omega) (by omega) (by rw [hb]; omega) (by omega)
  simpa using this
set_option maxRecDepth 100000 in
set_option maxHeartbeats 1000000 in
theorem put_ok (k : Int) (A : Option Addr) (m c : Nat) (L : List Int) (w : World) (h1 : 1 ≤ k) (h2 : k ≤ 6) (hm : m = L.length) (hm2 : m ≤ 120) (h : BS w A L) (hB : IsB L) :
    Calls Tryz.prog 102 #[.int .i64 k, .slice A m c] w fun e w' => ∃ v, e = .returned (.tuple #[v, .int .i64 0]) ∧ OB w' w.heap.size v (page k L) ∧ Below w.heap.size w w' := by
  have H := Lib.hid h
  clear h
  have HM := Lib.hid hm
  clear hm
  obtain ⟨cs, hcs, hmk⟩ := made 128 (by omega)
  have HCS := Lib.hid hcs
  clear hcs
  replace hmk : ∀ w, (Instr.makeSlice 23 (.int .i64 0) (.int .i64 128)).run Tryz.prog w = .ok (.slice (some ⟨w.heap.size, 0, none⟩) 0 128) (w.alloc (.cells cs 5)) := hmk
  go_enter Tryz.func102, Tryz.ntmps102
  go_wp2_with fail
  refine (kind_yes k _ h1 h2).mono ?_
  rintro e w' ⟨rfl, rfl⟩
  go_wp2_with fail
  have HO0 : Hid (OB (w.alloc (.cells cs 5)) w.heap.size (.slice (some ⟨w.heap.size, 0, none⟩) 0 128) []) := Lib.hid (OwnL.made _ rfl (Nat.le_refl _) (by unfold maxLen; omega) (by rw [HCS.out]))
  have HB0 : Below w.heap.size w (w.alloc (.cells cs 5)) := (by repeat (first | assumption | exact Below.refl _ _ | refine bel_alloc ?_ _ | refine bel_drewN ?_ _ | refine bel_drew ?_ | refine bel_set ?_ (by first | (simp; done) | omega | (simp; omega)) _ | refine bel_trans ?_ (by assumption)))
  clear hmk
  refine (put_any w.heap.size _ [] 19613 2 2 _ rfl (by omega) (by omega) HO0.out (by simp) (by simp)).mono ?_
  rintro e w2 ⟨v2, rfl, ho2, hg2⟩
  have HB2 : Below w.heap.size w w2 := hg2.bel HB0 HO0.out
  have HO2 := Lib.hid ho2
  clear ho2 hg2 HO0 HB0
  go_wp2_with (first
    | (at_builtin; refine wpList_append_sl _ rfl (.tmp 15) (.tmp 21) 23 rfl elt_B w.heap.size (IE .u8) _ _ rfl (HO2.out.alloc _) _ _ _ _ rfl rfl (sl_lit _ _ [_, _] _ _ _ (by simp) rfl) (fun _ _ => rfl) (by simp [le_length, maxLen]) (by simp [le_length]) (by have := HB2.size; simp; omega) ?_; intro v3 w3 hown3 hgrow3; have HO3 := Lib.hid hown3; have HB3 : Below w.heap.size w w3 := hgrow3.bel (bel_alloc HB2 _) (HO2.out.alloc _); clear hown3 hgrow3)
    | (at_builtin; refine wpList_append_sl _ rfl (.tmp 23) (.tmp 24) 23 rfl elt_B w.heap.size (IE .u8) _ _ rfl HO3.out _ _ _ L rfl HM.out (H.out.below HB3) (fun _ _ => rfl) (by have := HM.out; simp [le_length, maxLen]; omega) (by have := HM.out; simp [le_length]; omega) (by have := HB3.size; omega) ?_; intro v4 w4 hown4 hgrow4; have HO4 := Lib.hid hown4; have HB4 : Below w.heap.size w w4 := hgrow4.bel HB3 HO3.out; clear hown4 hgrow4)
    | (at_builtin; refine wpList_append_zeros _ rfl (.tmp 26) (.tmp 29) 23 3 rfl elt_B.ht .i64 Tryz.underlying3 (.int .u8 0) zero_B rfl w.heap.size (IE .u8) 0 (fun _ => rfl) _ _ rfl HO4.out .i64 (120 - m) _ rfl (by omega) (by have := HM.out; simp [le_length, maxLen]; omega) (by have := HM.out; simp [le_length]; omega) (by have := HB4.size; omega) ?_; intro v5 w5 hown5 hgrow5; have HB5 : Below w.heap.size w w5 := hgrow5.bel HB4 HO4.out; have HO5 : Hid (OB w5 w.heap.size v5 (pg k L)) := Lib.hid (OB.of_eq hown5 (by unfold pg; rw [← HM.out]; rfl)); clear hown5 hgrow5; obtain ⟨A5, c5, rfl, hs5, _⟩ := HO5.out.sl 124 (pg_length (by have := HM.out; omega)); have HS5 := Lib.hid hs5; clear hs5))
  have HPB := Lib.hid (pg_isB (k := k) (by omega) (by have := HM.out; omega) hB)
  have hq := crcV_lt (pg k L)
  refine (of_any _ _ A5 124 c5 (pg k L) _ (by simp) (by rw [pg_length (by have := HM.out; omega)]) (by omega) (by exact Sl.alloc HS5.out _) HPB.out).mono ?_
  rintro e w6 ⟨rfl, hb6⟩
  have HB6 : Below w.heap.size w w6 := bel_trans (bel_alloc HB5 _) hb6
  have HO6 := Lib.hid ((OwnL.alloc HO5.out _).below hb6)
  have HP : Hid (page k L = pg k L ++ le (crcV (pg k L) : Nat) 4) := Lib.hid rfl
  clear hb6 HO5
  generalize crcV (pg k L) = q at *
  go_wp2_with fail
  refine (put_any w.heap.size _ (pg k L) (q : Int) 4 4 _ rfl (by omega) (by omega) (by exact HO6.out) (by have := pg_length (k := k) (L := L) (by have := HM.out; omega); omega) (by have := HB6.size; omega)).mono ?_
  rintro e w7 ⟨v7, rfl, ho7, hg7⟩
  have HB7 : Below w.heap.size w w7 := hg7.bel HB6 HO6.out
  have HO7 := Lib.hid ho7
  clear ho7 hg7
  go_wp2
  go_ret2
  exact ⟨_, rfl, HO7.out.of_eq HP.out.symm, HB7⟩
end Go.Proofs.YtaghmffgoomebaaGreat.Page
namespace Go.Proofs.YtaghmffgoomebaaGreat.Page
open Go.RowKit Mem Bytes Fix Crc
set_option linter.unusedVariables false
set_option linter.unusedSimpArgs false
def pz (k : Int) (L : List Int) (j : Nat) : List Int := [157, 76, k, (L.length : Int)] ++ L ++ List.replicate j 0
theorem pz_length (k : Int) (L : List Int) (j : Nat) : (pz k L j).length = 4 + L.length + j := by simp [pz]; omega
theorem pz_succ (k : Int) (L : List Int) (j : Nat) : pz k L j ++ [0] = pz k L (j + 1) := by
  unfold pz
  rw [List.append_assoc, ← List.replicate_succ']
theorem pz_pg (k : Int) (L : List Int) : pz k L (120 - L.length) = pg k L := rfl
set_option maxRecDepth 100000 in
set_option maxHeartbeats 1000000 in
theorem rpput_any (k : Int) (A : Option Addr) (m c : Nat) (L : List Int) (w : World) (h1 : 1 ≤ k) (h2 : k ≤ 6) (hm : m = L.length) (hm2 : m ≤ 120) (h : BS w A L) (hB : IsB L) :
    Calls Tryz.prog 29 #[.int .i64 k, .slice A m c] w fun e w' => ∃ v, e = .returned v ∧ OB w' w.heap.size v (page k L) ∧ Below w.heap.size w w' := by
  have H := Lib.hid h
  clear h
  have HM := Lib.hid hm
  clear hm
  have HZL := Lib.hid (pz_length k L)
  go_enter Tryz.func29, Tryz.ntmps29
  go_wp2_with (at_builtin; refine wpList_append_sl _ rfl (.tmp 12) (.tmp 13) 23 rfl elt_B w.heap.size (IE .u8) _ _ rfl (OwnL.lit w 5 (IE .u8) [157, 76, _, _] _ 4 _ (Nat.le_refl _) _ rfl rfl (by unfold maxLen; omega) rfl) _ _ _ L rfl HM.out (H.out.alloc _) (fun _ _ => rfl) (by have := HM.out; simp [maxLen]; omega) (by have := HM.out; simp; omega) (by simp) ?_; intro v1 w1 hown1 hgrow1; have HB1 : Below w.heap.size w w1 := hgrow1.bel (by repeat (first | assumption | exact Below.refl _ _ | refine bel_alloc ?_ _ | refine bel_drewN ?_ _ | refine bel_drew ?_ | refine bel_set ?_ (by first | (simp; done) | omega | (simp; omega)) _ | refine bel_trans ?_ (by assumption))) (OwnL.lit w 5 (IE .u8) [157, 76, _, _] _ 4 _ (Nat.le_refl _) _ rfl rfl (by unfold maxLen; omega) rfl); have HO1 : Hid (OB w1 w.heap.size v1 (pz k L 0)) := Lib.hid (OB.of_eq hown1 (by unfold pz; rw [← HM.out]; simp)); clear hown1 hgrow1)
  obtain ⟨A1, c1, rfl, hs1, _⟩ := HO1.out.sl (4 + m + 0) (by have := HZL.out 0; have := HM.out; omega)
  clear hs1
  go_loopg [5] (120 - m) (fun kx v wr => ∃ j : Nat, j + kx = 120 - m ∧ OB wr w.heap.size v (pz k L j) ∧ Below w.heap.size w wr ∧ ∃ A c, v = .slice A (4 + m + j) c)
  case atStart => exact ⟨0, by omega, HO1.out, HB1, _, _, rfl⟩
  case round =>
    obtain ⟨j, hj, ho, hb, A2, c2, rfl⟩ := hrel
    have HO := Lib.hid ho
    clear ho HO1 HB1
    by_cases hlt : j < 120 - m
    · have d1 : decide (((4 + m + j : Nat) : Int) < 124) = true := by simp; omega
      go_wp2_with (at_builtin; refine wpList_append_sl _ rfl (.tmp 18) (.tmp 19) 23 rfl elt_B w.heap.size (IE .u8) _ _ rfl (HO.out.alloc _) _ _ _ [0] rfl rfl (sl_one _ _ _ _ _ _ (by simp) rfl) (fun _ _ => rfl) (by have := HZL.out j; have := HM.out; simp only [List.length_singleton]; unfold maxLen; omega) (by have := HZL.out j; have := HM.out; simp only [List.length_singleton]; omega) (by have := hb.size; simp; omega) ?_; intro v3 w3 hown3 hgrow3; have HO3 : Hid (OB w3 w.heap.size v3 (pz k L (j + 1))) := Lib.hid (OB.of_eq hown3 (pz_succ k L j)); have HB3 : Below w.heap.size w w3 := hgrow3.bel (bel_alloc hb _) (HO.out.alloc _); clear hown3 hgrow3)
      obtain ⟨A3, c3, rfl, hs3, _⟩ := HO3.out.sl (4 + m + (j + 1)) (by have := HZL.out (j + 1); have := HM.out; omega)
      clear hs3
      go_roundg (120 - m - (j + 1))
      case measure => omega
      case rel => exact ⟨j + 1, by omega, HO3.out, HB3, _, _, rfl⟩
    · obtain rfl : j = 120 - m := by omega
      have HP : Hid (OB wr w.heap.size (.slice A2 124 c2) (pg k L)) := Lib.hid (by
        have h3 := HO.out
        rw [show 4 + m + (120 - m) = 124 by omega] at h3
        exact h3.of_eq (by rw [HM.out]; exact pz_pg k L))
      rw [show 4 + m + (120 - m) = 124 by omega]
      clear HO
      have HPB := Lib.hid (pg_isB (k := k) (by omega) (by have := HM.out; omega) hB)
      have HPL := Lib.hid (pg_length (k := k) (L := L) (by have := HM.out; omega))
      obtain ⟨A4, c4, e4, hs4, _⟩ := HP.out.sl 124 HPL.out
      obtain ⟨rfl, rfl⟩ : A2 = A4 ∧ c2 = c4 := by injection e4 with e5 e6 e7; exact ⟨e5, e7⟩
      have HS := Lib.hid hs4
      clear hs4 e4
      go_wp2_with fail
      refine (rgo_any A2 124 c2 (pg k L) _ HPL.out.symm (by omega) (by exact HS.out) HPB.out).mono ?_
      rintro e w6 ⟨rfl, hb6⟩
      have HB6 : Below w.heap.size w w6 := bel_trans hb hb6
      have HS6 := Lib.hid (HS.out.below hb6)
      have hq := crcV_lt (pg k L)
      have HPP : Hid (page k L = pg k L ++ le (crcV (pg k L) : Nat) 4) := Lib.hid rfl
      clear hb6 HP HS
      generalize crcV (pg k L) = q at *
      go_wp2_with fail
      refine (rput_any A2 124 c2 (pg k L) (q : Int) 4 4 _ rfl (by omega) (by omega) (by omega) HPL.out.symm (by exact HS6.out) (by omega)).mono ?_
      rintro e w7 ⟨v7, rfl, ho7, hb7⟩
      have HB7 : Below w.heap.size w w7 := bel_trans HB6 hb7
      have HO7 := Lib.hid (OwnL.mono ho7 HB6.size)
      clear ho7 hb7
      go_wp2
      go_ret
      exact ⟨_, rfl, OB.of_eq HO7.out HPP.out.symm, HB7⟩
end Go.Proofs.YtaghmffgoomebaaGreat.Page
namespace Go.Proofs.YtaghmffgoomebaaGreat.Page
open Go.RowKit Mem Bytes Fix Crc
set_option linter.unusedVariables false
set_option linter.unusedSimpArgs false
/-- The bytes of a page whose fourth byte is n. -/
def body (L : List Int) (n : Nat) : List Int := (L.drop 4).take n
/-- What Get tells: kind, bytes, error. -/
def getS (L : List Int) : Int × List Int × Int :=
  if L.length ≠ 128 then (0, [], 12)
  else if ¬ (1 ≤ L.getD 2 0 ∧ L.getD 2 0 ≤ 6) ∨ 120 < L.getD 3 0 then (0, [], 21)
  else if L.take 124 ≠ pg (L.getD 2 0) (body L (L.getD 3 0).toNat) then (0, [], 21)
  else if L ≠ page (L.getD 2 0) (body L (L.getD 3 0).toNat) then (0, [], 22)
  else (L.getD 2 0, body L (L.getD 3 0).toNat, 0)
theorem body_length {L : List Int} {n : Nat} (h : L.length = 128) (hn : n ≤ 120) : (body L n).length = n := by
  unfold body; rw [List.length_take, List.length_drop]; omega
theorem body_isB {L : List Int} {n : Nat} (h : IsB L) : IsB (body L n) := (h.drop 4).take n
theorem four {L : List Int} (h : L.length = 128) : L.take 4 = [L.getD 0 0, L.getD 1 0, L.getD 2 0, L.getD 3 0] := by
  rcases L with _ | ⟨a, _ | ⟨b, _ | ⟨c, _ | ⟨d, l⟩⟩⟩⟩
  all_goals first | rfl | (simp at h)
theorem head_eq {L : List Int} (h : L.length = 128) (hB : IsB L) {k n : Int} (hk : L.getD 2 0 = k) (hn : L.getD 3 0 = n) (hn2 : n ≤ 120) (hn0 : 0 ≤ n) :
    L.take 124 = pg k (body L n.toNat) ↔ num (L.take 2) = 19613 ∧ ∀ x ∈ (L.take 124).drop (4 + n.toNat), x = 0 := by
  have hbl := body_length h (show n.toNat ≤ 120 by omega)
  have e0 : L.take 124 = L.take 4 ++ (body L n.toNat ++ (L.take 124).drop (4 + n.toNat)) := by
    have h1 : L.take 124 = (L.take 124).take 4 ++ (L.take 124).drop 4 := (List.take_append_drop 4 _).symm
    have h2 : (L.take 124).drop 4 = ((L.take 124).drop 4).take n.toNat ++ ((L.take 124).drop 4).drop n.toNat := (List.take_append_drop n.toNat _).symm
    rw [List.take_take, Nat.min_eq_left (by omega)] at h1
    have h3 : ((L.take 124).drop 4).take n.toNat = body L n.toNat := by
      unfold body
      rw [List.drop_take, List.take_take, Nat.min_eq_left (by omega)]
    rw [h3, List.drop_drop] at h2
    rw [← h2]; exact h1
  have e1 : pg k (body L n.toNat) = [157, 76, k, n] ++ (body L n.toNat ++ List.replicate (120 - n.toNat) 0) := by
    unfold pg
    rw [hbl, List.append_assoc, Int.toNat_of_nonneg hn0]
  have hl : ((L.take 124).drop (4 + n.toNat)).length = 120 - n.toNat := by rw [List.length_drop, List.length_take]; omega
  have h2 : L.take 2 = [L.getD 0 0, L.getD 1 0] := by
    have := congrArg (List.take 2) (four h)
    rw [List.take_take] at this
    exact this
  have b0 : 0 ≤ L.getD 0 0 ∧ L.getD 0 0 ≤ 255 := hB _ (by rw [List.getD_eq_getElem?_getD, List.getElem?_eq_getElem (by omega)]; exact List.getElem_mem _)
  have b1 : 0 ≤ L.getD 1 0 ∧ L.getD 1 0 ≤ 255 := hB _ (by rw [List.getD_eq_getElem?_getD, List.getElem?_eq_getElem (by omega)]; exact List.getElem_mem _)
  have hnum : num (L.take 2) = L.getD 0 0 + 256 * L.getD 1 0 := by rw [h2]; simp [num]
  rw [e1, hnum]
  constructor
  · intro he
    have h3 := e0.symm.trans he
    rw [four h, hk, hn] at h3
    have h4 := List.append_inj h3 rfl
    have h5 := List.append_inj h4.2 rfl
    refine ⟨?_, fun x hx => ?_⟩
    · have := h4.1
      simp only [List.cons.injEq] at this
      rw [this.1, this.2.1]; omega
    · rw [h5.2] at hx
      exact List.eq_of_mem_replicate hx
  · rintro ⟨hm, hz⟩
    rw [e0, four h, hk, hn]
    have g0 : L.getD 0 0 = 157 := by omega
    have g1 : L.getD 1 0 = 76 := by omega
    rw [g0, g1]
    congr 2
    rw [← hl]
    exact List.eq_replicate_of_mem hz
theorem sum_eq {L : List Int} (h : L.length = 128) (hB : IsB L) {k : Int} {B : List Int} (h1 : L.take 124 = pg k B) :
    L = page k B ↔ num (L.drop 124) = (crcV (L.take 124) : Nat) := by
  have e : L = L.take 124 ++ L.drop 124 := (List.take_append_drop 124 L).symm
  have hd : (L.drop 124).length = 4 := by rw [List.length_drop]; omega
  have hlt := crcV_lt (pg k B)
  have hnl : num (le (crcV (pg k B) : Nat) 4) = (crcV (pg k B) : Nat) := by
    rw [num_le _ (by omega)]
    exact Int.emod_eq_of_lt (by omega) (by have : (256 : Int) ^ 4 = 4294967296 := by decide
                                           omega)
  unfold page
  constructor
  · intro he
    rw [h1]
    have h2 : L.take 124 ++ L.drop 124 = pg k B ++ le (crcV (pg k B) : Nat) 4 := by rw [← e]; exact he
    rw [h1] at h2
    have h3 := List.append_cancel_left h2
    rw [h3, hnl]
  · intro he
    rw [h1] at he
    conv => lhs; rw [e]
    rw [h1]
    congr 1
    refine num_inj (hB.drop 124) (le_isB _ _) (by rw [hd, le_length]) ?_
    rw [he, hnl]

theorem getS_bad {L : List Int} (h : L.length = 128) {k n : Int} (hk : L.getD 2 0 = k) (hn : L.getD 3 0 = n) (hx : ¬ (1 ≤ k ∧ k ≤ 6) ∨ 120 < n ∨ L.take 124 ≠ pg k (body L n.toNat)) : getS L = (0, [], 21) := by
  unfold getS
  rw [if_neg (by omega), hk, hn]
  by_cases h1 : ¬ (1 ≤ k ∧ k ≤ 6) ∨ 120 < n
  · rw [if_pos h1]
  · rw [if_neg h1, if_pos]
    rcases hx with h2 | h2 | h2
    · exact absurd (.inl h2) h1
    · exact absurd (.inr h2) h1
    · exact h2
theorem getS_sum {L : List Int} (h : L.length = 128) {k n : Int} (hk : L.getD 2 0 = k) (hn : L.getD 3 0 = n) (h1 : 1 ≤ k) (h2 : k ≤ 6) (h3 : n ≤ 120) (h4 : L.take 124 = pg k (body L n.toNat)) (h5 : L ≠ page k (body L n.toNat)) : getS L = (0, [], 22) := by
  unfold getS
  rw [if_neg (by omega), hk, hn, if_neg (by omega), if_neg (by simpa using h4), if_pos h5]
theorem getS_ok {L : List Int} (h : L.length = 128) {k n : Int} (hk : L.getD 2 0 = k) (hn : L.getD 3 0 = n) (h1 : 1 ≤ k) (h2 : k ≤ 6) (h3 : n ≤ 120) (h4 : L.take 124 = pg k (body L n.toNat)) (h5 : L = page k (body L n.toNat)) : getS L = (k, body L n.toNat, 0) := by
  unfold getS
  rw [if_neg (by omega), hk, hn, if_neg (by omega), if_neg (by simpa using h4), if_neg (by simpa using h5)]
theorem sub_at {w : World} {b off : Nat} {L : List Int} (h : BS w (some ⟨b, off, none⟩) L) (lo : Nat) (hlo : lo < L.length) : BS w (some ⟨b, off + lo, none⟩) (L.drop lo) := by
  obtain ⟨b', off', e, hs⟩ := Sl.drop h lo hlo
  injection e with e; injection e with e1 e2; subst e1; subst e2
  rw [Nat.mul_one] at hs
  exact hs
/-- A slice that is new. -/
def NewA (w : World) (A : Option Addr) (c : Nat) : Prop := (∀ a, A = some a → w.heap.size ≤ a.block) ∧ c ≤ maxLen
/-- What a reader of pages ends with. -/
def GetRes (w w' : World) (e : Ending) (r : Int × List Int × Int) : Prop := ∃ A n c, n = r.2.1.length ∧ e = .returned (.tuple #[.int .i64 r.1, .slice A n c, .int .i64 r.2.2]) ∧ BS w' A r.2.1 ∧ n ≤ c ∧ (A = none → c = 0) ∧ Below w.heap.size w w' ∧ NewA w A c
theorem GetRes.nil {w w' : World} {e : Ending} {k code : Int} (h : e = .returned (.tuple #[.int .i64 k, .slice none 0 0, .int .i64 code]) ∧ Below w.heap.size w w') : GetRes w w' e (k, [], code) :=
  ⟨none, 0, 0, rfl, h.1, Sl.nil, Nat.le_refl _, fun _ => rfl, h.2, fun a ha => (by cases ha), Nat.zero_le _⟩
theorem bs_get {w : World} {A : Option Addr} {L : List Int} (h : BS w A L) (i : Nat) (hi : i < L.length) : ∃ b off, A = some ⟨b, off, none⟩ ∧ w.cell? ⟨b, off + i, none⟩ = some (.int .u8 (L.getD i 0)) ∧ b < w.heap.size := by
  obtain ⟨b, off, x, e, hx, _, _, hc, hb⟩ := Sl.at1 h i hi
  refine ⟨b, off, e, ?_, hb⟩
  rw [hc, List.getD_eq_getElem?_getD, hx]; rfl
set_option maxRecDepth 100000 in
set_option maxHeartbeats 1000000 in
theorem get_short (A : Option Addr) (m c : Nat) (w : World) (hm : m ≠ 128) : Calls Tryz.prog 78 #[.slice A m c] w fun e w' => e = .returned (.tuple #[.int .i64 0, .slice none 0 0, .int .i64 12]) ∧ Below w.heap.size w w' := by
  have d1 : ((m : Int) != 128) = true := by simp; omega
  have HM := Lib.hid hm
  clear hm
  go_enter Tryz.func78, Tryz.ntmps78
  go_wp2
  go_ret3
  exact ⟨rfl, (by repeat (first | assumption | exact Below.refl _ _ | refine bel_alloc ?_ _ | refine bel_drewN ?_ _ | refine bel_drew ?_ | refine bel_set ?_ (by first | (simp; done) | omega | (simp; omega)) _ | refine bel_trans ?_ (by assumption)))⟩
set_option maxRecDepth 100000 in
set_option maxHeartbeats 1000000 in
theorem get_any128 (b off c : Nat) (L : List Int) (w : World) (hm : L.length = 128) (hc : 128 ≤ c) (h : BS w (some ⟨b, off, none⟩) L) (hB : IsB L) :
    Calls Tryz.prog 78 #[.slice (some ⟨b, off, none⟩) 128 c] w fun e w' => GetRes w w' e (getS L) := by
  have H := Lib.hid h
  clear h
  have HM := Lib.hid hm
  clear hm
  obtain ⟨b', off', e1, g3, gb⟩ := bs_get H.out 3 (by rw [HM.out]; omega)
  obtain ⟨rfl, rfl⟩ : b = b' ∧ off = off' := by injection e1 with e1; injection e1 with e1 e2; exact ⟨e1, e2⟩
  obtain ⟨b', off', e2, g2, _⟩ := bs_get H.out 2 (by rw [HM.out]; omega)
  obtain ⟨rfl, rfl⟩ : b = b' ∧ off = off' := by injection e2 with e1; injection e1 with e1 e2; exact ⟨e1, e2⟩
  clear e1 e2
  have bk : 0 ≤ L.getD 2 0 ∧ L.getD 2 0 ≤ 255 := hB _ (by rw [List.getD_eq_getElem?_getD, List.getElem?_eq_getElem (by rw [HM.out]; omega)]; exact List.getElem_mem _)
  have bn : 0 ≤ L.getD 3 0 ∧ L.getD 3 0 ≤ 255 := hB _ (by rw [List.getD_eq_getElem?_getD, List.getElem?_eq_getElem (by rw [HM.out]; omega)]; exact List.getElem_mem _)
  have HT2 : Hid (BS w (some ⟨b, off, none⟩) (L.take 2)) := Lib.hid (Sl.take H.out 2)
  generalize hk : L.getD 2 0 = k at *
  generalize hn : L.getD 3 0 = n at *
  have HK := Lib.hid hk
  have HN := Lib.hid hn
  clear hk hn
  go_enter Tryz.func78, Tryz.ntmps78
  go_wp2_with fail
  refine (get_any _ 2 c (L.take 2) _ (by rw [List.length_take, HM.out]; rfl) (by omega) (fun h => by cases h) (by exact HT2.out) (hB.take 2) (by omega)).mono ?_
  rintro e w1 ⟨rfl, hb1⟩
  have g2' := keep_below hb1 _ _ g2
  have gb1 : b < w1.heap.size := Nat.lt_of_lt_of_le gb hb1.size
  have H1 := Lib.hid (Sl.below H.out hb1)
  have HNUM := Lib.hid (show num (L.take 2) = num (L.take 2) from rfl)
  clear g2 g3
  by_cases c1 : num (L.take 2) = 19613
  · rw [c1]
    have HC1 := Lib.hid c1
    clear c1 HNUM
    by_cases c2 : 1 ≤ k ∧ k ≤ 6
    · obtain ⟨k1, k2⟩ := c2
      go_wp2_with fail
      refine (kind_yes k _ k1 k2).mono ?_
      rintro e w' ⟨rfl, rfl⟩
      by_cases c3 : n ≤ 120
      · obtain ⟨nn, rfl⟩ : ∃ nn : Nat, n = nn := ⟨n.toNat, by omega⟩
        have hnn : nn ≤ 120 := by omega
        have HH := Lib.hid (head_eq HM.out hB HK.out HN.out c3 (by omega))
        have dn : decide (120 < (nn : Int)) = false := by simp; omega
        have HZ : Hid (BS w1 (some ⟨b, off + (4 + nn), none⟩) ((L.take 124).drop (4 + nn))) := Lib.hid (by
          by_cases h120 : nn = 120
          · have : (L.take 124).drop (4 + nn) = [] := by rw [List.drop_eq_nil_iff, List.length_take]; omega
            rw [this]; exact Sl.nil
          · exact sub_at (Sl.take H1.out 124) (4 + nn) (by rw [List.length_take, HM.out]; omega))
        have HZL : Hid (((L.take 124).drop (4 + nn)).length = 124 - (4 + nn)) := Lib.hid (by rw [List.length_drop, List.length_take, HM.out]; omega)
        go_wp2
        go_loopw [36] (fun i wr => ∃ j : Nat, j ≤ 124 - (4 + nn) ∧ i = .int .i64 j ∧ wr = w1 ∧ Hid (∀ x ∈ ((L.take 124).drop (4 + nn)).take j, x = 0)) (fun i _ => 124 - (4 + nn) - (intOf i).toNat)
        case atStart => exact ⟨0, Nat.zero_le _, rfl, rfl, Lib.hid (fun x hx => by simp at hx)⟩
        case round =>
          obtain ⟨j, hj, rfl, rfl, hz⟩ := hrel
          by_cases hlt : j < 124 - (4 + nn)
          · obtain ⟨bb, oo, x, e1, hx, ht, hmem, g1, _⟩ := Sl.at1 HZ.out j (by have := HZL.out; omega)
            obtain ⟨rfl, rfl⟩ : b = bb ∧ off + (4 + nn) = oo := by injection e1 with e1; injection e1 with e1 e2; exact ⟨e1, e2⟩
            simp only [IE] at g1
            have HT := Lib.hid ht
            have HME := Lib.hid hmem
            clear e1 hx ht hmem
            by_cases hx0 : x = 0
            · have d1 : (x != 0) = false := by simpa using hx0
              have HX0 := Lib.hid hx0
              clear hx0
              go_wp2
              go_roundw
              case rel => exact ⟨j + 1, by omega, by go_num, trivial, Lib.hid (fun y hy => by
                rw [HT.out] at hy
                rcases List.mem_append.1 hy with hy | hy
                · exact hz.out y hy
                · simp at hy; subst hy; exact HX0.out)⟩
              case measure => simp [intOf]; omega
            · have d1 : (x != 0) = true := by simpa using hx0
              have hg := getS_bad HM.out HK.out HN.out (.inr (.inr (fun h => hx0 ((HH.out.1 h).2 x HME.out))))
              have HG := Lib.hid hg
              clear hg hx0
              go_wp2
              go_ret3
              rw [HG.out]
              exact GetRes.nil ⟨rfl, hb1⟩
          · obtain rfl : j = 124 - (4 + nn) := by omega
            have HE : Hid (L.take 124 = pg k (body L nn)) := Lib.hid (HH.out.2 ⟨HC1.out, fun x hx => hz.out x (by rw [List.take_of_length_le (by have := HZL.out; omega)]; exact hx)⟩)
            have HD : Hid (BS wr (some ⟨b, off + 124, none⟩) (L.drop 124)) := Lib.hid (sub_at H1.out 124 (by rw [HM.out]; omega))
            have HQ : Hid (BS wr (some ⟨b, off, none⟩) (L.take 124)) := Lib.hid (Sl.take H1.out 124)
            have HL4 : Hid (4 = (L.drop 124).length) := Lib.hid (by rw [List.length_drop, HM.out])
            have HL124 : Hid (124 = (L.take 124).length) := Lib.hid (by rw [List.length_take, HM.out]; rfl)
            have h4 := (num_bd (hB.drop 124)).1
            have h5 : num (L.drop 124) < 4294967296 := by
              have := (num_bd (hB.drop 124)).2
              rw [← HL4.out] at this
              have h6 : (256 : Int) ^ 4 = 4294967296 := by decide
              omega
            have h7 := crcV_lt (L.take 124)
            have hw5 : IntKind.u32.wrap (num (L.drop 124)) = num (L.drop 124) := by rw [IntKind.wrap_u32', Int.emod_eq_of_lt h4 h5]
            have HSUM := Lib.hid (sum_eq HM.out hB HE.out)
            have hci : (124 : Int) ≤ (c : Int) := by omega
            have hci2 : (128 : Int) ≤ (c : Int) := by omega
            have hci3 : (0 : Int) ≤ (c : Int) := by omega
            have hci4 : ¬ c = 124 := by omega
            by_cases c5 : num (L.drop 124) = (crcV (L.take 124) : Nat)
            · have d5 : (num (L.drop 124) != ((crcV (L.take 124) : Nat) : Int)) = false := by simpa using c5
              have hg := getS_ok HM.out HK.out HN.out k1 k2 c3 HE.out (HSUM.out.2 c5)
              have HG := Lib.hid hg
              have HBO : Hid (BS wr (some ⟨b, off + 4, none⟩) (body L nn)) := Lib.hid (Sl.take (sub_at H1.out 4 (by rw [HM.out]; omega)) nn)
              have HBL : Hid (nn = (body L nn).length) := Lib.hid (body_length HM.out hnn).symm
              clear c5 hg
              go_wp2
              go_region_held3 (fun _ => True) (trivial) (first | (go_at_call 107; refine (get_any _ 4 _ (L.drop 124) _ HL4.out (by omega) (fun h => by cases h) (by first | exact HD.out | exact Sl.below HD.out (by repeat (first | assumption | exact Below.refl _ _ | refine bel_alloc ?_ _ | refine bel_drewN ?_ _ | refine bel_drew ?_ | refine bel_set ?_ (by first | (simp; done) | omega | (simp; omega)) _ | refine bel_trans ?_ (by assumption)))) (hB.drop 124) (by omega)).mono ?_; rintro e wf ⟨rfl, hbf⟩) | (go_at_call 109; refine (of_any _ _ (some ⟨b, off, none⟩) 124 c (L.take 124) _ (by first | (simp; done) | exact keep_below hbf _ _ (by simp)) HL124.out (by omega) (by exact Sl.below HQ.out (by repeat (first | assumption | exact Below.refl _ _ | refine bel_alloc ?_ _ | refine bel_drewN ?_ _ | refine bel_drew ?_ | refine bel_set ?_ (by first | (simp; done) | omega | (simp; omega)) _ | refine bel_trans ?_ (by assumption)))) (hB.take 124)).mono ?_; rintro e wf ⟨rfl, hbf⟩))
              all_goals
                have HBr : Below wr.heap.size wr wf := (by repeat (first | assumption | exact Below.refl _ _ | refine bel_alloc ?_ _ | refine bel_drewN ?_ _ | refine bel_drew ?_ | refine bel_set ?_ (by first | (simp; done) | omega | (simp; omega)) _ | refine bel_trans ?_ (by assumption)))
                have HBf : Below w.heap.size w wf := bel_trans hb1 HBr
                have HB2 := Lib.hid (Sl.below HBO.out HBr)
                have g9 := keep_below HBr _ _ g2'
                have gb9 : b < wf.heap.size := Nat.lt_of_lt_of_le gb1 HBr.size
                clear hbf HBr
                have q1 : IntKind.i64.wrap (4 + (nn : Int)) = 4 + (nn : Int) := IntWalk.i64_in _ (by omega)
                have q2 : (4 : Int) ≤ 4 + (nn : Int) := by omega
                have q3 : 4 + (nn : Int) ≤ (c : Int) := by omega
                have q4 : (0 : Int) ≤ 4 + (nn : Int) := by omega
                have q5 : ¬ c = 4 := by omega
                have q6 : (4 : Int) ≤ (c : Int) := by omega
                have q7 : IntKind.i64.wrap k = k := IntWalk.i64_in _ (by omega)
                go_wp2
                go_region_held3 (fun w' => w'.cell? ⟨b, off + 2, none⟩ = some (.int .u8 k)) (first | exact g9 | exact keep_below HBA _ _ g9) ((refine step_append_sl _ (by rfl) (.const (.slice none 0 0)) (.tmp 59) 23 (by rfl) elt_B w.heap.size (IE .u8) _ [] (by rfl) OwnL.nil _ _ _ (body L nn) (by rfl) (by have := HBL.out; omega) (Sl.drew HB2.out) (fun _ _ => rfl) (by have := HBL.out; simp only [List.length_nil]; unfold maxLen; omega) (by have := HBL.out; simp only [List.length_nil]; omega) (by have := HBf.size; simpa using this) ?_; intro v3 w3 hown3 hgrow3; have HO3 := Lib.hid hown3; have HBA : Below wf.heap.size wf w3 := hgrow3.bel (bel_drew (Below.refl _ _)) (OwnL.nil (α := Int) (enc := IE .u8) (e := 5) (sz := 1)); clear hown3 hgrow3))
                have HB3 : Below w.heap.size w w3 := bel_trans HBf HBA
                go_wp2
                obtain ⟨A3, c3', rfl, hs3, hc31, hc32, hc33, hc34⟩ := OB.sl (L := body L nn) HO3.out nn HBL.out.symm
                have HNW : NewA w A3 c3' := ⟨fun a ha => (hc34 a ha).1, hc32⟩
                clear hc34
                go_ret3
                rw [HG.out]
                exact ⟨A3, nn, c3', HBL.out, rfl, hs3, hc31, hc33, HB3, HNW⟩
            · have d5 : (num (L.drop 124) != ((crcV (L.take 124) : Nat) : Int)) = true := by simpa using c5
              have hg := getS_sum HM.out HK.out HN.out k1 k2 c3 HE.out (fun h => c5 (HSUM.out.1 h))
              have HG := Lib.hid hg
              clear c5 hg
              go_wp2
              go_region_held3 (fun _ => True) (trivial) (first | (go_at_call 107; refine (get_any _ 4 _ (L.drop 124) _ HL4.out (by omega) (fun h => by cases h) (by first | exact HD.out | exact Sl.below HD.out (by repeat (first | assumption | exact Below.refl _ _ | refine bel_alloc ?_ _ | refine bel_drewN ?_ _ | refine bel_drew ?_ | refine bel_set ?_ (by first | (simp; done) | omega | (simp; omega)) _ | refine bel_trans ?_ (by assumption)))) (hB.drop 124) (by omega)).mono ?_; rintro e wf ⟨rfl, hbf⟩) | (go_at_call 109; refine (of_any _ _ (some ⟨b, off, none⟩) 124 c (L.take 124) _ (by first | (simp; done) | exact keep_below hbf _ _ (by simp)) HL124.out (by omega) (by exact Sl.below HQ.out (by repeat (first | assumption | exact Below.refl _ _ | refine bel_alloc ?_ _ | refine bel_drewN ?_ _ | refine bel_drew ?_ | refine bel_set ?_ (by first | (simp; done) | omega | (simp; omega)) _ | refine bel_trans ?_ (by assumption)))) (hB.take 124)).mono ?_; rintro e wf ⟨rfl, hbf⟩))
              all_goals
                go_wp2
                go_ret3
                rw [HG.out]
                exact GetRes.nil ⟨rfl, (by repeat (first | assumption | exact Below.refl _ _ | refine bel_alloc ?_ _ | refine bel_drewN ?_ _ | refine bel_drew ?_ | refine bel_set ?_ (by first | (simp; done) | omega | (simp; omega)) _ | refine bel_trans ?_ (by assumption)))⟩
      · have hg := getS_bad HM.out HK.out HN.out (.inr (.inl (by omega)))
        have HG := Lib.hid hg
        have c3' : 120 < n := by omega
        clear hg c3
        go_wp2
        go_ret3
        rw [HG.out]
        exact GetRes.nil ⟨rfl, hb1⟩
    · have hg := getS_bad HM.out HK.out HN.out (.inl c2)
      have HG := Lib.hid hg
      have c2' : k < 1 ∨ (1 ≤ k ∧ 6 < k) := by omega
      have HC2 := Lib.hid c2'
      clear hg c2 c2'
      go_wp2_with (go_at_call 108; refine (kind_no k _ HC2.out).mono ?_; rintro e w' ⟨rfl, rfl⟩)
      go_ret3
      rw [HG.out]
      exact GetRes.nil ⟨rfl, hb1⟩
  · have hg : getS L = (0, [], 21) := by
      by_cases c2 : (1 ≤ k ∧ k ≤ 6) ∧ n ≤ 120
      · exact getS_bad HM.out HK.out HN.out (.inr (.inr (fun h => c1 ((head_eq HM.out hB HK.out HN.out c2.2 (by omega)).1 h).1)))
      · exact getS_bad HM.out HK.out HN.out (by omega)
    have HG := Lib.hid hg
    clear hg
    have d1 : (num (L.take 2) != 19613) = true := by simpa using c1
    clear c1 HNUM
    generalize num (L.take 2) = q at *
    go_wp2
    go_ret3
    rw [HG.out]
    exact GetRes.nil ⟨rfl, hb1⟩
end Go.Proofs.YtaghmffgoomebaaGreat.Page
namespace Go.Proofs.YtaghmffgoomebaaGreat.Page
open Go.RowKit Mem Bytes Fix Crc
set_option linter.unusedVariables false
set_option linter.unusedSimpArgs false
/-! ### bytes.Equal -/
/-! ### same -/
theorem take_eq {L M : List Int} {j : Nat} (h : ∀ i, i < j → L.getD i 0 = M.getD i 0) (hl : L.length = M.length) (hj : L.length ≤ j) : L = M := by
  apply List.ext_getElem?
  intro i
  by_cases hi : i < L.length
  · have := h i (by omega)
    rw [List.getD_eq_getElem?_getD, List.getD_eq_getElem?_getD, List.getElem?_eq_getElem hi, List.getElem?_eq_getElem (by omega)] at this
    rw [List.getElem?_eq_getElem hi, List.getElem?_eq_getElem (by omega)]
    simpa using this
  · rw [List.getElem?_eq_none (by omega), List.getElem?_eq_none (by omega)]
set_option maxRecDepth 100000 in
set_option maxHeartbeats 1000000 in
theorem same_any (A A' : Option Addr) (m c c' : Nat) (L M : List Int) (w : World) (hm : m = L.length) (hm' : m = M.length) (hm9 : m ≤ 9223372036854775807) (h : BS w A L) (h' : BS w A' M) (v : Bool) (hv : v = true ↔ L = M) :
    Calls Tryz.prog 65 #[.slice A m c, .slice A' m c'] w fun e w' => e = .returned (.bool v) ∧ Below w.heap.size w w' := by
  have H := Lib.hid h
  clear h
  have H' := Lib.hid h'
  clear h'
  have HM := Lib.hid hm
  have HM' := Lib.hid hm'
  have HV := Lib.hid hv
  clear hm hm' hv
  go_enter Tryz.func65, Tryz.ntmps65
  go_wp2
  go_loopw [5] (fun i wr => ∃ k : Nat, k ≤ m ∧ i = .int .i64 k ∧ Below w.heap.size w wr ∧ Hid (∀ i, i < k → L.getD i 0 = M.getD i 0)) (fun i _ => m - (intOf i).toNat)
  case atStart => exact ⟨0, Nat.zero_le _, rfl, Below.refl _ _, Lib.hid (fun i hi => by omega)⟩
  case round =>
    obtain ⟨k, hk, rfl, hb, hok⟩ := hrel
    by_cases hlt : k < m
    · obtain ⟨b, off, rfl, g1, gb⟩ := bs_get (Sl.below H.out hb) k (by have := HM.out; omega)
      obtain ⟨b', off', rfl, g2, gb'⟩ := bs_get (Sl.below H'.out hb) k (by have := HM'.out; omega)
      by_cases hx : L.getD k 0 = M.getD k 0
      · have d1 : (L.getD k 0 != M.getD k 0) = false := by simpa using hx
        have HX : Hid (∀ i, i = k → L.getD i 0 = M.getD i 0) := Lib.hid (fun i hi => by rw [hi]; exact hx)
        clear hx
        generalize L.getD k 0 = x at *
        generalize M.getD k 0 = y at *
        go_wp2
        go_quiet (fail)
        go_wp2
        go_roundw
        case rel => exact ⟨k + 1, by omega, by go_num, (by repeat (first | assumption | exact Below.refl _ _ | refine bel_alloc ?_ _ | refine bel_drewN ?_ _ | refine bel_drew ?_ | refine bel_set ?_ (by first | (simp; done) | omega | (simp; omega)) _ | refine bel_trans ?_ (by assumption))), Lib.hid (fun i hi => by
          by_cases hik : i < k
          · exact hok.out i hik
          · obtain rfl : i = k := by omega
            exact HX.out _ rfl)⟩
        case measure => simp [intOf]; omega
      · have d1 : (L.getD k 0 != M.getD k 0) = true := by simpa using hx
        have hf : Hid (false = v) := Lib.hid (by
          cases v with
          | false => rfl
          | true => exact absurd (by rw [HV.out.1 rfl]) hx)
        clear hx
        generalize L.getD k 0 = x at *
        generalize M.getD k 0 = y at *
        go_wp2
        go_quiet (fail)
        go_wp2
        go_ret
        exact ⟨by rw [← hf.out]; rfl, (by repeat (first | assumption | exact Below.refl _ _ | refine bel_alloc ?_ _ | refine bel_drewN ?_ _ | refine bel_drew ?_ | refine bel_set ?_ (by first | (simp; done) | omega | (simp; omega)) _ | refine bel_trans ?_ (by assumption)))⟩
    · have hf : Hid (true = v) := Lib.hid ((HV.out.2 (take_eq hok.out (by have := HM.out; have := HM'.out; omega) (by have := HM.out; omega))).symm)
      go_wp2
      go_ret
      exact ⟨by rw [← hf.out]; rfl, (by repeat (first | assumption | exact Below.refl _ _ | refine bel_alloc ?_ _ | refine bel_drewN ?_ _ | refine bel_drew ?_ | refine bel_set ?_ (by first | (simp; done) | omega | (simp; omega)) _ | refine bel_trans ?_ (by assumption)))⟩
end Go.Proofs.YtaghmffgoomebaaGreat.Page
namespace Go.Proofs.YtaghmffgoomebaaGreat.Page
open Go.RowKit Mem Bytes Fix Crc
set_option linter.unusedVariables false
set_option linter.unusedSimpArgs false
theorem getS_short {L : List Int} (h : L.length ≠ 128) : getS L = (0, [], 12) := by unfold getS; rw [if_pos h]
theorem get_any' (A : Option Addr) (m c : Nat) (L : List Int) (w : World) (hm : m = L.length) (hc : m ≤ c) (h : BS w A L) (hB : IsB L) :
    Calls Tryz.prog 78 #[.slice A m c] w fun e w' => GetRes w w' e (getS L) := by
  by_cases h1 : m = 128
  · subst h1
    obtain ⟨b, off, rfl, _⟩ := bs_get h 0 (by omega)
    exact get_any128 b off c L w hm.symm hc h hB
  · rw [getS_short (by omega)]
    exact (get_short A m c w h1).mono fun e w' => GetRes.nil
set_option maxRecDepth 100000 in
set_option maxHeartbeats 1000000 in
theorem rpget_short (A : Option Addr) (m c : Nat) (w : World) (hm : m ≠ 128) : Calls Tryz.prog 34 #[.slice A m c] w fun e w' => e = .returned (.tuple #[.int .i64 0, .slice none 0 0, .int .i64 12]) ∧ Below w.heap.size w w' := by
  have d1 : ((m : Int) != 128) = true := by simp; omega
  have HM := Lib.hid hm
  clear hm
  go_enter Tryz.func34, Tryz.ntmps34
  go_wp2
  go_ret3
  exact ⟨rfl, (by repeat (first | assumption | exact Below.refl _ _ | refine bel_alloc ?_ _ | refine bel_drewN ?_ _ | refine bel_drew ?_ | refine bel_set ?_ (by first | (simp; done) | omega | (simp; omega)) _ | refine bel_trans ?_ (by assumption)))⟩
set_option maxRecDepth 100000 in
set_option maxHeartbeats 1000000 in
theorem rpget_128 (b off c : Nat) (L : List Int) (w : World) (hm : L.length = 128) (hc : 128 ≤ c) (h : BS w (some ⟨b, off, none⟩) L) (hB : IsB L) :
    Calls Tryz.prog 34 #[.slice (some ⟨b, off, none⟩) 128 c] w fun e w' => GetRes w w' e (getS L) := by
  have H := Lib.hid h
  clear h
  have HM := Lib.hid hm
  clear hm
  obtain ⟨b', off', e1, g3, gb⟩ := bs_get H.out 3 (by rw [HM.out]; omega)
  obtain ⟨rfl, rfl⟩ : b = b' ∧ off = off' := by injection e1 with e1; injection e1 with e1 e2; exact ⟨e1, e2⟩
  obtain ⟨b', off', e2, g2, _⟩ := bs_get H.out 2 (by rw [HM.out]; omega)
  obtain ⟨rfl, rfl⟩ : b = b' ∧ off = off' := by injection e2 with e1; injection e1 with e1 e2; exact ⟨e1, e2⟩
  clear e1 e2
  have bk : 0 ≤ L.getD 2 0 ∧ L.getD 2 0 ≤ 255 := hB _ (by rw [List.getD_eq_getElem?_getD, List.getElem?_eq_getElem (by rw [HM.out]; omega)]; exact List.getElem_mem _)
  have bn : 0 ≤ L.getD 3 0 ∧ L.getD 3 0 ≤ 255 := hB _ (by rw [List.getD_eq_getElem?_getD, List.getElem?_eq_getElem (by rw [HM.out]; omega)]; exact List.getElem_mem _)
  generalize hk : L.getD 2 0 = k at *
  generalize hn : L.getD 3 0 = n at *
  have HK := Lib.hid hk
  have HN := Lib.hid hn
  clear hk hn
  have wk : IntKind.i64.wrap k = k := IntWalk.i64_in _ (by omega)
  have wn : IntKind.i64.wrap n = n := IntWalk.i64_in _ (by omega)
  by_cases cbad : (1 ≤ k ∧ k ≤ 6) ∧ n ≤ 120
  · obtain ⟨⟨k1, k2⟩, c3⟩ := cbad
    obtain ⟨nn, rfl⟩ : ∃ nn : Nat, n = nn := ⟨n.toNat, by omega⟩
    have hnn : nn ≤ 120 := by omega
    have d1 : decide (k < 1) = false := by simp; omega
    have d2 : decide (6 < k) = false := by simp; omega
    have d3 : decide (120 < (nn : Int)) = false := by simp; omega
    have HBO : Hid (BS w (some ⟨b, off + 4, none⟩) (body L nn)) := Lib.hid (Sl.take (sub_at H.out 4 (by rw [HM.out]; omega)) nn)
    have HBL : Hid (nn = (body L nn).length) := Lib.hid (body_length HM.out hnn).symm
    have HBB := Lib.hid (body_isB (n := nn) hB)
    have q5 : ¬ c = 4 := by omega
    go_enter Tryz.func34, Tryz.ntmps34
    go_wp2
    go_quiet (fail)
    clear wk wn
    go_wp2_with fail
    refine (rpput_any k (some ⟨b, off + 4, none⟩) nn _ (body L nn) _ k1 k2 HBL.out (by omega) (by exact Sl.below HBO.out (by repeat (first | assumption | exact Below.refl _ _ | refine bel_alloc ?_ _ | refine bel_drewN ?_ _ | refine bel_drew ?_ | refine bel_set ?_ (by first | (simp; done) | omega | (simp; omega)) _ | refine bel_trans ?_ (by assumption)))) HBB.out).mono ?_
    rintro e w1 ⟨v1, rfl, ho1, hb1⟩
    have HB1 : Below w.heap.size w w1 := bel_trans (by repeat (first | assumption | exact Below.refl _ _ | refine bel_alloc ?_ _ | refine bel_drewN ?_ _ | refine bel_drew ?_ | refine bel_set ?_ (by first | (simp; done) | omega | (simp; omega)) _ | refine bel_trans ?_ (by assumption))) hb1
    have HPL := Lib.hid (page_length (k := k) (L := body L nn) (by have := HBL.out; omega))
    have HGL := Lib.hid (pg_length (k := k) (L := body L nn) (by have := HBL.out; omega))
    obtain ⟨A1, c1, rfl, hs1, hc11, _⟩ := OB.sl ho1 128 HPL.out
    obtain ⟨b1, off1, rfl, _⟩ := bs_get hs1 0 (by rw [HPL.out]; omega)
    have HS1 := Lib.hid hs1
    have HT1 : Hid (BS w1 (some ⟨b1, off1, none⟩) (pg k (body L nn))) := Lib.hid (by
      have := Sl.take hs1 124
      unfold page at this
      rwa [List.take_left' HGL.out] at this)
    have HT : Hid (BS w1 (some ⟨b, off, none⟩) (L.take 124)) := Lib.hid (Sl.below (Sl.take H.out 124) HB1)
    have HTL : Hid (124 = (L.take 124).length) := Lib.hid (by rw [List.length_take, HM.out]; rfl)
    clear ho1 hs1 hb1 g2 g3
    obtain ⟨v1, hv1⟩ : ∃ v : Bool, v = true ↔ L.take 124 = pg k (body L nn) := by
      by_cases hx : L.take 124 = pg k (body L nn)
      · exact ⟨true, by simp [hx]⟩
      · exact ⟨false, by simp [hx]⟩
    have HV1 := Lib.hid hv1
    clear hv1
    have hci : (124 : Int) ≤ (c : Int) := by omega
    have hci1 : (124 : Int) ≤ (c1 : Int) := by omega
    have hS := Lib.hid (fun (x : Ext w1) => ext_call (same_any (some ⟨b, off, none⟩) (some ⟨b1, off1, none⟩) 124 c c1 (L.take 124) (pg k (body L nn)) x.w HTL.out HGL.out.symm (by omega) (Sl.below HT.out x.h) (Sl.below HT1.out x.h) v1 HV1.out))
    go_wp2
    (refine wp_region_ext (by kernel_rfl) (by kernel_rfl) ?_; (try dsimp only [List.append]); (repeat (go_big_quiet_step ((go_at_call 65; exact hS.out _)))); refine wpQuiet_nil ?_; rintro _ ⟨⟨wq, hbq⟩, rfl⟩)
    have HB2 := bel_trans HB1 hbq
    have HS2 := Lib.hid (Sl.below HS1.out hbq)
    clear hS hbq HS1 HT1 HT HB1
    rcases v1 with _ | _
    · have hg := getS_bad HM.out HK.out HN.out (.inr (.inr (fun hx => by have := HV1.out.2 hx; simp at this)))
      have HG := Lib.hid hg
      clear hg HV1
      go_wp2
      go_ret3
      rw [HG.out]
      exact GetRes.nil ⟨rfl, HB2⟩
    · have HE : Hid (L.take 124 = pg k (body L nn)) := Lib.hid (HV1.out.1 rfl)
      clear HV1
      obtain ⟨v2, hv2⟩ : ∃ v : Bool, v = true ↔ L = page k (body L nn) := by
        by_cases hx : L = page k (body L nn)
        · exact ⟨true, ⟨fun _ => hx, fun _ => rfl⟩⟩
        · exact ⟨false, ⟨fun h => by simp at h, fun h => absurd h hx⟩⟩
      have HV2 := Lib.hid hv2
      clear hv2
      go_wp2_with fail
      refine (same_any (some ⟨b, off, none⟩) (some ⟨b1, off1, none⟩) 128 c c1 L (page k (body L nn)) _ HM.out.symm HPL.out.symm (by omega) (by exact Sl.below H.out HB2) (by exact HS2.out) v2 HV2.out).mono ?_
      rintro e w3 ⟨rfl, hb3⟩
      have HB3 : Below w.heap.size w w3 := bel_trans HB2 hb3
      clear hb3 HB2 HS2
      rcases v2 with _ | _
      · have hg := getS_sum HM.out HK.out HN.out k1 k2 c3 HE.out (fun hx => by have := HV2.out.2 hx; simp at this)
        have HG := Lib.hid hg
        clear hg HV2
        go_wp2
        go_ret3
        rw [HG.out]
        exact GetRes.nil ⟨rfl, HB3⟩
      · have hg := getS_ok HM.out HK.out HN.out k1 k2 c3 HE.out (HV2.out.1 rfl)
        have HG := Lib.hid hg
        clear hg HV2
        have HB4 := Lib.hid (Sl.below HBO.out HB3)
        go_wp2_with (at_builtin; refine wpList_append_sl _ (by rfl) (.tmp 46) (.tmp 50) 23 (by rfl) elt_B w.heap.size (IE .u8) _ [] (by rfl) (OwnL.made _ rfl (by simpa using HB3.size) (by unfold maxLen; omega) rfl) _ _ _ (body L nn) (by rfl) (by have := HBL.out; omega) (Sl.alloc HB4.out _) (fun _ _ => rfl) (by have := HBL.out; simp only [List.length_nil]; unfold maxLen; omega) (by have := HBL.out; simp only [List.length_nil]; omega) (by have := HB3.size; simp; omega) ?_; intro v5 w5 hown5 hgrow5; have HO5 := Lib.hid hown5; have HB5 : Below w.heap.size w w5 := hgrow5.bel (bel_alloc HB3 _) (OwnL.made (α := Int) (enc := IE .u8) (e := 5) (sz := 1) _ rfl (by simpa using HB3.size) (by unfold maxLen; omega) rfl); clear hown5 hgrow5)
        obtain ⟨A5, c5', rfl, hs5, hc51, hc52, hc53, hc54⟩ := OB.sl (L := body L nn) HO5.out nn HBL.out.symm
        have HNW : NewA w A5 c5' := ⟨fun a ha => Nat.le_trans (by first | exact Nat.le_refl _ | exact HB3.size) (hc54 a ha).1, hc52⟩
        clear hc54
        go_ret3
        rw [HG.out]
        exact ⟨A5, nn, c5', HBL.out, rfl, hs5, hc51, hc53, HB5, HNW⟩
  · have hg : getS L = (0, [], 21) := getS_bad HM.out HK.out HN.out (by omega)
    have HG := Lib.hid hg
    clear hg
    have hc3 : k < 1 ∨ (1 ≤ k ∧ 6 < k) ∨ ((1 ≤ k ∧ k ≤ 6) ∧ 120 < n) := by omega
    clear cbad
    rcases hc3 with h1 | ⟨h1, h2⟩ | ⟨⟨h1, h2⟩, h3⟩
    · have d1 : decide (k < 1) = true := by simp; omega
      go_enter Tryz.func34, Tryz.ntmps34
      go_wp2
      go_quiet (fail)
      go_wp2
      go_ret3
      rw [HG.out]
      exact GetRes.nil ⟨rfl, (by repeat (first | assumption | exact Below.refl _ _ | refine bel_alloc ?_ _ | refine bel_drewN ?_ _ | refine bel_drew ?_ | refine bel_set ?_ (by first | (simp; done) | omega | (simp; omega)) _ | refine bel_trans ?_ (by assumption)))⟩
    · have d1 : decide (k < 1) = false := by simp; omega
      have d2 : decide (6 < k) = true := by simp; omega
      go_enter Tryz.func34, Tryz.ntmps34
      go_wp2
      go_quiet (fail)
      go_wp2
      go_ret3
      rw [HG.out]
      exact GetRes.nil ⟨rfl, (by repeat (first | assumption | exact Below.refl _ _ | refine bel_alloc ?_ _ | refine bel_drewN ?_ _ | refine bel_drew ?_ | refine bel_set ?_ (by first | (simp; done) | omega | (simp; omega)) _ | refine bel_trans ?_ (by assumption)))⟩
    · have d1 : decide (k < 1) = false := by simp; omega
      have d2 : decide (6 < k) = false := by simp; omega
      have d3 : decide (120 < n) = true := by simp; omega
      go_enter Tryz.func34, Tryz.ntmps34
      go_wp2
      go_quiet (fail)
      go_wp2
      go_ret3
      rw [HG.out]
      exact GetRes.nil ⟨rfl, (by repeat (first | assumption | exact Below.refl _ _ | refine bel_alloc ?_ _ | refine bel_drewN ?_ _ | refine bel_drew ?_ | refine bel_set ?_ (by first | (simp; done) | omega | (simp; omega)) _ | refine bel_trans ?_ (by assumption)))⟩
theorem rpget_any (A : Option Addr) (m c : Nat) (L : List Int) (w : World) (hm : m = L.length) (hc : m ≤ c) (h : BS w A L) (hB : IsB L) :
    Calls Tryz.prog 34 #[.slice A m c] w fun e w' => GetRes w w' e (getS L) := by
  by_cases h1 : m = 128
  · subst h1
    obtain ⟨b, off, rfl, _⟩ := bs_get h 0 (by omega)
    exact rpget_128 b off c L w hm.symm hc h hB
  · rw [getS_short (by omega)]
    exact (rpget_short A m c w h1).mono fun e w' => GetRes.nil
end Go.Proofs.YtaghmffgoomebaaGreat.Page
namespace Go.Proofs.YtaghmffgoomebaaGreat.Page
open Go.RowKit Mem Bytes Fix Crc
set_option linter.unusedVariables false
set_option linter.unusedSimpArgs false
theorem pg_take4 (k : Int) (L : List Int) (i : Nat) (hi : i < 4) : (pg k L).getD i 0 = ([157, 76, k, (L.length : Int)] : List Int).getD i 0 := by
  unfold pg
  rw [List.append_assoc, List.getD_eq_getElem?_getD, List.getElem?_append_left (by simpa using hi), ← List.getD_eq_getElem?_getD]
theorem page_getD (k : Int) (L : List Int) (hL : L.length ≤ 120) (i : Nat) (hi : i < 124) : (page k L).getD i 0 = (pg k L).getD i 0 := by
  unfold page
  rw [List.getD_eq_getElem?_getD, List.getElem?_append_left (by rw [pg_length hL]; exact hi), ← List.getD_eq_getElem?_getD]
theorem page_body (k : Int) (L : List Int) (hL : L.length ≤ 120) : body (page k L) L.length = L := by
  unfold body page pg
  rw [List.append_assoc, List.append_assoc, List.drop_left' (by rfl), List.take_left' rfl]
theorem getS_page {k : Int} {L : List Int} (h1 : 1 ≤ k) (h2 : k ≤ 6) (hL : L.length ≤ 120) : getS (page k L) = (k, L, 0) := by
  have e2 : (page k L).getD 2 0 = k := by rw [page_getD k L hL 2 (by omega), pg_take4 k L 2 (by omega)]; rfl
  have e3 : (page k L).getD 3 0 = (L.length : Int) := by rw [page_getD k L hL 3 (by omega), pg_take4 k L 3 (by omega)]; rfl
  have hb : body (page k L) ((L.length : Int)).toNat = L := by rw [Int.toNat_natCast]; exact page_body k L hL
  have ht : (page k L).take 124 = pg k L := by unfold page; exact List.take_left' (pg_length hL)
  have := getS_ok (page_length hL) e2 e3 h1 h2 (by omega) (by rw [ht, hb]) (by rw [hb])
  rw [this, hb]
end Go.Proofs.YtaghmffgoomebaaGreat.Page
