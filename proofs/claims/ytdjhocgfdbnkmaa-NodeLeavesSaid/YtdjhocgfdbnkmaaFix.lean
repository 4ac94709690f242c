/- Numbers as bytes: fix.Put, fix.Get and the reference's. -/
import Derived.Test.YtdjhocgfdbnkmaaZeros
import Derived.Test.YtdjhocgfdbnkmaaBytesLaw
import Derived.Laws.BitsAll
namespace Go.Proofs.Ytdjhocgfdbnkmaa.Fix
open Go.RowKit Mem Bytes
set_option linter.unusedVariables false
set_option linter.unusedSimpArgs false
theorem elt_B : Elt Try.prog 127 5 1 1 := Elt.mk' (z := .int .u8 0) Try.underlying127 (by kernel_rfl) rfl (by decide)
/-- A slice of bytes that the call has built. -/
def OB (w : World) (base : Nat) (v : Value) (L : List Int) : Prop := OwnL w base 5 1 v (IE .u8) L
theorem OB.of_eq {w : World} {base : Nat} {v : Value} {L M : List Int} (h : OB w base v L) (e : L = M) : OB w base v M := e ▸ h
/-- Bytes that lie somewhere. -/
def BS (w : World) (A : Option Addr) (L : List Int) : Prop := Sl w A 1 (IE .u8) L
theorem pow256 (i : Nat) : (2 : Int) ^ (8 * i) = 256 ^ i := by rw [Int.pow_mul]; rfl

theorem or_shift (n x : Int) (k : Nat) (hk : k < 8) (h0 : 0 ≤ n) (h1 : n < 256 ^ k) (x0 : 0 ≤ x) (x1 : x ≤ 255) : bits .or .u64 n (IntKind.u64.wrap (x * 2 ^ (8 * k))) = n + x * 256 ^ k := by
  rw [pow256]
  have hp := pow_pos' k
  have h8 : (256 : Int) ^ 8 = 18446744073709551616 := by decide
  have hle : (256 : Int) ^ k * 256 ≤ 18446744073709551616 := by
    rw [← Int.pow_succ, ← h8, pow_split (k + 1) 8 (by omega)]
    have h2 := pow_pos' (8 - (k + 1))
    have h3 := pow_pos' (k + 1)
    have := Int.mul_le_mul_of_nonneg_left (show (1 : Int) ≤ 256 ^ (8 - (k + 1)) by omega) (show (0 : Int) ≤ 256 ^ (k + 1) by omega)
    omega
  have hx : x * 256 ^ k ≤ 255 * 256 ^ k := Int.mul_le_mul_of_nonneg_right x1 (Int.le_of_lt hp)
  have hx' : 0 ≤ x * 256 ^ k := Int.mul_nonneg x0 (Int.le_of_lt hp)
  generalize hy : x * 256 ^ k = y at *
  have hw : IntKind.u64.wrap y = y := by
    rw [IntKind.wrap_u64, Int.emod_eq_of_lt hx' (by omega)]
  rw [hw, u64_or n y h0 (by omega) hx' (by omega), Nat.or_comm]
  have hdiv : y.toNat % 2 ^ (8 * k) = 0 := by
    have e1 : y = ((x.toNat * 2 ^ (8 * k) : Nat) : Int) := by
      rw [← hy, ← pow256]
      simp only [Int.natCast_mul, Int.natCast_pow]
      rw [Int.toNat_of_nonneg x0]; rfl
    rw [e1, Int.toNat_natCast, Nat.mul_mod_left]
  have hlt : n.toNat < 2 ^ (8 * k) := by
    have : (n.toNat : Int) < ((2 ^ (8 * k) : Nat) : Int) := by
      rw [Int.toNat_of_nonneg h0, Int.natCast_pow]
      show n < (2 : Int) ^ (8 * k)
      rw [pow256]; exact h1
    exact Int.ofNat_lt.1 this
  rw [nat_join (8 * k) y.toNat n.toNat hdiv hlt]
  simp only [Int.natCast_add]
  rw [Int.toNat_of_nonneg h0, Int.toNat_of_nonneg hx', Int.add_comm]
set_option maxRecDepth 100000 in
set_option maxHeartbeats 1000000 in
theorem put_any (base : Nat) (v : Value) (L : List Int) (n s : Int) (k : Nat) (w : World) (hs : s = k) (hk : k ≤ 8) (hn : 0 ≤ n) (h : OB w base v L) (hL : L.length ≤ 100000) (hbase : base ≤ w.heap.size) :
    Calls Try.prog 171 #[v, .int .u64 n, .int .i64 s] w fun e w' => ∃ v', e = .returned v' ∧ OB w' base v' (L ++ le n k) ∧ Grew w w' v v' := by
  subst hs
  have H := Lib.hid h
  clear h
  have hL8 : ∀ i, i ≤ 8 → (L ++ le n i).length ≤ 100008 := fun i hi => by rw [List.length_append, le_length]; omega
  have HL := Lib.hid hL8
  clear hL8
  go_enter Try.func171, Try.ntmps171
  go_wp2
  go_loopw [0, 10] (fun u i wr => ∃ j : Nat, j ≤ k ∧ i = .int .i64 j ∧ OB wr base u (L ++ le n j) ∧ Grew w wr v u) (fun _ i _ => k - (intOf i).toNat)
  case atStart => exact ⟨0, Nat.zero_le _, rfl, (H.out).of_eq (by rw [le_zero, List.append_nil]), Grew.refl _ _⟩
  case round =>
    obtain ⟨j, hj, rfl, ho, hg⟩ := hrel
    have HO := Lib.hid ho
    have HG := Lib.hid hg
    have hb2 : base ≤ wr.heap.size := Nat.le_trans hbase hg.1.size
    clear ho hg
    by_cases hlt : j < k
    · go_wp2_with (at_builtin; refine wpList_append_sl _ rfl _ _ 127 rfl elt_B base (IE .u8) _ _ rfl (HO.out.alloc _) _ _ _ _ rfl rfl (sl_one _ _ _ _ _ _ (by simp) rfl) (fun _ _ => rfl) (by have := HL.out j (by omega); simp only [List.length_singleton]; unfold maxLen; omega) (by have := HL.out j (by omega); simp only [List.length_singleton]; omega) (by simp; omega) ?_; intro v1 w1 hown1 hgrow1; have HO1 := Lib.hid hown1; have HG1 := Lib.hid (HG.out.trans (hgrow1.below_left (bel_alloc (Below.refl _ _) _))); clear hown1 hgrow1)
      go_roundw
      case rel =>
        refine ⟨j + 1, by omega, by go_num, HO1.out.of_eq ?_, HG1.out⟩
        rw [List.append_assoc, le_snoc, pow256]
      case measure => simp [intOf]; omega
    · obtain rfl : j = k := by omega
      go_wp2
      go_ret
      exact ⟨_, rfl, HO.out, HG.out⟩
set_option maxRecDepth 100000 in
set_option maxHeartbeats 1000000 in
theorem get_any (A : Option Addr) (m c : Nat) (L : List Int) (w : World) (hm : m = L.length) (hc : m ≤ c) (hA : A = none → c = 0) (h : BS w A L) (hB : IsB L) (hl : m ≤ 8) :
    Calls Try.prog 195 #[.slice A m c] w fun e w' => e = .returned (.int .u64 (num L)) ∧ Below w.heap.size w w' := by
  have H := Lib.hid h
  clear h
  have HM := Lib.hid hm
  clear hm
  go_enter Try.func195, Try.ntmps195
  go_wp2
  go_loopw [3, 12] (fun n i wr => ∃ k : Nat, k ≤ m ∧ i = .int .i64 k ∧ n = .int .u64 (num (L.take k)) ∧ wr = w) (fun _ i _ => m - (intOf i).toNat)
  case atStart => exact ⟨0, Nat.zero_le _, rfl, rfl, rfl⟩
  case round =>
    obtain ⟨k, hk, rfl, rfl, rfl⟩ := hrel
    by_cases hlt : k < m
    · obtain ⟨b, off, x, rfl, hx, ht, hmem, g1, gb⟩ := Sl.at1 H.out k (by have := HM.out; omega)
      simp only [IE] at g1
      have hb := hB x hmem
      have hx0 : 0 ≤ x := hb.1
      have hx1 : x ≤ 255 := hb.2
      have HX := Lib.hid (num_take_succ hx)
      have hn0 := (num_bd (hB.take k)).1
      have hn9 : num (L.take k) < 256 ^ k := by have := (num_bd (hB.take k)).2; rwa [List.length_take, Nat.min_eq_left (by have := HM.out; omega)] at this
      clear hx ht hmem hb
      have HN9 := Lib.hid hn9
      clear hn9
      generalize num (L.take k) = n at *
      go_wp2
      go_roundw
      case rel =>
        refine ⟨k + 1, by omega, by go_num, ?_, ?_⟩
        · rw [HX.out, or_shift n x k (by omega) hn0 HN9.out hx0 hx1]
        · trivial
      case measure => simp [intOf]; omega
    · obtain rfl : k = m := by omega
      go_wp2
      go_ret
      exact ⟨by rw [List.take_of_length_le (by have := HM.out; omega)]; rfl, (by repeat (first | assumption | exact Below.refl _ _ | refine bel_alloc ?_ _ | refine bel_drewN ?_ _ | refine bel_drew ?_ | refine bel_set ?_ (by first | (simp; done) | omega | (simp; omega)) _ | refine bel_trans ?_ (by assumption)))⟩
set_option maxRecDepth 100000 in
set_option maxHeartbeats 1000000 in
theorem rget_any (A : Option Addr) (m c : Nat) (L : List Int) (w : World) (hm : m = L.length) (h : BS w A L) (hB : IsB L) (hl : m ≤ 8) :
    Calls Try.prog 202 #[.slice A m c] w fun e w' => e = .returned (.int .u64 (num L)) ∧ Below w.heap.size w w' := by
  have H := Lib.hid h
  clear h
  have HM := Lib.hid hm
  clear hm
  go_enter Try.func202, Try.ntmps202
  go_wp2
  go_loopw [3, 4] (fun n i wr => ∃ k : Nat, k ≤ m ∧ i = .int .i64 ((k : Int) - 1) ∧ n = .int .u64 (num (L.drop k)) ∧ wr = w) (fun _ i _ => (intOf i + 1).toNat)
  case atStart => exact ⟨m, Nat.le_refl _, rfl, by rw [List.drop_of_length_le (by have := HM.out; omega)]; rfl, rfl⟩
  case round =>
    obtain ⟨k, hk, rfl, rfl, rfl⟩ := hrel
    rcases k with _ | k
    · go_wp2
      go_ret
      exact ⟨by rw [List.drop_zero]; rfl, (by repeat (first | assumption | exact Below.refl _ _ | refine bel_alloc ?_ _ | refine bel_drewN ?_ _ | refine bel_drew ?_ | refine bel_set ?_ (by first | (simp; done) | omega | (simp; omega)) _ | refine bel_trans ?_ (by assumption)))⟩
    · have e1 : ((k + 1 : Nat) : Int) - 1 = (k : Int) := by omega
      rw [e1]
      have hlt : k < m := by omega
      obtain ⟨b, off, x, rfl, hx, ht, hmem, g1, gb⟩ := Sl.at1 H.out k (by have := HM.out; omega)
      simp only [IE] at g1
      have hb := hB x hmem
      have hx0 : 0 ≤ x := hb.1
      have hx1 : x ≤ 255 := hb.2
      have hd := num_drop hx
      have hn0 := (num_bd (hB.drop (k + 1))).1
      have hn1 : num (L.drop k) < 18446744073709551616 := num_lt8 (hB.drop k) (by rw [List.length_drop]; have := HM.out; omega)
      have hn2 : num (L.drop (k + 1)) * 256 + x ≤ 18446744073709551615 := by omega
      have HX := Lib.hid hd
      clear hx ht hmem hb hn1 hd
      generalize num (L.drop (k + 1)) = n at *
      go_wp2
      go_roundw
      case rel =>
        refine ⟨k, by omega, by go_num, ?_, ?_⟩
        · rw [HX.out, show n * 256 + x = x + 256 * n by omega]
        · trivial
      case measure => simp [intOf]
set_option maxRecDepth 100000 in
set_option maxHeartbeats 1000000 in
theorem rput_any (A : Option Addr) (m c : Nat) (L : List Int) (n s : Int) (k : Nat) (w : World) (hs : s = k) (hk : k ≤ 8) (hn : 0 ≤ n) (hn2 : n ≤ 18446744073709551615) (hm : m = L.length) (h : BS w A L) (hL : m ≤ 100000) :
    Calls Try.prog 174 #[.slice A m c, .int .u64 n, .int .i64 s] w fun e w' => ∃ v', e = .returned v' ∧ OB w' w.heap.size v' (L ++ le n k) ∧ Below w.heap.size w w' := by
  subst hs
  have H := Lib.hid h
  clear h
  have HM := Lib.hid hm
  have hL8 : ∀ i, i ≤ 8 → (L ++ le n i).length ≤ 100008 := fun i hi => by rw [List.length_append, le_length]; omega
  have HL := Lib.hid hL8
  clear hL8 hm
  go_enter Try.func174, Try.ntmps174
  go_wp2_with (at_builtin; refine wpList_append_sl _ rfl (.tmp 9) (.tmp 10) 127 rfl elt_B w.heap.size (IE .u8) _ [] rfl (OwnL.made _ rfl (Nat.le_refl _) (by unfold maxLen; omega) rfl) _ _ _ L rfl HM.out (H.out.alloc _) (fun _ _ => rfl) (by have := HM.out; simp only [List.length_nil]; unfold maxLen; omega) (by have := HM.out; simp only [List.length_nil]; omega) (by simp) ?_; intro v1 w1 hown1 hgrow1; have HB1 : Below w.heap.size w w1 := hgrow1.bel (by repeat (first | assumption | exact Below.refl _ _ | refine bel_alloc ?_ _ | refine bel_drewN ?_ _ | refine bel_drew ?_ | refine bel_set ?_ (by first | (simp; done) | omega | (simp; omega)) _ | refine bel_trans ?_ (by assumption))) (OwnL.made (α := Int) (enc := IE .u8) (e := 5) (sz := 1) _ rfl (Nat.le_refl _) (by unfold maxLen; omega) rfl); have HO1 := Lib.hid hown1; clear hown1 hgrow1)
  go_loopw [1, 7, 8] (fun x u i wr => ∃ j : Nat, j ≤ k ∧ i = .int .i64 j ∧ x = .int .u64 (n / 256 ^ j) ∧ OB wr w.heap.size u (L ++ le n j) ∧ Below w.heap.size w wr) (fun _ _ i _ => k - (intOf i).toNat)
  case atStart => exact ⟨0, Nat.zero_le _, rfl, by simp, HO1.out.of_eq (by rw [le_zero, List.append_nil]; rfl), HB1⟩
  case round =>
    obtain ⟨j, hj, rfl, rfl, ho, hb⟩ := hrel
    have HO := Lib.hid ho
    have hz := hb.size
    clear ho
    have q0 : 0 ≤ n / 256 ^ j := Int.ediv_nonneg hn (Int.le_of_lt (pow_pos' j))
    have q1 : n / 256 ^ j ≤ 18446744073709551615 := Int.le_trans (Int.ediv_le_self _ hn) hn2
    have HD := Lib.hid (show n / 256 ^ (j + 1) = n / 256 ^ j / 256 by rw [Int.pow_succ, Int.ediv_ediv_of_nonneg (Int.le_of_lt (pow_pos' j))])
    have HS := Lib.hid (le_snoc n j)
    by_cases hlt : j < k
    · generalize n / 256 ^ j = q at *
      go_wp2_with (at_builtin; refine wpList_append_sl _ rfl (.tmp 21) (.tmp 25) 127 rfl elt_B w.heap.size (IE .u8) _ _ rfl (HO.out.alloc _) _ _ _ _ rfl rfl (sl_one _ _ _ _ _ _ (by simp) rfl) (fun _ _ => rfl) (by have := HL.out j (by omega); simp only [List.length_singleton]; unfold maxLen; omega) (by have := HL.out j (by omega); simp only [List.length_singleton]; omega) (by simp; omega) ?_; intro v1 w1 hown1 hgrow1; have HO1 := Lib.hid hown1; have HB2 : Below w.heap.size w w1 := hgrow1.bel (bel_alloc hb _) (HO.out.alloc _); clear hown1 hgrow1)
      go_roundw
      case rel =>
        refine ⟨j + 1, by omega, by go_num, by rw [HD.out], HO1.out.of_eq ?_, HB2⟩
        rw [List.append_assoc, HS.out]
      case measure => simp [intOf]; omega
    · obtain rfl : j = k := by omega
      go_wp2
      go_ret
      exact ⟨_, rfl, HO.out, hb⟩
end Go.Proofs.Ytdjhocgfdbnkmaa.Fix
