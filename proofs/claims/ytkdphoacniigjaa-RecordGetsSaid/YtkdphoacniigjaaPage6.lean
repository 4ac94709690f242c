/- The laws of pages, walked. -/
import Derived.Test.YtkdphoacniigjaaPage5
namespace Go.Proofs.Ytkdphoacniigjaa.Page
open Go.RowKit Mem Bytes Fix Crc
set_option linter.unusedVariables false
set_option linter.unusedSimpArgs false
theorem pg_take4 (k : Int) (L : List Int) (i : Nat) (hi : i < 4) : (pg k L).getD i 0 = ([157, 76, k, (L.length : Int)] : List Int).getD i 0 := by
  unfold pg
  rw [List.append_assoc, List.getD_eq_getElem?_getD, List.getElem?_append_left (by simpa using hi), ← List.getD_eq_getElem?_getD]
theorem page_getD (k : Int) (L : List Int) (hL : L.length ≤ 120) (i : Nat) (hi : i < 124) : (page k L).getD i 0 = (pg k L).getD i 0 := by
  unfold page
  rw [List.getD_eq_getElem?_getD, List.getElem?_append_left (by rw [pg_length hL]; exact hi), ← List.getD_eq_getElem?_getD]
theorem page_body (k : Int) (L : List Int) (hL : L.length ≤ 120) : body (page k L) L.length = L := by
  unfold body page pg
  rw [List.append_assoc, List.append_assoc, List.drop_left' (by rfl), List.take_left' rfl]
theorem getS_page {k : Int} {L : List Int} (h1 : 1 ≤ k) (h2 : k ≤ 6) (hL : L.length ≤ 120) : getS (page k L) = (k, L, 0) := by
  have e2 : (page k L).getD 2 0 = k := by rw [page_getD k L hL 2 (by omega), pg_take4 k L 2 (by omega)]; rfl
  have e3 : (page k L).getD 3 0 = (L.length : Int) := by rw [page_getD k L hL 3 (by omega), pg_take4 k L 3 (by omega)]; rfl
  have hb : body (page k L) ((L.length : Int)).toNat = L := by rw [Int.toNat_natCast]; exact page_body k L hL
  have ht : (page k L).take 124 = pg k L := by unfold page; exact List.take_left' (pg_length hL)
  have := getS_ok (page_length hL) e2 e3 h1 h2 (by omega) (by rw [ht, hb]) (by rw [hb])
  rw [this, hb]
set_option maxRecDepth 100000 in
set_option maxHeartbeats 1000000 in
theorem alive_any (w : World) : Calls Try.prog 14 #[] w fun e w' => e = .returned (.bool true) ∧ Below w.heap.size w w' := by
  have hs1 : Sl (w.alloc (.cells #[.int .u8 1] 5)) (some ⟨w.heap.size, 0, none⟩) 1 (IE .u8) [1] := sl_one _ _ _ _ _ _ rfl rfl
  have HS1 := Lib.hid hs1
  clear hs1
  go_enter Try.func14, Try.ntmps14
  go_wp2_with fail
  refine (put_arg 0 (.slice none 0 0) _ (by omega)).mono ?_
  rintro e w' ⟨rfl, rfl⟩
  go_wp2_with fail
  refine (put_ok 6 (some ⟨w.heap.size, 0, none⟩) 1 1 [1] _ (by omega) (by omega) rfl (by omega) (by exact HS1.out) (IsB.cons (by omega) IsB.nil)).mono ?_
  rintro e w2 ⟨v2, rfl, ho2, hb2⟩
  have HB2 : Below w.heap.size w w2 := bel_trans (bel_alloc (Below.refl _ _) _) hb2
  obtain ⟨A2, c2, rfl, hs2, _⟩ := OB.sl ho2 128 (page_length (by simp))
  obtain ⟨b, off, rfl, g4, gb⟩ := bs_get hs2 4 (by rw [page_length (by simp)]; omega)
  have h4 : (page 6 [1]).getD 4 0 = 1 := by rw [page_getD 6 [1] (by simp) 4 (by omega)]; rfl
  rw [h4] at g4
  clear ho2 hs2 hb2 h4
  go_wp2
  go_ret
  exact ⟨rfl, HB2⟩
set_option maxRecDepth 100000 in
set_option maxHeartbeats 1000000 in
theorem pagePuts_any (k : Int) (A : Option Addr) (m c : Nat) (L : List Int) (w : World) (hm : m = L.length) (hc : m ≤ c) (hm9 : m ≤ 9223372036854775807) (h : BS w A L) (hB : IsB L) :
    Calls Try.prog 3 #[.int .i64 k, .slice A m c] w fun e w' => e = .returned (.bool true) ∧ Below w.heap.size w w' := by
  have H := Lib.hid h
  have HM := Lib.hid hm
  clear h hm
  by_cases c0 : 200 < m
  · go_enter Try.func3, Try.ntmps3
    go_wp2
    go_ret
    exact ⟨rfl, (by repeat (first | assumption | exact Below.refl _ _ | refine bel_alloc ?_ _ | refine bel_drewN ?_ _ | refine bel_drew ?_ | refine bel_set ?_ (by first | (simp; done) | omega | (simp; omega)) _ | refine bel_trans ?_ (by assumption)))⟩
  by_cases ck : 1 ≤ k ∧ k ≤ 6
  · obtain ⟨k1, k2⟩ := ck
    by_cases c1 : 120 < m
    · go_enter Try.func3, Try.ntmps3
      go_wp2_with fail
      refine (put_size k A m c _ k1 k2 c1).mono ?_
      rintro e w' ⟨rfl, rfl⟩
      go_wp2_with fail
      refine (alive_any _).mono ?_
      rintro e w1 ⟨rfl, hbk⟩
      have HB1 : Below w.heap.size w w1 := bel_trans (Below.refl _ _) hbk
      clear hbk
      go_wp2
      go_ret
      exact ⟨rfl, HB1⟩
    · have hm120 : m ≤ 120 := by omega
      have HGP := Lib.hid (getS_page k1 k2 (L := L) (by have := HM.out; omega))
      have HPL := Lib.hid (page_length (k := k) (L := L) (by have := HM.out; omega))
      have HPB := Lib.hid (page_isB (k := k) (L := L) (by omega) (by have := HM.out; omega) hB)
      go_enter Try.func3, Try.ntmps3
      go_wp2_with fail
      refine (put_ok k A m c L _ k1 k2 HM.out hm120 (by exact H.out) hB).mono ?_
      rintro e w1 ⟨v1, rfl, ho1, HB1⟩
      obtain ⟨A1, c1', rfl, hs1, hc11, _⟩ := OB.sl ho1 128 HPL.out
      have HS1 := Lib.hid hs1
      clear ho1 hs1
      go_wp2_with fail
      refine (get_any' A1 128 c1' (page k L) _ HPL.out.symm hc11 (by exact HS1.out) HPB.out).mono ?_
      rintro e w2 ⟨A2, n2, c2, hn2, rfl, hs2, hc2, hA2, hb2, _⟩
      rw [HGP.out] at hn2 hs2
      rw [HGP.out]
      obtain rfl : n2 = m := by rw [hn2, HM.out]
      have HB2 : Below w.heap.size w w2 := bel_trans HB1 hb2
      have HS2 : Hid (BS w2 A2 L) := Lib.hid hs2
      have HS12 := Lib.hid (Sl.below HS1.out hb2)
      clear hn2 hs2 hA2 hb2 HB1 HS1
      go_wp2_with fail
      refine (rpput_any k A n2 c L _ k1 k2 HM.out hm120 (by exact Sl.below H.out HB2) hB).mono ?_
      rintro e w3 ⟨v3, rfl, ho3, hb3⟩
      have HB3 : Below w.heap.size w w3 := bel_trans HB2 hb3
      obtain ⟨A3, c3, rfl, hs3, _⟩ := OB.sl ho3 128 HPL.out
      have HS3 := Lib.hid hs3
      have HS13 := Lib.hid (Sl.below HS12.out hb3)
      have HS23 := Lib.hid (Sl.below HS2.out hb3)
      clear ho3 hs3 hb3 HB2 HS12 HS2
      go_wp2_with fail
      refine (bequal_yes A1 A3 128 c1' c3 (page k L) _ HPL.out.symm (by exact HS13.out) (by exact HS3.out)).mono ?_
      rintro e w' ⟨rfl, rfl⟩
      go_wp2_with fail
      refine (bequal_yes A2 A n2 c2 c L _ HM.out (by exact HS23.out) (by exact Sl.below H.out HB3)).mono ?_
      rintro e w' ⟨rfl, rfl⟩
      go_wp2_with fail
      refine (alive_any _).mono ?_
      rintro e w4 ⟨rfl, hbk⟩
      have HB4 : Below w.heap.size w w4 := bel_trans HB3 hbk
      clear hbk HB3
      go_wp2
      go_ret
      exact ⟨rfl, HB4⟩
  · have hck : k < 1 ∨ (1 ≤ k ∧ 6 < k) := by omega
    have HCK := Lib.hid hck
    have hcases : k < 1 ∨ 6 < k := by omega
    clear ck hck
    rcases hcases with h1 | h1
    · have d1 : decide (k < 1) = true := by simp; omega
      go_enter Try.func3, Try.ntmps3
      go_wp2_with fail
      refine (put_arg k _ _ HCK.out).mono ?_
      rintro e w' ⟨rfl, rfl⟩
      go_wp2_with fail
      refine (alive_any _).mono ?_
      rintro e w1 ⟨rfl, hbk⟩
      have HB1 : Below w.heap.size w w1 := bel_trans (Below.refl _ _) hbk
      clear hbk
      go_wp2
      go_ret
      exact ⟨rfl, HB1⟩
    · have d1 : decide (k < 1) = false := by simp; omega
      have d2 : decide (6 < k) = true := by simp; omega
      go_enter Try.func3, Try.ntmps3
      go_wp2_with fail
      refine (put_arg k _ _ HCK.out).mono ?_
      rintro e w' ⟨rfl, rfl⟩
      go_wp2_with fail
      refine (alive_any _).mono ?_
      rintro e w1 ⟨rfl, hbk⟩
      have HB1 : Below w.heap.size w w1 := bel_trans (Below.refl _ _) hbk
      clear hbk
      go_wp2
      go_ret
      exact ⟨rfl, HB1⟩
set_option maxRecDepth 100000 in
set_option maxHeartbeats 1000000 in
theorem pageGets_any (k : Int) (A : Option Addr) (m c : Nat) (L : List Int) (w : World) (hm : m = L.length) (hc : m ≤ c) (hm9 : m ≤ 9223372036854775807) (h : BS w A L) (hB : IsB L) :
    Calls Try.prog 4 #[.int .i64 k, .slice A m c] w fun e w' => e = .returned (.bool true) ∧ Below w.heap.size w w' := by
  have H := Lib.hid h
  have HM := Lib.hid hm
  clear h hm
  by_cases c0 : 300 < m
  · go_enter Try.func4, Try.ntmps4
    go_wp2
    go_ret
    exact ⟨rfl, (by repeat (first | assumption | exact Below.refl _ _ | refine bel_alloc ?_ _ | refine bel_drewN ?_ _ | refine bel_drew ?_ | refine bel_set ?_ (by first | (simp; done) | omega | (simp; omega)) _ | refine bel_trans ?_ (by assumption)))⟩
  go_enter Try.func4, Try.ntmps4
  go_wp2_with fail
  refine (get_any' A m c L _ HM.out hc (by exact H.out) hB).mono ?_
  rintro e w1 ⟨A1, n1, c1, hn1, rfl, hs1, _, _, HB1, _⟩
  have HS1 := Lib.hid hs1
  have HN1 := Lib.hid hn1
  clear hs1 hn1
  go_wp2_with fail
  refine (rpget_any A m c L _ HM.out hc (by exact Sl.below H.out HB1) hB).mono ?_
  rintro e w2 ⟨A2, n2, c2, hn2, rfl, hs2, _, _, hb2, _⟩
  have HB2 : Below w.heap.size w w2 := bel_trans HB1 hb2
  obtain rfl : n1 = n2 := by rw [HN1.out, hn2]
  have HN := Lib.hid hn2
  have HS2 := Lib.hid hs2
  have HS12 := Lib.hid (Sl.below HS1.out hb2)
  clear hs2 hb2 HB1 HS1 HN1 hn2
  go_wp2_with fail
  refine (of_any' k A m c L _ HM.out hc (by exact Sl.below H.out HB2) hB).mono ?_
  rintro e w3 ⟨A3, n3, c3, hn3, rfl, hs3, _, _, hb3, _⟩
  have HB3 : Below w.heap.size w w3 := bel_trans HB2 hb3
  have HS3 := Lib.hid hs3
  have HN3' := Lib.hid hn3
  have HS13 := Lib.hid (Sl.below HS12.out hb3)
  have HS23 := Lib.hid (Sl.below HS2.out hb3)
  clear hs3 hb3 HB2 HS12 HS2 hn3
  go_wp2_with fail
  refine (rpof_any k A m c L _ HM.out hc (by exact Sl.below H.out HB3) hB).mono ?_
  rintro e w4 ⟨A4, n4, c4, hn4, rfl, hs4, _, _, hb4, _⟩
  have HB4 : Below w.heap.size w w4 := bel_trans HB3 hb4
  obtain rfl : n3 = n4 := by rw [HN3'.out, hn4]
  have HN3 := Lib.hid hn4
  have HS4 := Lib.hid hs4
  have HS14 := Lib.hid (Sl.below HS13.out hb4)
  have HS24 := Lib.hid (Sl.below HS23.out hb4)
  have HS34 := Lib.hid (Sl.below HS3.out hb4)
  clear hs4 hb4 HB3 HS13 HS23 HS3 HN3' hn4
  generalize ofR k (getS L) = q at *
  generalize getS L = r at *
  obtain ⟨q1, q2⟩ := q
  obtain ⟨r1, r2, r3⟩ := r
  go_wp2_with fail
  refine (bequal_yes A1 A2 n1 c1 c2 r2 _ HN.out (by exact HS14.out) (by exact HS24.out)).mono ?_
  rintro e w' ⟨rfl, rfl⟩
  go_wp2_with fail
  refine (bequal_yes A3 A4 n3 c3 c4 q1 _ HN3.out (by exact HS34.out) (by exact HS4.out)).mono ?_
  rintro e w' ⟨rfl, rfl⟩
  go_wp2_with fail
  refine (alive_any _).mono ?_
  rintro e w5 ⟨rfl, hbk⟩
  have HB5 : Below w.heap.size w w5 := bel_trans HB4 hbk
  clear hbk HB4
  go_wp2
  go_ret
  exact ⟨rfl, HB5⟩
end Go.Proofs.Ytkdphoacniigjaa.Page
