/- The reference's Body. -/
import Derived.Test.YtkdphoacniigjaaSuper2
namespace Go.Proofs.Ytkdphoacniigjaa.Super
open Go.RowKit Mem Bytes Fix
set_option linter.unusedVariables false
set_option linter.unusedSimpArgs false
set_option maxRecDepth 100000 in
set_option maxHeartbeats 1000000 in
theorem body_any (S : Nat → Int) (w : World) (hb : BdS S) (h : RightS S) : Calls Try.prog 42 #[.agg #[.int .u64 (S 0), .int .u64 (S 1), .int .u64 (S 2), .int .u64 (S 3), .int .u32 (S 4), .int .u32 (S 5), .int .u32 (S 6), .int .i64 (S 7), .int .i64 (S 8), .int .u64 (S 9), .int .u64 (S 10), .int .u64 (S 11), .int .u64 (S 12)]] w fun e w' => ∃ v, e = .returned v ∧ OB w' w.heap.size v (bdy S 13) ∧ Below w.heap.size w w' := by
  have HLEN := Lib.hid (bdy_len S)
  obtain ⟨⟨p0, q0⟩, ⟨p1, q1⟩, ⟨p2, q2⟩, ⟨p3, q3⟩, ⟨p4, q4⟩, ⟨p5, q5⟩, ⟨p6, q6⟩, ⟨p9, q9⟩, ⟨p10, q10⟩, ⟨p11, q11⟩, ⟨p12, q12⟩⟩ := hb
  have hr := h.2.1
  unfold RingP at hr
  obtain ⟨r1, r2, r3, r4⟩ := hr
  have p7 : 0 ≤ S 7 := by omega
  have p8 : 0 ≤ S 8 := by omega
  have q7 : S 7 ≤ 18446744073709551615 := by omega
  have q8 : S 8 ≤ 18446744073709551615 := by omega
  clear h
  go_enter Try.func42, Try.ntmps42
  go_wp2
  refine wp_loop_rounds 14 ?_
  obtain ⟨x0, hx0⟩ : ∃ x0 : World, x0 = (((w.alloc (.cells #[.int .u64 (S 0), .int .u64 (S 1), .int .u64 (S 2), .int .u64 (S 3), .int .u32 (S 4), .int .u32 (S 5), .int .u32 (S 6), .int .i64 (S 7), .int .i64 (S 8), .int .u64 (S 9), .int .u64 (S 10), .int .u64 (S 11), .int .u64 (S 12)] 54)).alloc (.cells #[.int .i64 (S 7), .int .i64 (S 8), .int .u64 (S 9), .int .u64 (S 10), .int .u64 (S 11), .int .u64 (S 12)] 52)).alloc (.cells #[.int .u64 (S 0), .int .u64 (S 1), .int .u64 (S 2), .int .u64 (S 3), .int .u64 (S 4), .int .u64 (S 5), .int .u64 (S 6), .int .u64 (S 7), .int .u64 (S 8), .int .u64 (S 9), .int .u64 (S 10), .int .u64 (S 11), .int .u64 (S 12)] 98)) := ⟨_, rfl⟩
  have HB0 : Below w.heap.size w x0 := by rw [hx0]; exact (by repeat (first | assumption | exact Below.refl _ _ | refine bel_alloc ?_ _ | refine bel_drewN ?_ _ | refine bel_drew ?_ | refine bel_set ?_ (by first | (simp; done) | omega | (simp; omega)) _ | refine bel_trans ?_ (by assumption)))
  have BK0 : Hid (Blk x0 (w.heap.size + 2) #[.int .u64 (S 0), .int .u64 (S 1), .int .u64 (S 2), .int .u64 (S 3), .int .u64 (S 4), .int .u64 (S 5), .int .u64 (S 6), .int .u64 (S 7), .int .u64 (S 8), .int .u64 (S 9), .int .u64 (S 10), .int .u64 (S 11), .int .u64 (S 12)] 98) := Lib.hid (by rw [hx0]; exact Blk.new _ _ _ _ (by simp))
  have HS0 : Hid (BS x0 none (bdy S 0)) := Lib.hid Sl.nil
  rw [← hx0]
  clear hx0
  obtain ⟨kc, kf, kz⟩ := BK0.out.facts
  rw [rounds_succ]
  go_wp2_with fail
  refine (rput_any none 0 0 (bdy S 0) (S 0) 8 8 _ rfl (by omega) (by omega) (by omega) HLEN.out.1.symm (by exact HS0.out) (by omega)).mono ?_
  rintro e x1 ⟨v, rfl, ho, hb⟩
  have HB1 : Below w.heap.size w x1 := bel_trans HB0 hb
  obtain ⟨A1, c1, rfl, hs, _⟩ := Reader.ob_sl (L := bdy S 1) ho 8 HLEN.out.2.1
  have HS1 : Hid (BS x1 A1 (bdy S 1)) := Lib.hid hs
  have BK1 := Lib.hid (BK0.out.below hb)
  clear kc kf kz ho hs hb HS0 BK0
  go_wp2
  obtain ⟨kc, kf, kz⟩ := BK1.out.facts
  rw [rounds_succ]
  go_wp2_with fail
  refine (rput_any A1 8 c1 (bdy S 1) (S 1) 8 8 _ rfl (by omega) (by omega) (by omega) HLEN.out.2.1.symm (by exact HS1.out) (by omega)).mono ?_
  rintro e x2 ⟨v, rfl, ho, hb⟩
  have HB2 : Below w.heap.size w x2 := bel_trans HB1 hb
  obtain ⟨A2, c2, rfl, hs, _⟩ := Reader.ob_sl (L := bdy S 2) ho 16 HLEN.out.2.2.1
  have HS2 : Hid (BS x2 A2 (bdy S 2)) := Lib.hid hs
  have BK2 := Lib.hid (BK1.out.below hb)
  clear kc kf kz ho hs hb HS1 BK1
  go_wp2
  obtain ⟨kc, kf, kz⟩ := BK2.out.facts
  rw [rounds_succ]
  go_wp2_with fail
  refine (rput_any A2 16 c2 (bdy S 2) (S 2) 8 8 _ rfl (by omega) (by omega) (by omega) HLEN.out.2.2.1.symm (by exact HS2.out) (by omega)).mono ?_
  rintro e x3 ⟨v, rfl, ho, hb⟩
  have HB3 : Below w.heap.size w x3 := bel_trans HB2 hb
  obtain ⟨A3, c3, rfl, hs, _⟩ := Reader.ob_sl (L := bdy S 3) ho 24 HLEN.out.2.2.2.1
  have HS3 : Hid (BS x3 A3 (bdy S 3)) := Lib.hid hs
  have BK3 := Lib.hid (BK2.out.below hb)
  clear kc kf kz ho hs hb HS2 BK2
  go_wp2
  obtain ⟨kc, kf, kz⟩ := BK3.out.facts
  rw [rounds_succ]
  go_wp2_with fail
  refine (rput_any A3 24 c3 (bdy S 3) (S 3) 8 8 _ rfl (by omega) (by omega) (by omega) HLEN.out.2.2.2.1.symm (by exact HS3.out) (by omega)).mono ?_
  rintro e x4 ⟨v, rfl, ho, hb⟩
  have HB4 : Below w.heap.size w x4 := bel_trans HB3 hb
  obtain ⟨A4, c4, rfl, hs, _⟩ := Reader.ob_sl (L := bdy S 4) ho 32 HLEN.out.2.2.2.2.1
  have HS4 : Hid (BS x4 A4 (bdy S 4)) := Lib.hid hs
  have BK4 := Lib.hid (BK3.out.below hb)
  clear kc kf kz ho hs hb HS3 BK3
  go_wp2
  obtain ⟨kc, kf, kz⟩ := BK4.out.facts
  rw [rounds_succ]
  go_wp2_with fail
  refine (rput_any A4 32 c4 (bdy S 4) (S 4) 4 4 _ rfl (by omega) (by omega) (by omega) HLEN.out.2.2.2.2.1.symm (by exact HS4.out) (by omega)).mono ?_
  rintro e x5 ⟨v, rfl, ho, hb⟩
  have HB5 : Below w.heap.size w x5 := bel_trans HB4 hb
  obtain ⟨A5, c5, rfl, hs, _⟩ := Reader.ob_sl (L := bdy S 5) ho 36 HLEN.out.2.2.2.2.2.1
  have HS5 : Hid (BS x5 A5 (bdy S 5)) := Lib.hid hs
  have BK5 := Lib.hid (BK4.out.below hb)
  clear kc kf kz ho hs hb HS4 BK4
  go_wp2
  obtain ⟨kc, kf, kz⟩ := BK5.out.facts
  rw [rounds_succ]
  go_wp2_with fail
  refine (rput_any A5 36 c5 (bdy S 5) (S 5) 4 4 _ rfl (by omega) (by omega) (by omega) HLEN.out.2.2.2.2.2.1.symm (by exact HS5.out) (by omega)).mono ?_
  rintro e x6 ⟨v, rfl, ho, hb⟩
  have HB6 : Below w.heap.size w x6 := bel_trans HB5 hb
  obtain ⟨A6, c6, rfl, hs, _⟩ := Reader.ob_sl (L := bdy S 6) ho 40 HLEN.out.2.2.2.2.2.2.1
  have HS6 : Hid (BS x6 A6 (bdy S 6)) := Lib.hid hs
  have BK6 := Lib.hid (BK5.out.below hb)
  clear kc kf kz ho hs hb HS5 BK5
  go_wp2
  obtain ⟨kc, kf, kz⟩ := BK6.out.facts
  rw [rounds_succ]
  go_wp2_with fail
  refine (rput_any A6 40 c6 (bdy S 6) (S 6) 4 4 _ rfl (by omega) (by omega) (by omega) HLEN.out.2.2.2.2.2.2.1.symm (by exact HS6.out) (by omega)).mono ?_
  rintro e x7 ⟨v, rfl, ho, hb⟩
  have HB7 : Below w.heap.size w x7 := bel_trans HB6 hb
  obtain ⟨A7, c7, rfl, hs, _⟩ := Reader.ob_sl (L := bdy S 7) ho 44 HLEN.out.2.2.2.2.2.2.2.1
  have HS7 : Hid (BS x7 A7 (bdy S 7)) := Lib.hid hs
  have BK7 := Lib.hid (BK6.out.below hb)
  clear kc kf kz ho hs hb HS6 BK6
  go_wp2
  obtain ⟨kc, kf, kz⟩ := BK7.out.facts
  rw [rounds_succ]
  go_wp2_with fail
  refine (rput_any A7 44 c7 (bdy S 7) (S 7) 4 4 _ rfl (by omega) (by omega) (by omega) HLEN.out.2.2.2.2.2.2.2.1.symm (by exact HS7.out) (by omega)).mono ?_
  rintro e x8 ⟨v, rfl, ho, hb⟩
  have HB8 : Below w.heap.size w x8 := bel_trans HB7 hb
  obtain ⟨A8, c8, rfl, hs, _⟩ := Reader.ob_sl (L := bdy S 8) ho 48 HLEN.out.2.2.2.2.2.2.2.2.1
  have HS8 : Hid (BS x8 A8 (bdy S 8)) := Lib.hid hs
  have BK8 := Lib.hid (BK7.out.below hb)
  clear kc kf kz ho hs hb HS7 BK7
  go_wp2
  obtain ⟨kc, kf, kz⟩ := BK8.out.facts
  rw [rounds_succ]
  go_wp2_with fail
  refine (rput_any A8 48 c8 (bdy S 8) (S 8) 4 4 _ rfl (by omega) (by omega) (by omega) HLEN.out.2.2.2.2.2.2.2.2.1.symm (by exact HS8.out) (by omega)).mono ?_
  rintro e x9 ⟨v, rfl, ho, hb⟩
  have HB9 : Below w.heap.size w x9 := bel_trans HB8 hb
  obtain ⟨A9, c9, rfl, hs, _⟩ := Reader.ob_sl (L := bdy S 9) ho 52 HLEN.out.2.2.2.2.2.2.2.2.2.1
  have HS9 : Hid (BS x9 A9 (bdy S 9)) := Lib.hid hs
  have BK9 := Lib.hid (BK8.out.below hb)
  clear kc kf kz ho hs hb HS8 BK8
  go_wp2
  obtain ⟨kc, kf, kz⟩ := BK9.out.facts
  rw [rounds_succ]
  go_wp2_with fail
  refine (rput_any A9 52 c9 (bdy S 9) (S 9) 8 8 _ rfl (by omega) (by omega) (by omega) HLEN.out.2.2.2.2.2.2.2.2.2.1.symm (by exact HS9.out) (by omega)).mono ?_
  rintro e x10 ⟨v, rfl, ho, hb⟩
  have HB10 : Below w.heap.size w x10 := bel_trans HB9 hb
  obtain ⟨A10, c10, rfl, hs, _⟩ := Reader.ob_sl (L := bdy S 10) ho 60 HLEN.out.2.2.2.2.2.2.2.2.2.2.1
  have HS10 : Hid (BS x10 A10 (bdy S 10)) := Lib.hid hs
  have BK10 := Lib.hid (BK9.out.below hb)
  clear kc kf kz ho hs hb HS9 BK9
  go_wp2
  obtain ⟨kc, kf, kz⟩ := BK10.out.facts
  rw [rounds_succ]
  go_wp2_with fail
  refine (rput_any A10 60 c10 (bdy S 10) (S 10) 8 8 _ rfl (by omega) (by omega) (by omega) HLEN.out.2.2.2.2.2.2.2.2.2.2.1.symm (by exact HS10.out) (by omega)).mono ?_
  rintro e x11 ⟨v, rfl, ho, hb⟩
  have HB11 : Below w.heap.size w x11 := bel_trans HB10 hb
  obtain ⟨A11, c11, rfl, hs, _⟩ := Reader.ob_sl (L := bdy S 11) ho 68 HLEN.out.2.2.2.2.2.2.2.2.2.2.2.1
  have HS11 : Hid (BS x11 A11 (bdy S 11)) := Lib.hid hs
  have BK11 := Lib.hid (BK10.out.below hb)
  clear kc kf kz ho hs hb HS10 BK10
  go_wp2
  obtain ⟨kc, kf, kz⟩ := BK11.out.facts
  rw [rounds_succ]
  go_wp2_with fail
  refine (rput_any A11 68 c11 (bdy S 11) (S 11) 8 8 _ rfl (by omega) (by omega) (by omega) HLEN.out.2.2.2.2.2.2.2.2.2.2.2.1.symm (by exact HS11.out) (by omega)).mono ?_
  rintro e x12 ⟨v, rfl, ho, hb⟩
  have HB12 : Below w.heap.size w x12 := bel_trans HB11 hb
  obtain ⟨A12, c12, rfl, hs, _⟩ := Reader.ob_sl (L := bdy S 12) ho 76 HLEN.out.2.2.2.2.2.2.2.2.2.2.2.2.1
  have HS12 : Hid (BS x12 A12 (bdy S 12)) := Lib.hid hs
  have BK12 := Lib.hid (BK11.out.below hb)
  clear kc kf kz ho hs hb HS11 BK11
  go_wp2
  obtain ⟨kc, kf, kz⟩ := BK12.out.facts
  rw [rounds_succ]
  go_wp2_with fail
  refine (rput_any A12 76 c12 (bdy S 12) (S 12) 8 8 _ rfl (by omega) (by omega) (by omega) HLEN.out.2.2.2.2.2.2.2.2.2.2.2.2.1.symm (by exact HS12.out) (by omega)).mono ?_
  rintro e x13 ⟨v, rfl, ho, hb⟩
  have HB13 : Below w.heap.size w x13 := bel_trans HB12 hb
  obtain ⟨A13, c13, rfl, hs, _⟩ := Reader.ob_sl (L := bdy S 13) ho 84 HLEN.out.2.2.2.2.2.2.2.2.2.2.2.2.2
  have HS13 : Hid (BS x13 A13 (bdy S 13)) := Lib.hid hs
  have BK13 := Lib.hid (BK12.out.below hb)
  have HO := Lib.hid (OwnL.mono ho HB12.size)
  clear kc kf kz ho hs hb HS12 BK12
  go_wp2
  rw [rounds_succ]
  go_wp2
  go_ret
  exact ⟨_, rfl, HO.out, HB13⟩
end Go.Proofs.Ytkdphoacniigjaa.Super
