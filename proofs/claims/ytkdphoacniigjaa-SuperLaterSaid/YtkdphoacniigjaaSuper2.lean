/- Superblocks as bytes: super.Put, the reference's Body. -/
import Derived.Test.YtkdphoacniigjaaSuper
namespace Go.Proofs.Ytkdphoacniigjaa.Super
open Go.RowKit Mem Bytes Fix
set_option linter.unusedVariables false
set_option linter.unusedSimpArgs false
def szf (i : Nat) : Nat := if 4 ≤ i ∧ i ≤ 8 then 4 else 8
/-- The first i numbers of a superblock, as bytes. -/
def bdy (S : Nat → Int) : Nat → List Int
  | 0 => []
  | i + 1 => bdy S i ++ le (S i) (szf i)
theorem bdy_isB (S : Nat → Int) (i : Nat) : IsB (bdy S i) := by
  induction i with
  | zero => exact IsB.nil
  | succ i ih => exact ih.append (le_isB _ _)
/-- Bounds of a superblock's numbers. -/
def BdS (S : Nat → Int) : Prop := (0 ≤ S 0 ∧ S 0 ≤ 18446744073709551615) ∧ (0 ≤ S 1 ∧ S 1 ≤ 18446744073709551615) ∧ (0 ≤ S 2 ∧ S 2 ≤ 18446744073709551615) ∧ (0 ≤ S 3 ∧ S 3 ≤ 18446744073709551615) ∧ (0 ≤ S 4 ∧ S 4 ≤ 4294967295) ∧ (0 ≤ S 5 ∧ S 5 ≤ 4294967295) ∧ (0 ≤ S 6 ∧ S 6 ≤ 4294967295) ∧ (0 ≤ S 9 ∧ S 9 ≤ 18446744073709551615) ∧ (0 ≤ S 10 ∧ S 10 ≤ 18446744073709551615) ∧ (0 ≤ S 11 ∧ S 11 ≤ 18446744073709551615) ∧ (0 ≤ S 12 ∧ S 12 ≤ 18446744073709551615)
def RightS (S : Nat → Int) : Prop := RightP (S 0) (S 4) (S 5) (S 6) (S 7) (S 8)
theorem bdy_len (S : Nat → Int) : (bdy S 0).length = 0 ∧ (bdy S 1).length = 8 ∧ (bdy S 2).length = 16 ∧ (bdy S 3).length = 24 ∧ (bdy S 4).length = 32 ∧ (bdy S 5).length = 36 ∧ (bdy S 6).length = 40 ∧ (bdy S 7).length = 44 ∧ (bdy S 8).length = 48 ∧ (bdy S 9).length = 52 ∧ (bdy S 10).length = 60 ∧ (bdy S 11).length = 68 ∧ (bdy S 12).length = 76 ∧ (bdy S 13).length = 84 := by
  simp [bdy, szf, le_length]
theorem right_S (S : Nat → Int) (w : World) (hb : BdS S) (v : Bool) (hv : v = true ↔ RightS S) : Calls Try.prog 41 #[.agg #[.int .u64 (S 0), .int .u64 (S 1), .int .u64 (S 2), .int .u64 (S 3), .int .u32 (S 4), .int .u32 (S 5), .int .u32 (S 6), .int .i64 (S 7), .int .i64 (S 8), .int .u64 (S 9), .int .u64 (S 10), .int .u64 (S 11), .int .u64 (S 12)]] w fun e w' => e = .returned (.bool v) ∧ Below w.heap.size w w' :=
  right_any (S 0) (S 1) (S 2) (S 3) (S 4) (S 5) (S 6) (S 7) (S 8) (S 9) (S 10) (S 11) (S 12) w hb.2.2.2.2.1.1 hb.2.2.2.2.2.1.1 hb.2.2.2.2.2.2.1.1 v hv
theorem rright_S (S : Nat → Int) (w : World) (hb : BdS S) (v : Bool) (hv : v = true ↔ RightS S) : Calls Try.prog 39 #[.agg #[.int .u64 (S 0), .int .u64 (S 1), .int .u64 (S 2), .int .u64 (S 3), .int .u32 (S 4), .int .u32 (S 5), .int .u32 (S 6), .int .i64 (S 7), .int .i64 (S 8), .int .u64 (S 9), .int .u64 (S 10), .int .u64 (S 11), .int .u64 (S 12)]] w fun e w' => e = .returned (.bool v) ∧ Below w.heap.size w w' :=
  rright_any (S 0) (S 1) (S 2) (S 3) (S 4) (S 5) (S 6) (S 7) (S 8) (S 9) (S 10) (S 11) (S 12) w hb.2.2.2.2.1.1 hb.2.2.2.2.2.1.1 hb.2.2.2.2.2.2.1.1 v hv
set_option maxRecDepth 100000 in
set_option maxHeartbeats 1000000 in
theorem sput_no (S : Nat → Int) (w : World) (hb : BdS S) (h : ¬ RightS S) : Calls Try.prog 40 #[.agg #[.int .u64 (S 0), .int .u64 (S 1), .int .u64 (S 2), .int .u64 (S 3), .int .u32 (S 4), .int .u32 (S 5), .int .u32 (S 6), .int .i64 (S 7), .int .i64 (S 8), .int .u64 (S 9), .int .u64 (S 10), .int .u64 (S 11), .int .u64 (S 12)]] w fun e w' => e = .returned (.tuple #[.slice none 0 0, .int .i64 10]) ∧ Below w.heap.size w w' := by
  have H := Lib.hid h
  have HBD := Lib.hid hb
  clear h hb
  go_enter Try.func40, Try.ntmps40
  go_wp2_with fail
  refine (right_S S _ HBD.out false ⟨fun h => by simp at h, fun h => absurd h H.out⟩).mono ?_
  rintro e w1 ⟨rfl, hb1⟩
  have HB1 : Below w.heap.size w w1 := bel_trans (by repeat (first | assumption | exact Below.refl _ _ | refine bel_alloc ?_ _ | refine bel_drewN ?_ _ | refine bel_drew ?_ | refine bel_set ?_ (by first | (simp; done) | omega | (simp; omega)) _ | refine bel_trans ?_ (by assumption))) hb1
  clear hb1
  go_wp2
  go_ret2
  exact ⟨rfl, HB1⟩
set_option maxRecDepth 100000 in
set_option maxHeartbeats 1000000 in
theorem sput_yes (S : Nat → Int) (w : World) (hb : BdS S) (h : RightS S) : Calls Try.prog 40 #[.agg #[.int .u64 (S 0), .int .u64 (S 1), .int .u64 (S 2), .int .u64 (S 3), .int .u32 (S 4), .int .u32 (S 5), .int .u32 (S 6), .int .i64 (S 7), .int .i64 (S 8), .int .u64 (S 9), .int .u64 (S 10), .int .u64 (S 11), .int .u64 (S 12)]] w fun e w' => ∃ v, e = .returned (.tuple #[v, .int .i64 0]) ∧ OB w' w.heap.size v (Page.page 1 (bdy S 13)) ∧ Below w.heap.size w w' := by
  have H := Lib.hid h
  have HBD := Lib.hid hb
  have HLEN := Lib.hid (bdy_len S)
  obtain ⟨⟨p0, q0⟩, ⟨p1, q1⟩, ⟨p2, q2⟩, ⟨p3, q3⟩, ⟨p4, q4⟩, ⟨p5, q5⟩, ⟨p6, q6⟩, ⟨p9, q9⟩, ⟨p10, q10⟩, ⟨p11, q11⟩, ⟨p12, q12⟩⟩ := hb
  have hr := h.2.1
  unfold RingP at hr
  obtain ⟨r1, r2, r3, r4⟩ := hr
  have p7 : 0 ≤ S 7 := by omega
  have p8 : 0 ≤ S 8 := by omega
  clear h
  have ix0 : ∀ w, (Instr.index 100 (.agg #[.int .u64 (S 0), .int .u64 (S 1), .int .u64 (S 2), .int .u64 (S 3)]) (.int .i64 0)).run Try.prog w = .ok (.int .u64 (S 0)) w := fun _ => by kernel_rfl
  have ix1 : ∀ w, (Instr.index 100 (.agg #[.int .u64 (S 0), .int .u64 (S 1), .int .u64 (S 2), .int .u64 (S 3)]) (.int .i64 1)).run Try.prog w = .ok (.int .u64 (S 1)) w := fun _ => by kernel_rfl
  have ix2 : ∀ w, (Instr.index 100 (.agg #[.int .u64 (S 0), .int .u64 (S 1), .int .u64 (S 2), .int .u64 (S 3)]) (.int .i64 2)).run Try.prog w = .ok (.int .u64 (S 2)) w := fun _ => by kernel_rfl
  have ix3 : ∀ w, (Instr.index 100 (.agg #[.int .u64 (S 0), .int .u64 (S 1), .int .u64 (S 2), .int .u64 (S 3)]) (.int .i64 3)).run Try.prog w = .ok (.int .u64 (S 3)) w := fun _ => by kernel_rfl
  have ix4 : ∀ w, (Instr.index 101 (.agg #[.int .u64 (S 4), .int .u64 (S 5), .int .u64 (S 6), .int .u64 (S 7), .int .u64 (S 8)]) (.int .i64 0)).run Try.prog w = .ok (.int .u64 (S 4)) w := fun _ => by kernel_rfl
  have ix5 : ∀ w, (Instr.index 101 (.agg #[.int .u64 (S 4), .int .u64 (S 5), .int .u64 (S 6), .int .u64 (S 7), .int .u64 (S 8)]) (.int .i64 1)).run Try.prog w = .ok (.int .u64 (S 5)) w := fun _ => by kernel_rfl
  have ix6 : ∀ w, (Instr.index 101 (.agg #[.int .u64 (S 4), .int .u64 (S 5), .int .u64 (S 6), .int .u64 (S 7), .int .u64 (S 8)]) (.int .i64 2)).run Try.prog w = .ok (.int .u64 (S 6)) w := fun _ => by kernel_rfl
  have ix7 : ∀ w, (Instr.index 101 (.agg #[.int .u64 (S 4), .int .u64 (S 5), .int .u64 (S 6), .int .u64 (S 7), .int .u64 (S 8)]) (.int .i64 3)).run Try.prog w = .ok (.int .u64 (S 7)) w := fun _ => by kernel_rfl
  have ix8 : ∀ w, (Instr.index 101 (.agg #[.int .u64 (S 4), .int .u64 (S 5), .int .u64 (S 6), .int .u64 (S 7), .int .u64 (S 8)]) (.int .i64 4)).run Try.prog w = .ok (.int .u64 (S 8)) w := fun _ => by kernel_rfl
  have ix9 : ∀ w, (Instr.index 100 (.agg #[.int .u64 (S 9), .int .u64 (S 10), .int .u64 (S 11), .int .u64 (S 12)]) (.int .i64 0)).run Try.prog w = .ok (.int .u64 (S 9)) w := fun _ => by kernel_rfl
  have ix10 : ∀ w, (Instr.index 100 (.agg #[.int .u64 (S 9), .int .u64 (S 10), .int .u64 (S 11), .int .u64 (S 12)]) (.int .i64 1)).run Try.prog w = .ok (.int .u64 (S 10)) w := fun _ => by kernel_rfl
  have ix11 : ∀ w, (Instr.index 100 (.agg #[.int .u64 (S 9), .int .u64 (S 10), .int .u64 (S 11), .int .u64 (S 12)]) (.int .i64 2)).run Try.prog w = .ok (.int .u64 (S 11)) w := fun _ => by kernel_rfl
  have ix12 : ∀ w, (Instr.index 100 (.agg #[.int .u64 (S 9), .int .u64 (S 10), .int .u64 (S 11), .int .u64 (S 12)]) (.int .i64 3)).run Try.prog w = .ok (.int .u64 (S 12)) w := fun _ => by kernel_rfl
  go_enter Try.func40, Try.ntmps40
  go_wp2_with fail
  refine (right_S S _ HBD.out true ⟨fun _ => H.out, fun _ => rfl⟩).mono ?_
  rintro e x0 ⟨rfl, hb1⟩
  have HB0 : Below w.heap.size w x0 := bel_trans (by repeat (first | assumption | exact Below.refl _ _ | refine bel_alloc ?_ _ | refine bel_drewN ?_ _ | refine bel_drew ?_ | refine bel_set ?_ (by first | (simp; done) | omega | (simp; omega)) _ | refine bel_trans ?_ (by assumption))) hb1
  have BK0 : Hid (Blk x0 w.heap.size #[.int .u64 (S 0), .int .u64 (S 1), .int .u64 (S 2), .int .u64 (S 3), .int .u32 (S 4), .int .u32 (S 5), .int .u32 (S 6), .int .i64 (S 7), .int .i64 (S 8), .int .u64 (S 9), .int .u64 (S 10), .int .u64 (S 11), .int .u64 (S 12)] 54) := Lib.hid ((Blk.new _ _ _ _ rfl).below hb1)
  have HO0 : Hid (OB x0 (w.heap.size + 1) (.slice none 0 0) (bdy S 0)) := Lib.hid OwnL.nil
  obtain ⟨kc, kf, kz⟩ := BK0.out.facts
  clear hb1
  go_wp2
  refine wp_loop_rounds 5 ?_
  clear kc kf kz
  rw [rounds_succ]
  go_wp2_with fail
  refine (put_any (w.heap.size + 1) _ (bdy S 0) (S 0) 8 8 _ rfl (by omega) (by omega) (by exact HO0.out) (by have := HLEN.out; omega) (by have := BK0.out.lt; omega)).mono ?_
  rintro e x1 ⟨v1, rfl, ho, hg⟩
  have HB1 : Below w.heap.size w x1 := hg.bel HB0 (OwnL.mono HO0.out (Nat.le_succ _))
  have HO1 : Hid (OB x1 (w.heap.size + 1) v1 (bdy S 1)) := Lib.hid ho
  have BK1 := Lib.hid (BK0.out.grew hg (fun e => by have := (OwnL.lt' HO0.out _ e).1; omega))
  clear ho hg HO0 BK0 HB0
  go_wp2
  rw [rounds_succ]
  go_wp2_with fail
  refine (put_any (w.heap.size + 1) _ (bdy S 1) (S 1) 8 8 _ rfl (by omega) (by omega) (by exact HO1.out) (by have := HLEN.out; omega) (by have := BK1.out.lt; omega)).mono ?_
  rintro e x2 ⟨v2, rfl, ho, hg⟩
  have HB2 : Below w.heap.size w x2 := hg.bel HB1 (OwnL.mono HO1.out (Nat.le_succ _))
  have HO2 : Hid (OB x2 (w.heap.size + 1) v2 (bdy S 2)) := Lib.hid ho
  have BK2 := Lib.hid (BK1.out.grew hg (fun e => by have := (OwnL.lt' HO1.out _ e).1; omega))
  clear ho hg HO1 BK1 HB1
  go_wp2
  rw [rounds_succ]
  go_wp2_with fail
  refine (put_any (w.heap.size + 1) _ (bdy S 2) (S 2) 8 8 _ rfl (by omega) (by omega) (by exact HO2.out) (by have := HLEN.out; omega) (by have := BK2.out.lt; omega)).mono ?_
  rintro e x3 ⟨v3, rfl, ho, hg⟩
  have HB3 : Below w.heap.size w x3 := hg.bel HB2 (OwnL.mono HO2.out (Nat.le_succ _))
  have HO3 : Hid (OB x3 (w.heap.size + 1) v3 (bdy S 3)) := Lib.hid ho
  have BK3 := Lib.hid (BK2.out.grew hg (fun e => by have := (OwnL.lt' HO2.out _ e).1; omega))
  clear ho hg HO2 BK2 HB2
  go_wp2
  rw [rounds_succ]
  go_wp2_with fail
  refine (put_any (w.heap.size + 1) _ (bdy S 3) (S 3) 8 8 _ rfl (by omega) (by omega) (by exact HO3.out) (by have := HLEN.out; omega) (by have := BK3.out.lt; omega)).mono ?_
  rintro e x4 ⟨v4, rfl, ho, hg⟩
  have HB4 : Below w.heap.size w x4 := hg.bel HB3 (OwnL.mono HO3.out (Nat.le_succ _))
  have HO4 : Hid (OB x4 (w.heap.size + 1) v4 (bdy S 4)) := Lib.hid ho
  have BK4 := Lib.hid (BK3.out.grew hg (fun e => by have := (OwnL.lt' HO3.out _ e).1; omega))
  clear ho hg HO3 BK3 HB3
  go_wp2
  obtain ⟨kc, kf, kz⟩ := BK4.out.facts
  rw [rounds_succ]
  go_wp2
  refine wp_loop_rounds 6 ?_
  clear kc kf kz
  rw [rounds_succ]
  go_wp2_with fail
  refine (put_any (w.heap.size + 1) _ (bdy S 4) (S 4) 4 4 _ rfl (by omega) (by omega) (by exact HO4.out) (by have := HLEN.out; omega) (by have := BK4.out.lt; omega)).mono ?_
  rintro e x5 ⟨v5, rfl, ho, hg⟩
  have HB5 : Below w.heap.size w x5 := hg.bel HB4 (OwnL.mono HO4.out (Nat.le_succ _))
  have HO5 : Hid (OB x5 (w.heap.size + 1) v5 (bdy S 5)) := Lib.hid ho
  have BK5 := Lib.hid (BK4.out.grew hg (fun e => by have := (OwnL.lt' HO4.out _ e).1; omega))
  clear ho hg HO4 BK4 HB4
  go_wp2
  rw [rounds_succ]
  go_wp2_with fail
  refine (put_any (w.heap.size + 1) _ (bdy S 5) (S 5) 4 4 _ rfl (by omega) (by omega) (by exact HO5.out) (by have := HLEN.out; omega) (by have := BK5.out.lt; omega)).mono ?_
  rintro e x6 ⟨v6, rfl, ho, hg⟩
  have HB6 : Below w.heap.size w x6 := hg.bel HB5 (OwnL.mono HO5.out (Nat.le_succ _))
  have HO6 : Hid (OB x6 (w.heap.size + 1) v6 (bdy S 6)) := Lib.hid ho
  have BK6 := Lib.hid (BK5.out.grew hg (fun e => by have := (OwnL.lt' HO5.out _ e).1; omega))
  clear ho hg HO5 BK5 HB5
  go_wp2
  rw [rounds_succ]
  go_wp2_with fail
  refine (put_any (w.heap.size + 1) _ (bdy S 6) (S 6) 4 4 _ rfl (by omega) (by omega) (by exact HO6.out) (by have := HLEN.out; omega) (by have := BK6.out.lt; omega)).mono ?_
  rintro e x7 ⟨v7, rfl, ho, hg⟩
  have HB7 : Below w.heap.size w x7 := hg.bel HB6 (OwnL.mono HO6.out (Nat.le_succ _))
  have HO7 : Hid (OB x7 (w.heap.size + 1) v7 (bdy S 7)) := Lib.hid ho
  have BK7 := Lib.hid (BK6.out.grew hg (fun e => by have := (OwnL.lt' HO6.out _ e).1; omega))
  clear ho hg HO6 BK6 HB6
  go_wp2
  rw [rounds_succ]
  go_wp2_with fail
  refine (put_any (w.heap.size + 1) _ (bdy S 7) (S 7) 4 4 _ rfl (by omega) (by omega) (by exact HO7.out) (by have := HLEN.out; omega) (by have := BK7.out.lt; omega)).mono ?_
  rintro e x8 ⟨v8, rfl, ho, hg⟩
  have HB8 : Below w.heap.size w x8 := hg.bel HB7 (OwnL.mono HO7.out (Nat.le_succ _))
  have HO8 : Hid (OB x8 (w.heap.size + 1) v8 (bdy S 8)) := Lib.hid ho
  have BK8 := Lib.hid (BK7.out.grew hg (fun e => by have := (OwnL.lt' HO7.out _ e).1; omega))
  clear ho hg HO7 BK7 HB7
  go_wp2
  rw [rounds_succ]
  go_wp2_with fail
  refine (put_any (w.heap.size + 1) _ (bdy S 8) (S 8) 4 4 _ rfl (by omega) (by omega) (by exact HO8.out) (by have := HLEN.out; omega) (by have := BK8.out.lt; omega)).mono ?_
  rintro e x9 ⟨v9, rfl, ho, hg⟩
  have HB9 : Below w.heap.size w x9 := hg.bel HB8 (OwnL.mono HO8.out (Nat.le_succ _))
  have HO9 : Hid (OB x9 (w.heap.size + 1) v9 (bdy S 9)) := Lib.hid ho
  have BK9 := Lib.hid (BK8.out.grew hg (fun e => by have := (OwnL.lt' HO8.out _ e).1; omega))
  clear ho hg HO8 BK8 HB8
  go_wp2
  obtain ⟨kc, kf, kz⟩ := BK9.out.facts
  rw [rounds_succ]
  go_wp2
  refine wp_loop_rounds 5 ?_
  clear kc kf kz
  rw [rounds_succ]
  go_wp2_with fail
  refine (put_any (w.heap.size + 1) _ (bdy S 9) (S 9) 8 8 _ rfl (by omega) (by omega) (by exact HO9.out) (by have := HLEN.out; omega) (by have := BK9.out.lt; omega)).mono ?_
  rintro e x10 ⟨v10, rfl, ho, hg⟩
  have HB10 : Below w.heap.size w x10 := hg.bel HB9 (OwnL.mono HO9.out (Nat.le_succ _))
  have HO10 : Hid (OB x10 (w.heap.size + 1) v10 (bdy S 10)) := Lib.hid ho
  have BK10 := Lib.hid (BK9.out.grew hg (fun e => by have := (OwnL.lt' HO9.out _ e).1; omega))
  clear ho hg HO9 BK9 HB9
  go_wp2
  rw [rounds_succ]
  go_wp2_with fail
  refine (put_any (w.heap.size + 1) _ (bdy S 10) (S 10) 8 8 _ rfl (by omega) (by omega) (by exact HO10.out) (by have := HLEN.out; omega) (by have := BK10.out.lt; omega)).mono ?_
  rintro e x11 ⟨v11, rfl, ho, hg⟩
  have HB11 : Below w.heap.size w x11 := hg.bel HB10 (OwnL.mono HO10.out (Nat.le_succ _))
  have HO11 : Hid (OB x11 (w.heap.size + 1) v11 (bdy S 11)) := Lib.hid ho
  have BK11 := Lib.hid (BK10.out.grew hg (fun e => by have := (OwnL.lt' HO10.out _ e).1; omega))
  clear ho hg HO10 BK10 HB10
  go_wp2
  rw [rounds_succ]
  go_wp2_with fail
  refine (put_any (w.heap.size + 1) _ (bdy S 11) (S 11) 8 8 _ rfl (by omega) (by omega) (by exact HO11.out) (by have := HLEN.out; omega) (by have := BK11.out.lt; omega)).mono ?_
  rintro e x12 ⟨v12, rfl, ho, hg⟩
  have HB12 : Below w.heap.size w x12 := hg.bel HB11 (OwnL.mono HO11.out (Nat.le_succ _))
  have HO12 : Hid (OB x12 (w.heap.size + 1) v12 (bdy S 12)) := Lib.hid ho
  have BK12 := Lib.hid (BK11.out.grew hg (fun e => by have := (OwnL.lt' HO11.out _ e).1; omega))
  clear ho hg HO11 BK11 HB11
  go_wp2
  rw [rounds_succ]
  go_wp2_with fail
  refine (put_any (w.heap.size + 1) _ (bdy S 12) (S 12) 8 8 _ rfl (by omega) (by omega) (by exact HO12.out) (by have := HLEN.out; omega) (by have := BK12.out.lt; omega)).mono ?_
  rintro e x13 ⟨v13, rfl, ho, hg⟩
  have HB13 : Below w.heap.size w x13 := hg.bel HB12 (OwnL.mono HO12.out (Nat.le_succ _))
  have HO13 : Hid (OB x13 (w.heap.size + 1) v13 (bdy S 13)) := Lib.hid ho
  have BK13 := Lib.hid (BK12.out.grew hg (fun e => by have := (OwnL.lt' HO12.out _ e).1; omega))
  clear ho hg HO12 BK12 HB12
  go_wp2
  rw [rounds_succ]
  obtain ⟨A, c, rfl, hs, hc, _⟩ := Reader.ob_sl HO13.out 84 HLEN.out.2.2.2.2.2.2.2.2.2.2.2.2.2
  have HS := Lib.hid hs
  clear hs
  go_wp2_with fail
  refine (Page.put_ok 1 A 84 c (bdy S 13) _ (by omega) (by omega) HLEN.out.2.2.2.2.2.2.2.2.2.2.2.2.2.symm (by omega) (by exact HS.out) (bdy_isB S 13)).mono ?_
  rintro e y1 ⟨v, rfl, ho, hb⟩
  have HBy : Below w.heap.size w y1 := bel_trans HB13 hb
  have HOy := Lib.hid (OwnL.mono ho HB13.size)
  clear ho hb
  go_wp2
  go_ret2
  exact ⟨_, rfl, HOy.out, HBy⟩
end Go.Proofs.Ytkdphoacniigjaa.Super
