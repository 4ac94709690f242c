/- The reference's Get of superblocks. -/
import Derived.Test.YtkdphoacniigjaaSuper4
namespace Go.Proofs.Ytkdphoacniigjaa.Super
open Go.RowKit Mem Bytes Fix Reader
set_option linter.unusedVariables false
set_option linter.unusedSimpArgs false
theorem num4_lt {M : List Int} (h : IsB M) (hl : M.length = 4) : num M < 4294967296 := by
  have h1 := (num_bd h).2
  rw [hl] at h1
  have h2 : (256 : Int) ^ 4 = 4294967296 := by decide
  omega
theorem slot_any (n : Int) (w : World) (h0 : 0 ≤ n) (h1 : n ≤ 18446744073709551615) : Calls Try.prog 76 #[.int .u64 n] w fun e w' => e = .returned (.int .i64 (n % 2)) ∧ w = w' := by
  have hw : IntKind.i64.wrap (n % 2) = n % 2 := IntWalk.i64_in _ (by omega)
  go_enter Try.func76, Try.ntmps76
  go_wp2
  go_ret
  exact ⟨rfl, rfl⟩
set_option maxRecDepth 100000 in
set_option maxHeartbeats 4000000 in
theorem rsget_any (A : Option Addr) (m c : Nat) (L : List Int) (w : World) (hm : m = L.length) (hc : m ≤ c) (h : BS w A L) (hB : IsB L) (hm9 : m ≤ 100000) :
    Calls Try.prog 35 #[.slice A m c] w fun e w' => SupRes w w' e (supR (Page.ofR 1 (Page.getS L))) := by
  have H := Lib.hid h
  have HM := Lib.hid hm
  clear h hm
  have HOL := Lib.hid (of_bytes hB 1)
  go_enter Try.func35, Try.ntmps35
  go_wp2_with fail
  refine (Page.rpof_any 1 A m c L _ HM.out hc (by exact Sl.alloc H.out _) hB).mono ?_
  rintro e w1 ⟨A1, n1, c1, hn1, rfl, hs1, hc1, hA1, hb1⟩
  generalize hr0 : Page.ofR 1 (Page.getS L) = r at *
  have HR0 := Lib.hid hr0
  clear hr0
  obtain ⟨B, code⟩ := r
  have HN := Lib.hid hn1
  have HS := Lib.hid hs1
  have HA := Lib.hid hA1
  have HB1 : Below w.heap.size w w1 := bel_trans (by repeat (first | assumption | exact Below.refl _ _ | refine bel_alloc ?_ _ | refine bel_drewN ?_ _ | refine bel_drew ?_ | refine bel_set ?_ (by first | (simp; done) | omega | (simp; omega)) _ | refine bel_trans ?_ (by assumption))) hb1
  have BZ1 : Hid (Blk w1 w.heap.size #[.int .u64 0, .int .u64 0, .int .u64 0, .int .u64 0, .int .u32 0, .int .u32 0, .int .u32 0, .int .i64 0, .int .i64 0, .int .u64 0, .int .u64 0, .int .u64 0, .int .u64 0] 54) := Lib.hid ((Blk.new _ _ _ _ rfl).below hb1)
  clear hn1 hs1 hA1 hb1
  by_cases c0 : code = 0
  · subst c0
    have HBI : Hid (IsB B) := Lib.hid HOL.out.1
    clear HOL
    by_cases h84 : B.length = 84
    · obtain ⟨b, off, x00, rfl, _⟩ := Sl.at1 (L := B) HS.out 0 (by omega)
      have hn84 : n1 = 84 := by have h3 : n1 = B.length := HN.out; omega
      subst hn84
      have HSB := Lib.hid (fun (lo : Nat) (h : lo < 84) => Page.sub_at (show BS w1 (some ⟨b, off, none⟩) B from HS.out) lo (by omega))
      have HLN := Lib.hid (fun (lo k : Nat) (h : lo + k ≤ 84) => show k = ((B.drop lo).take k).length by rw [List.length_take, List.length_drop]; omega)
      have hc84 : 84 ≤ c1 := hc1
      have H84 := Lib.hid h84
      have hgw : w.heap.size < w1.heap.size := BZ1.out.lt
      clear h84 hc1
      go_wp2
      refine wp_loop_rounds 14 ?_
      rw [rounds_succ]
      go_wp2_with fail
      refine (rget_any (some ⟨b, off, none⟩) 8 _ ((B.drop 0).take 8) _ (HLN.out 0 8 (by omega)) (by exact Sl.below (Sl.take (HS.out) 8) (bel_alloc (Below.refl _ _) _)) ((HBI.out.drop 0).take 8) (by omega)).mono ?_
      rintro e y1 ⟨rfl, hb⟩
      have HW1 : Below w1.heap.size w1 y1 := bel_trans (bel_alloc (Below.refl _ _) _) hb
      have HY1 : Below w.heap.size w y1 := bel_trans (bel_alloc HB1 _) hb
      have BK1 : Hid (Blk y1 w1.heap.size #[.int .u64 0, .int .u64 0, .int .u64 0, .int .u64 0, .int .u64 0, .int .u64 0, .int .u64 0, .int .u64 0, .int .u64 0, .int .u64 0, .int .u64 0, .int .u64 0, .int .u64 0] 98) := Lib.hid (Blk.below (cs := #[.int .u64 0, .int .u64 0, .int .u64 0, .int .u64 0, .int .u64 0, .int .u64 0, .int .u64 0, .int .u64 0, .int .u64 0, .int .u64 0, .int .u64 0, .int .u64 0, .int .u64 0]) (Blk.new _ _ _ _ rfl) hb)
      have BZ1 := Lib.hid (Blk.below (BZ1.out.alloc _) hb)
      have nq0 := (num_bd ((HBI.out.drop 0).take 8)).1
      generalize hq : num ((B.drop 0).take 8) = q0 at *
      have HQ0 : Hid (chV B 0 = q0) := Lib.hid ((ch_val H84.out 0 (by omega)).trans hq)
      obtain ⟨kc, kf, kz⟩ := BK1.out.facts
      clear hq hb
      go_wp2
      clear kc kf kz
      rw [rounds_succ]
      have nc1 : ¬ c1 = 8 := by omega
      go_wp2_with fail
      refine (rget_any (some ⟨b, off + 8, none⟩) 8 _ ((B.drop 8).take 8) _ (HLN.out 8 8 (by omega)) (by exact Sl.below (Sl.take (HSB.out 8 (by omega)) 8) (bel_set HW1 (Nat.le_refl _) _)) ((HBI.out.drop 8).take 8) (by omega)).mono ?_
      rintro e y2 ⟨rfl, hb⟩
      have HW2 : Below w1.heap.size w1 y2 := bel_trans (bel_set HW1 (Nat.le_refl _) _) hb
      have HY2 : Below w.heap.size w y2 := bel_trans (bel_set HY1 (Nat.le_of_lt hgw) _) hb
      have BK2 : Hid (Blk y2 w1.heap.size #[.int .u64 q0, .int .u64 0, .int .u64 0, .int .u64 0, .int .u64 0, .int .u64 0, .int .u64 0, .int .u64 0, .int .u64 0, .int .u64 0, .int .u64 0, .int .u64 0, .int .u64 0] 98) := Lib.hid (Blk.below (cs := #[.int .u64 q0, .int .u64 0, .int .u64 0, .int .u64 0, .int .u64 0, .int .u64 0, .int .u64 0, .int .u64 0, .int .u64 0, .int .u64 0, .int .u64 0, .int .u64 0, .int .u64 0]) ((BK1.out.store 0 (.int .u64 q0)).of_eq (by simp)) hb)
      have BZ2 := Lib.hid (Blk.below (BZ1.out.set (by omega)) hb)
      have nq1 := (num_bd ((HBI.out.drop 8).take 8)).1
      generalize hq : num ((B.drop 8).take 8) = q1 at *
      have HQ1 : Hid (chV B 1 = q1) := Lib.hid ((ch_val H84.out 1 (by omega)).trans hq)
      obtain ⟨kc, kf, kz⟩ := BK2.out.facts
      clear hq hb HW1 HY1 BK1 BZ1
      go_wp2
      clear kc kf kz
      rw [rounds_succ]
      have nc2 : ¬ c1 = 16 := by omega
      go_wp2_with fail
      refine (rget_any (some ⟨b, off + 16, none⟩) 8 _ ((B.drop 16).take 8) _ (HLN.out 16 8 (by omega)) (by exact Sl.below (Sl.take (HSB.out 16 (by omega)) 8) (bel_set HW2 (Nat.le_refl _) _)) ((HBI.out.drop 16).take 8) (by omega)).mono ?_
      rintro e y3 ⟨rfl, hb⟩
      have HW3 : Below w1.heap.size w1 y3 := bel_trans (bel_set HW2 (Nat.le_refl _) _) hb
      have HY3 : Below w.heap.size w y3 := bel_trans (bel_set HY2 (Nat.le_of_lt hgw) _) hb
      have BK3 : Hid (Blk y3 w1.heap.size #[.int .u64 q0, .int .u64 q1, .int .u64 0, .int .u64 0, .int .u64 0, .int .u64 0, .int .u64 0, .int .u64 0, .int .u64 0, .int .u64 0, .int .u64 0, .int .u64 0, .int .u64 0] 98) := Lib.hid (Blk.below (cs := #[.int .u64 q0, .int .u64 q1, .int .u64 0, .int .u64 0, .int .u64 0, .int .u64 0, .int .u64 0, .int .u64 0, .int .u64 0, .int .u64 0, .int .u64 0, .int .u64 0, .int .u64 0]) ((BK2.out.store 1 (.int .u64 q1)).of_eq (by simp)) hb)
      have BZ3 := Lib.hid (Blk.below (BZ2.out.set (by omega)) hb)
      have nq2 := (num_bd ((HBI.out.drop 16).take 8)).1
      generalize hq : num ((B.drop 16).take 8) = q2 at *
      have HQ2 : Hid (chV B 2 = q2) := Lib.hid ((ch_val H84.out 2 (by omega)).trans hq)
      obtain ⟨kc, kf, kz⟩ := BK3.out.facts
      clear hq hb HW2 HY2 BK2 BZ2
      go_wp2
      clear kc kf kz
      rw [rounds_succ]
      have nc3 : ¬ c1 = 24 := by omega
      go_wp2_with fail
      refine (rget_any (some ⟨b, off + 24, none⟩) 8 _ ((B.drop 24).take 8) _ (HLN.out 24 8 (by omega)) (by exact Sl.below (Sl.take (HSB.out 24 (by omega)) 8) (bel_set HW3 (Nat.le_refl _) _)) ((HBI.out.drop 24).take 8) (by omega)).mono ?_
      rintro e y4 ⟨rfl, hb⟩
      have HW4 : Below w1.heap.size w1 y4 := bel_trans (bel_set HW3 (Nat.le_refl _) _) hb
      have HY4 : Below w.heap.size w y4 := bel_trans (bel_set HY3 (Nat.le_of_lt hgw) _) hb
      have BK4 : Hid (Blk y4 w1.heap.size #[.int .u64 q0, .int .u64 q1, .int .u64 q2, .int .u64 0, .int .u64 0, .int .u64 0, .int .u64 0, .int .u64 0, .int .u64 0, .int .u64 0, .int .u64 0, .int .u64 0, .int .u64 0] 98) := Lib.hid (Blk.below (cs := #[.int .u64 q0, .int .u64 q1, .int .u64 q2, .int .u64 0, .int .u64 0, .int .u64 0, .int .u64 0, .int .u64 0, .int .u64 0, .int .u64 0, .int .u64 0, .int .u64 0, .int .u64 0]) ((BK3.out.store 2 (.int .u64 q2)).of_eq (by simp)) hb)
      have BZ4 := Lib.hid (Blk.below (BZ3.out.set (by omega)) hb)
      have nq3 := (num_bd ((HBI.out.drop 24).take 8)).1
      generalize hq : num ((B.drop 24).take 8) = q3 at *
      have HQ3 : Hid (chV B 3 = q3) := Lib.hid ((ch_val H84.out 3 (by omega)).trans hq)
      obtain ⟨kc, kf, kz⟩ := BK4.out.facts
      clear hq hb HW3 HY3 BK3 BZ3
      go_wp2
      clear kc kf kz
      rw [rounds_succ]
      have nc4 : ¬ c1 = 32 := by omega
      go_wp2_with fail
      refine (rget_any (some ⟨b, off + 32, none⟩) 4 _ ((B.drop 32).take 4) _ (HLN.out 32 4 (by omega)) (by exact Sl.below (Sl.take (HSB.out 32 (by omega)) 4) (bel_set HW4 (Nat.le_refl _) _)) ((HBI.out.drop 32).take 4) (by omega)).mono ?_
      rintro e y5 ⟨rfl, hb⟩
      have HW5 : Below w1.heap.size w1 y5 := bel_trans (bel_set HW4 (Nat.le_refl _) _) hb
      have HY5 : Below w.heap.size w y5 := bel_trans (bel_set HY4 (Nat.le_of_lt hgw) _) hb
      have BK5 : Hid (Blk y5 w1.heap.size #[.int .u64 q0, .int .u64 q1, .int .u64 q2, .int .u64 q3, .int .u64 0, .int .u64 0, .int .u64 0, .int .u64 0, .int .u64 0, .int .u64 0, .int .u64 0, .int .u64 0, .int .u64 0] 98) := Lib.hid (Blk.below (cs := #[.int .u64 q0, .int .u64 q1, .int .u64 q2, .int .u64 q3, .int .u64 0, .int .u64 0, .int .u64 0, .int .u64 0, .int .u64 0, .int .u64 0, .int .u64 0, .int .u64 0, .int .u64 0]) ((BK4.out.store 3 (.int .u64 q3)).of_eq (by simp)) hb)
      have BZ5 := Lib.hid (Blk.below (BZ4.out.set (by omega)) hb)
      have nq4 := (num_bd ((HBI.out.drop 32).take 4)).1
      have nr4 := num4_lt ((HBI.out.drop 32).take 4) (HLN.out 32 4 (by omega)).symm
      generalize hq : num ((B.drop 32).take 4) = q4 at *
      have HQ4 : Hid (chV B 4 = q4) := Lib.hid ((ch_val H84.out 4 (by omega)).trans hq)
      obtain ⟨kc, kf, kz⟩ := BK5.out.facts
      clear hq hb HW4 HY4 BK4 BZ4
      go_wp2
      clear kc kf kz
      rw [rounds_succ]
      have nc5 : ¬ c1 = 36 := by omega
      go_wp2_with fail
      refine (rget_any (some ⟨b, off + 36, none⟩) 4 _ ((B.drop 36).take 4) _ (HLN.out 36 4 (by omega)) (by exact Sl.below (Sl.take (HSB.out 36 (by omega)) 4) (bel_set HW5 (Nat.le_refl _) _)) ((HBI.out.drop 36).take 4) (by omega)).mono ?_
      rintro e y6 ⟨rfl, hb⟩
      have HW6 : Below w1.heap.size w1 y6 := bel_trans (bel_set HW5 (Nat.le_refl _) _) hb
      have HY6 : Below w.heap.size w y6 := bel_trans (bel_set HY5 (Nat.le_of_lt hgw) _) hb
      have BK6 : Hid (Blk y6 w1.heap.size #[.int .u64 q0, .int .u64 q1, .int .u64 q2, .int .u64 q3, .int .u64 q4, .int .u64 0, .int .u64 0, .int .u64 0, .int .u64 0, .int .u64 0, .int .u64 0, .int .u64 0, .int .u64 0] 98) := Lib.hid (Blk.below (cs := #[.int .u64 q0, .int .u64 q1, .int .u64 q2, .int .u64 q3, .int .u64 q4, .int .u64 0, .int .u64 0, .int .u64 0, .int .u64 0, .int .u64 0, .int .u64 0, .int .u64 0, .int .u64 0]) ((BK5.out.store 4 (.int .u64 q4)).of_eq (by simp)) hb)
      have BZ6 := Lib.hid (Blk.below (BZ5.out.set (by omega)) hb)
      have nq5 := (num_bd ((HBI.out.drop 36).take 4)).1
      have nr5 := num4_lt ((HBI.out.drop 36).take 4) (HLN.out 36 4 (by omega)).symm
      generalize hq : num ((B.drop 36).take 4) = q5 at *
      have HQ5 : Hid (chV B 5 = q5) := Lib.hid ((ch_val H84.out 5 (by omega)).trans hq)
      obtain ⟨kc, kf, kz⟩ := BK6.out.facts
      clear hq hb HW5 HY5 BK5 BZ5
      go_wp2
      clear kc kf kz
      rw [rounds_succ]
      have nc6 : ¬ c1 = 40 := by omega
      go_wp2_with fail
      refine (rget_any (some ⟨b, off + 40, none⟩) 4 _ ((B.drop 40).take 4) _ (HLN.out 40 4 (by omega)) (by exact Sl.below (Sl.take (HSB.out 40 (by omega)) 4) (bel_set HW6 (Nat.le_refl _) _)) ((HBI.out.drop 40).take 4) (by omega)).mono ?_
      rintro e y7 ⟨rfl, hb⟩
      have HW7 : Below w1.heap.size w1 y7 := bel_trans (bel_set HW6 (Nat.le_refl _) _) hb
      have HY7 : Below w.heap.size w y7 := bel_trans (bel_set HY6 (Nat.le_of_lt hgw) _) hb
      have BK7 : Hid (Blk y7 w1.heap.size #[.int .u64 q0, .int .u64 q1, .int .u64 q2, .int .u64 q3, .int .u64 q4, .int .u64 q5, .int .u64 0, .int .u64 0, .int .u64 0, .int .u64 0, .int .u64 0, .int .u64 0, .int .u64 0] 98) := Lib.hid (Blk.below (cs := #[.int .u64 q0, .int .u64 q1, .int .u64 q2, .int .u64 q3, .int .u64 q4, .int .u64 q5, .int .u64 0, .int .u64 0, .int .u64 0, .int .u64 0, .int .u64 0, .int .u64 0, .int .u64 0]) ((BK6.out.store 5 (.int .u64 q5)).of_eq (by simp)) hb)
      have BZ7 := Lib.hid (Blk.below (BZ6.out.set (by omega)) hb)
      have nq6 := (num_bd ((HBI.out.drop 40).take 4)).1
      have nr6 := num4_lt ((HBI.out.drop 40).take 4) (HLN.out 40 4 (by omega)).symm
      generalize hq : num ((B.drop 40).take 4) = q6 at *
      have HQ6 : Hid (chV B 6 = q6) := Lib.hid ((ch_val H84.out 6 (by omega)).trans hq)
      obtain ⟨kc, kf, kz⟩ := BK7.out.facts
      clear hq hb HW6 HY6 BK6 BZ6
      go_wp2
      clear kc kf kz
      rw [rounds_succ]
      have nc7 : ¬ c1 = 44 := by omega
      go_wp2_with fail
      refine (rget_any (some ⟨b, off + 44, none⟩) 4 _ ((B.drop 44).take 4) _ (HLN.out 44 4 (by omega)) (by exact Sl.below (Sl.take (HSB.out 44 (by omega)) 4) (bel_set HW7 (Nat.le_refl _) _)) ((HBI.out.drop 44).take 4) (by omega)).mono ?_
      rintro e y8 ⟨rfl, hb⟩
      have HW8 : Below w1.heap.size w1 y8 := bel_trans (bel_set HW7 (Nat.le_refl _) _) hb
      have HY8 : Below w.heap.size w y8 := bel_trans (bel_set HY7 (Nat.le_of_lt hgw) _) hb
      have BK8 : Hid (Blk y8 w1.heap.size #[.int .u64 q0, .int .u64 q1, .int .u64 q2, .int .u64 q3, .int .u64 q4, .int .u64 q5, .int .u64 q6, .int .u64 0, .int .u64 0, .int .u64 0, .int .u64 0, .int .u64 0, .int .u64 0] 98) := Lib.hid (Blk.below (cs := #[.int .u64 q0, .int .u64 q1, .int .u64 q2, .int .u64 q3, .int .u64 q4, .int .u64 q5, .int .u64 q6, .int .u64 0, .int .u64 0, .int .u64 0, .int .u64 0, .int .u64 0, .int .u64 0]) ((BK7.out.store 6 (.int .u64 q6)).of_eq (by simp)) hb)
      have BZ8 := Lib.hid (Blk.below (BZ7.out.set (by omega)) hb)
      have nq7 := (num_bd ((HBI.out.drop 44).take 4)).1
      have nr7 := num4_lt ((HBI.out.drop 44).take 4) (HLN.out 44 4 (by omega)).symm
      generalize hq : num ((B.drop 44).take 4) = q7 at *
      have HQ7 : Hid (chV B 7 = q7) := Lib.hid ((ch_val H84.out 7 (by omega)).trans hq)
      obtain ⟨kc, kf, kz⟩ := BK8.out.facts
      clear hq hb HW7 HY7 BK7 BZ7
      go_wp2
      clear kc kf kz
      rw [rounds_succ]
      have nc8 : ¬ c1 = 48 := by omega
      go_wp2_with fail
      refine (rget_any (some ⟨b, off + 48, none⟩) 4 _ ((B.drop 48).take 4) _ (HLN.out 48 4 (by omega)) (by exact Sl.below (Sl.take (HSB.out 48 (by omega)) 4) (bel_set HW8 (Nat.le_refl _) _)) ((HBI.out.drop 48).take 4) (by omega)).mono ?_
      rintro e y9 ⟨rfl, hb⟩
      have HW9 : Below w1.heap.size w1 y9 := bel_trans (bel_set HW8 (Nat.le_refl _) _) hb
      have HY9 : Below w.heap.size w y9 := bel_trans (bel_set HY8 (Nat.le_of_lt hgw) _) hb
      have BK9 : Hid (Blk y9 w1.heap.size #[.int .u64 q0, .int .u64 q1, .int .u64 q2, .int .u64 q3, .int .u64 q4, .int .u64 q5, .int .u64 q6, .int .u64 q7, .int .u64 0, .int .u64 0, .int .u64 0, .int .u64 0, .int .u64 0] 98) := Lib.hid (Blk.below (cs := #[.int .u64 q0, .int .u64 q1, .int .u64 q2, .int .u64 q3, .int .u64 q4, .int .u64 q5, .int .u64 q6, .int .u64 q7, .int .u64 0, .int .u64 0, .int .u64 0, .int .u64 0, .int .u64 0]) ((BK8.out.store 7 (.int .u64 q7)).of_eq (by simp)) hb)
      have BZ9 := Lib.hid (Blk.below (BZ8.out.set (by omega)) hb)
      have nq8 := (num_bd ((HBI.out.drop 48).take 4)).1
      have nr8 := num4_lt ((HBI.out.drop 48).take 4) (HLN.out 48 4 (by omega)).symm
      generalize hq : num ((B.drop 48).take 4) = q8 at *
      have HQ8 : Hid (chV B 8 = q8) := Lib.hid ((ch_val H84.out 8 (by omega)).trans hq)
      obtain ⟨kc, kf, kz⟩ := BK9.out.facts
      clear hq hb HW8 HY8 BK8 BZ8
      go_wp2
      clear kc kf kz
      rw [rounds_succ]
      have nc9 : ¬ c1 = 52 := by omega
      go_wp2_with fail
      refine (rget_any (some ⟨b, off + 52, none⟩) 8 _ ((B.drop 52).take 8) _ (HLN.out 52 8 (by omega)) (by exact Sl.below (Sl.take (HSB.out 52 (by omega)) 8) (bel_set HW9 (Nat.le_refl _) _)) ((HBI.out.drop 52).take 8) (by omega)).mono ?_
      rintro e y10 ⟨rfl, hb⟩
      have HW10 : Below w1.heap.size w1 y10 := bel_trans (bel_set HW9 (Nat.le_refl _) _) hb
      have HY10 : Below w.heap.size w y10 := bel_trans (bel_set HY9 (Nat.le_of_lt hgw) _) hb
      have BK10 : Hid (Blk y10 w1.heap.size #[.int .u64 q0, .int .u64 q1, .int .u64 q2, .int .u64 q3, .int .u64 q4, .int .u64 q5, .int .u64 q6, .int .u64 q7, .int .u64 q8, .int .u64 0, .int .u64 0, .int .u64 0, .int .u64 0] 98) := Lib.hid (Blk.below (cs := #[.int .u64 q0, .int .u64 q1, .int .u64 q2, .int .u64 q3, .int .u64 q4, .int .u64 q5, .int .u64 q6, .int .u64 q7, .int .u64 q8, .int .u64 0, .int .u64 0, .int .u64 0, .int .u64 0]) ((BK9.out.store 8 (.int .u64 q8)).of_eq (by simp)) hb)
      have BZ10 := Lib.hid (Blk.below (BZ9.out.set (by omega)) hb)
      have nq9 := (num_bd ((HBI.out.drop 52).take 8)).1
      generalize hq : num ((B.drop 52).take 8) = q9 at *
      have HQ9 : Hid (chV B 9 = q9) := Lib.hid ((ch_val H84.out 9 (by omega)).trans hq)
      obtain ⟨kc, kf, kz⟩ := BK10.out.facts
      clear hq hb HW9 HY9 BK9 BZ9
      go_wp2
      clear kc kf kz
      rw [rounds_succ]
      have nc10 : ¬ c1 = 60 := by omega
      go_wp2_with fail
      refine (rget_any (some ⟨b, off + 60, none⟩) 8 _ ((B.drop 60).take 8) _ (HLN.out 60 8 (by omega)) (by exact Sl.below (Sl.take (HSB.out 60 (by omega)) 8) (bel_set HW10 (Nat.le_refl _) _)) ((HBI.out.drop 60).take 8) (by omega)).mono ?_
      rintro e y11 ⟨rfl, hb⟩
      have HW11 : Below w1.heap.size w1 y11 := bel_trans (bel_set HW10 (Nat.le_refl _) _) hb
      have HY11 : Below w.heap.size w y11 := bel_trans (bel_set HY10 (Nat.le_of_lt hgw) _) hb
      have BK11 : Hid (Blk y11 w1.heap.size #[.int .u64 q0, .int .u64 q1, .int .u64 q2, .int .u64 q3, .int .u64 q4, .int .u64 q5, .int .u64 q6, .int .u64 q7, .int .u64 q8, .int .u64 q9, .int .u64 0, .int .u64 0, .int .u64 0] 98) := Lib.hid (Blk.below (cs := #[.int .u64 q0, .int .u64 q1, .int .u64 q2, .int .u64 q3, .int .u64 q4, .int .u64 q5, .int .u64 q6, .int .u64 q7, .int .u64 q8, .int .u64 q9, .int .u64 0, .int .u64 0, .int .u64 0]) ((BK10.out.store 9 (.int .u64 q9)).of_eq (by simp)) hb)
      have BZ11 := Lib.hid (Blk.below (BZ10.out.set (by omega)) hb)
      have nq10 := (num_bd ((HBI.out.drop 60).take 8)).1
      generalize hq : num ((B.drop 60).take 8) = q10 at *
      have HQ10 : Hid (chV B 10 = q10) := Lib.hid ((ch_val H84.out 10 (by omega)).trans hq)
      obtain ⟨kc, kf, kz⟩ := BK11.out.facts
      clear hq hb HW10 HY10 BK10 BZ10
      go_wp2
      clear kc kf kz
      rw [rounds_succ]
      have nc11 : ¬ c1 = 68 := by omega
      go_wp2_with fail
      refine (rget_any (some ⟨b, off + 68, none⟩) 8 _ ((B.drop 68).take 8) _ (HLN.out 68 8 (by omega)) (by exact Sl.below (Sl.take (HSB.out 68 (by omega)) 8) (bel_set HW11 (Nat.le_refl _) _)) ((HBI.out.drop 68).take 8) (by omega)).mono ?_
      rintro e y12 ⟨rfl, hb⟩
      have HW12 : Below w1.heap.size w1 y12 := bel_trans (bel_set HW11 (Nat.le_refl _) _) hb
      have HY12 : Below w.heap.size w y12 := bel_trans (bel_set HY11 (Nat.le_of_lt hgw) _) hb
      have BK12 : Hid (Blk y12 w1.heap.size #[.int .u64 q0, .int .u64 q1, .int .u64 q2, .int .u64 q3, .int .u64 q4, .int .u64 q5, .int .u64 q6, .int .u64 q7, .int .u64 q8, .int .u64 q9, .int .u64 q10, .int .u64 0, .int .u64 0] 98) := Lib.hid (Blk.below (cs := #[.int .u64 q0, .int .u64 q1, .int .u64 q2, .int .u64 q3, .int .u64 q4, .int .u64 q5, .int .u64 q6, .int .u64 q7, .int .u64 q8, .int .u64 q9, .int .u64 q10, .int .u64 0, .int .u64 0]) ((BK11.out.store 10 (.int .u64 q10)).of_eq (by simp)) hb)
      have BZ12 := Lib.hid (Blk.below (BZ11.out.set (by omega)) hb)
      have nq11 := (num_bd ((HBI.out.drop 68).take 8)).1
      generalize hq : num ((B.drop 68).take 8) = q11 at *
      have HQ11 : Hid (chV B 11 = q11) := Lib.hid ((ch_val H84.out 11 (by omega)).trans hq)
      obtain ⟨kc, kf, kz⟩ := BK12.out.facts
      clear hq hb HW11 HY11 BK11 BZ11
      go_wp2
      clear kc kf kz
      rw [rounds_succ]
      have nc12 : ¬ c1 = 76 := by omega
      go_wp2_with fail
      refine (rget_any (some ⟨b, off + 76, none⟩) 8 _ ((B.drop 76).take 8) _ (HLN.out 76 8 (by omega)) (by exact Sl.below (Sl.take (HSB.out 76 (by omega)) 8) (bel_set HW12 (Nat.le_refl _) _)) ((HBI.out.drop 76).take 8) (by omega)).mono ?_
      rintro e y13 ⟨rfl, hb⟩
      have HW13 : Below w1.heap.size w1 y13 := bel_trans (bel_set HW12 (Nat.le_refl _) _) hb
      have HY13 : Below w.heap.size w y13 := bel_trans (bel_set HY12 (Nat.le_of_lt hgw) _) hb
      have BK13 : Hid (Blk y13 w1.heap.size #[.int .u64 q0, .int .u64 q1, .int .u64 q2, .int .u64 q3, .int .u64 q4, .int .u64 q5, .int .u64 q6, .int .u64 q7, .int .u64 q8, .int .u64 q9, .int .u64 q10, .int .u64 q11, .int .u64 0] 98) := Lib.hid (Blk.below (cs := #[.int .u64 q0, .int .u64 q1, .int .u64 q2, .int .u64 q3, .int .u64 q4, .int .u64 q5, .int .u64 q6, .int .u64 q7, .int .u64 q8, .int .u64 q9, .int .u64 q10, .int .u64 q11, .int .u64 0]) ((BK12.out.store 11 (.int .u64 q11)).of_eq (by simp)) hb)
      have BZ13 := Lib.hid (Blk.below (BZ12.out.set (by omega)) hb)
      have nq12 := (num_bd ((HBI.out.drop 76).take 8)).1
      generalize hq : num ((B.drop 76).take 8) = q12 at *
      have HQ12 : Hid (chV B 12 = q12) := Lib.hid ((ch_val H84.out 12 (by omega)).trans hq)
      obtain ⟨kc, kf, kz⟩ := BK13.out.facts
      clear hq hb HW12 HY12 BK12 BZ12
      go_wp2
      rw [rounds_succ]
      have hw4 : IntKind.u32.wrap q4 = q4 := by rw [IntKind.wrap_u32', Int.emod_eq_of_lt nq4 nr4]
      have hw5 : IntKind.u32.wrap q5 = q5 := by rw [IntKind.wrap_u32', Int.emod_eq_of_lt nq5 nr5]
      have hw6 : IntKind.u32.wrap q6 = q6 := by rw [IntKind.wrap_u32', Int.emod_eq_of_lt nq6 nr6]
      have hzs : w.heap.size ≠ y13.heap.size := by omega
      have hzs3 : w.heap.size ≤ y13.heap.size := by omega
      have e1 : RightS (chV B) = RightP q0 q4 q5 q6 q7 q8 := by unfold RightS; rw [HQ0.out, HQ4.out, HQ5.out, HQ6.out, HQ7.out, HQ8.out]
      by_cases hR : RightS (chV B)
      · have hr : supR (B, 0) = (chV B, 0) := by unfold supR; rw [if_neg (by simp), if_neg (by simp [H84.out, hR])]
        have HE : Hid (Ending.returned (Value.tuple #[.agg #[.int .u64 q0, .int .u64 q1, .int .u64 q2, .int .u64 q3, .int .u32 q4, .int .u32 q5, .int .u32 q6, .int .i64 q7, .int .i64 q8, .int .u64 q9, .int .u64 q10, .int .u64 q11, .int .u64 q12], .int .i64 0]) = Ending.returned (Value.tuple #[.agg #[.int .u64 (chV B 0), .int .u64 (chV B 1), .int .u64 (chV B 2), .int .u64 (chV B 3), .int .u32 (chV B 4), .int .u32 (chV B 5), .int .u32 (chV B 6), .int .i64 (chV B 7), .int .i64 (chV B 8), .int .u64 (chV B 9), .int .u64 (chV B 10), .int .u64 (chV B 11), .int .u64 (chV B 12)], .int .i64 0])) := Lib.hid (by rw [HQ0.out, HQ1.out, HQ2.out, HQ3.out, HQ4.out, HQ5.out, HQ6.out, HQ7.out, HQ8.out, HQ9.out, HQ10.out, HQ11.out, HQ12.out])
        have HR := Lib.hid hr
        rw [e1] at hR
        have HRR := Lib.hid hR
        clear hr hR e1
        go_wp2_with fail
        refine (rright_any q0 q1 q2 q3 q4 q5 q6 q7 q8 q9 q10 q11 q12 _ nq4 nq5 nq6 true ⟨fun _ => HRR.out, fun _ => rfl⟩).mono ?_
        rintro e y15 ⟨rfl, hb⟩
        have BZ15 := Lib.hid (Blk.below (Blk.alloc (BZ13.out.set (by omega)) _) hb)
        have HY15 := bel_trans (bel_alloc (bel_set HY13 (Nat.le_of_lt hgw) _) _) hb
        have SB15 : Hid (Blk y15 y13.heap.size #[.int .u64 q0, .int .u64 q1, .int .u64 q2, .int .u64 q3, .int .u32 q4, .int .u32 q5, .int .u32 q6, .int .i64 q7, .int .i64 q8, .int .u64 q9, .int .u64 q10, .int .u64 q11, .int .u64 q12] 54) := Lib.hid (Blk.below (cs := #[.int .u64 q0, .int .u64 q1, .int .u64 q2, .int .u64 q3, .int .u32 q4, .int .u32 q5, .int .u32 q6, .int .i64 q7, .int .i64 q8, .int .u64 q9, .int .u64 q10, .int .u64 q11, .int .u64 q12]) (Blk.new _ #[.int .u64 q0, .int .u64 q1, .int .u64 q2, .int .u64 q3, .int .u32 q4, .int .u32 q5, .int .u32 q6, .int .i64 q7, .int .i64 q8, .int .u64 q9, .int .u64 q10, .int .u64 q11, .int .u64 q12] 54 y13.heap.size (by simp)) hb)
        clear hb kc kf kz
        obtain ⟨kc, kf, kz⟩ := SB15.out.facts
        go_wp2_with (refine wpList_store_row rfl 54 (.tmp 2) (.tmp 84) (by rfl) _ #[.int .u64 q0, .int .u64 q1, .int .u64 q2, .int .u64 q3, .int .u32 q4, .int .u32 q5, .int .u32 q6, .int .i64 q7, .int .i64 q8, .int .u64 q9, .int .u64 q10, .int .u64 q11, .int .u64 q12] (by rfl) (by rfl) 54 _ BZ15.out info_super (by kernel_rfl) (by kernel_rfl) ?_)
        refine bodyPost_ret_by (v := .tuple #[.agg #[.int .u64 q0, .int .u64 q1, .int .u64 q2, .int .u64 q3, .int .u32 q4, .int .u32 q5, .int .u32 q6, .int .i64 q7, .int .i64 q8, .int .u64 q9, .int .u64 q10, .int .u64 q11, .int .u64 q12], .int .i64 0]) ?_ rfl ?_
        · exact results_cell2 (a := 2) (u := 3) rfl _ _ _ w.heap.size rfl _ (run_loadVar_row _ _ 54 54 _ (0, 0) _ (Crc.blk_row BZ15.out) Try.underlying54 rfl info_super)
        · rw [HR0.out, HR.out]
          exact supRes_mk (chV B) 0 HE.out (Crc.bel_row HY15 (Nat.le_refl _) _)
      · have hr : supR (B, 0) = (fun _ => 0, 21) := by unfold supR; rw [if_neg (by simp), if_pos (by simp [hR])]
        have HR := Lib.hid hr
        rw [e1] at hR
        have HRR := Lib.hid hR
        clear hr hR e1
        go_wp2_with fail
        refine (rright_any q0 q1 q2 q3 q4 q5 q6 q7 q8 q9 q10 q11 q12 _ nq4 nq5 nq6 false ⟨fun h => by simp at h, fun h => absurd h HRR.out⟩).mono ?_
        rintro e y15 ⟨rfl, hb⟩
        have BZ15 := Lib.hid (Blk.below (Blk.alloc (BZ13.out.set (by omega)) _) hb)
        have HY15 := bel_trans (bel_alloc (bel_set HY13 (Nat.le_of_lt hgw) _) _) hb
        clear hb kc kf kz
        go_wp2_with (refine wpList_store_row rfl 54 (.tmp 2) (.tmp 83) (by rfl) _ #[.int .u64 0, .int .u64 0, .int .u64 0, .int .u64 0, .int .u32 0, .int .u32 0, .int .u32 0, .int .i64 0, .int .i64 0, .int .u64 0, .int .u64 0, .int .u64 0, .int .u64 0] (by rfl) (by rfl) 54 _ BZ15.out info_super (by kernel_rfl) (by kernel_rfl) ?_)
        refine bodyPost_ret_by (v := .tuple #[.agg #[.int .u64 0, .int .u64 0, .int .u64 0, .int .u64 0, .int .u32 0, .int .u32 0, .int .u32 0, .int .i64 0, .int .i64 0, .int .u64 0, .int .u64 0, .int .u64 0, .int .u64 0], .int .i64 21]) ?_ rfl ?_
        · exact results_cell2 (a := 2) (u := 3) rfl _ _ _ w.heap.size rfl _ (run_loadVar_row _ _ 54 54 _ (0, 0) _ (Crc.blk_row BZ15.out) Try.underlying54 rfl info_super)
        · rw [HR0.out, HR.out]
          exact ⟨rfl, Crc.bel_row HY15 (Nat.le_refl _) _⟩
    · have hr : supR (B, 0) = (fun _ => 0, 21) := by unfold supR; rw [if_neg (by simp), if_pos (by simp [h84])]
      have HR := Lib.hid hr
      have dz : ((n1 : Int) != 84) = true := by have := HN.out; have h3 : n1 = B.length := this; simp; omega
      clear hr h84
      go_wp2_with (refine wpList_store_row rfl 54 (.tmp 2) (.tmp 23) (by rfl) _ #[.int .u64 0, .int .u64 0, .int .u64 0, .int .u64 0, .int .u32 0, .int .u32 0, .int .u32 0, .int .i64 0, .int .i64 0, .int .u64 0, .int .u64 0, .int .u64 0, .int .u64 0] (by rfl) (by rfl) 54 _ BZ1.out info_super (by kernel_rfl) (by kernel_rfl) ?_)
      refine bodyPost_ret_by (v := .tuple #[.agg #[.int .u64 0, .int .u64 0, .int .u64 0, .int .u64 0, .int .u32 0, .int .u32 0, .int .u32 0, .int .i64 0, .int .i64 0, .int .u64 0, .int .u64 0, .int .u64 0, .int .u64 0], .int .i64 21]) ?_ rfl ?_
      · exact results_cell2 (a := 2) (u := 3) rfl _ _ _ w.heap.size rfl _ (run_loadVar_row _ _ 54 54 _ (0, 0) _ (Crc.blk_row BZ1.out) Try.underlying54 rfl info_super)
      · rw [HR0.out, HR.out]
        exact ⟨rfl, Crc.bel_row HB1 (Nat.le_refl _) _⟩
  · have hr : supR (B, code) = (fun _ => 0, code) := by unfold supR; rw [if_pos (by simpa using c0)]
    have HR := Lib.hid hr
    have d1 : (code != 0) = true := by simpa using c0
    clear hr c0
    go_wp2_with (refine wpList_store_row rfl 54 (.tmp 2) (.tmp 18) (by rfl) _ #[.int .u64 0, .int .u64 0, .int .u64 0, .int .u64 0, .int .u32 0, .int .u32 0, .int .u32 0, .int .i64 0, .int .i64 0, .int .u64 0, .int .u64 0, .int .u64 0, .int .u64 0] (by rfl) (by rfl) 54 _ BZ1.out info_super (by kernel_rfl) (by kernel_rfl) ?_)
    refine bodyPost_ret_by (v := .tuple #[.agg #[.int .u64 0, .int .u64 0, .int .u64 0, .int .u64 0, .int .u32 0, .int .u32 0, .int .u32 0, .int .i64 0, .int .i64 0, .int .u64 0, .int .u64 0, .int .u64 0, .int .u64 0], .int .i64 code]) ?_ rfl ?_
    · exact results_cell2 (a := 2) (u := 3) rfl _ _ _ w.heap.size rfl _ (run_loadVar_row _ _ 54 54 _ (0, 0) _ (Crc.blk_row BZ1.out) Try.underlying54 rfl info_super)
    · rw [HR0.out, HR.out]
      exact ⟨rfl, Crc.bel_row HB1 (Nat.le_refl _) _⟩
end Go.Proofs.Ytkdphoacniigjaa.Super
