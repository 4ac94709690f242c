/- points.Of and May at the chapter's example; the law PointsNeeded, walked. -/
import Derived.Test.YtfdnpdolpfnlgaaPts2
namespace Go.Proofs.Ytfdnpdolpfnlgaa.Pts
open Go.RowKit Mem
set_option linter.unusedVariables false
set_option linter.unusedSimpArgs false
theorem pts_of_sl {w : World} {A : Option Addr} {n : Nat} {L : List Int} (hn : n = L.length) (h : Sl w A 1 (IE .u64) L) : Marks.Points w A n (fun i => L.getD i default) := by
  subst hn; exact h
set_option maxRecDepth 100000 in
set_option maxHeartbeats 1000000 in
theorem of_one (gv gk : Nat) (w : World) (h : Sl w (some ⟨gk, 0, none⟩) 1 (IE .u64) [4]) :
    Calls Try.prog 140 #[.agg #[.int .i64 0, .int .i64 0, .int .i64 0, .int .u64 5, .slice (some ⟨gv, 0, none⟩) 1 1, .slice none 0 0, .slice none 0 0, .slice (some ⟨gk, 0, none⟩) 1 1, .slice none 0 0], .int .i64 1] w fun e w' => ∃ A c, e = .returned (.slice A 1 c) ∧ Sl w' A 1 (IE .u64) [4] ∧ Below w.heap.size w w' := by
  have H := Lib.hid h
  clear h
  go_enter Try.func140, Try.ntmps140
  go_wp2_with fail
  refine (clone_U _ 1 1 [4] _ rfl (by omega) (fun h => by cases h) (by exact H.out.alloc _)).mono ?_
  rintro e w1 ⟨v, rfl, ho, hb⟩
  obtain ⟨A, c, rfl, hs, _⟩ := ho.sl
  have HS := Lib.hid hs
  have HB1 : Below w.heap.size w w1 := bel_trans (by repeat (first | assumption | exact Below.refl _ _ | refine bel_alloc ?_ _ | refine bel_drewN ?_ _ | refine bel_drew ?_ | refine bel_set ?_ (by first | (simp; done) | omega | (simp; omega)) _ | refine bel_trans ?_ (by assumption))) hb
  have hc : ∀ i, i < 9 → w1.cell? ⟨w.heap.size, i, none⟩ = (w.alloc (.cells #[.int .i64 0, .int .i64 0, .int .i64 0, .int .u64 5, .slice (some ⟨gv, 0, none⟩) 1 1, .slice none 0 0, .slice none 0 0, .slice (some ⟨gk, 0, none⟩) 1 1, .slice none 0 0] 65)).cell? ⟨w.heap.size, i, none⟩ := fun i hi => hb.cell (p := ⟨w.heap.size, i, none⟩) (by simp)
  have c6 := hc 6 (by omega)
  clear hc ho hs hb
  go_wp2
  refine wp_loop_rounds 1 ?_; rw [rounds_succ]
  go_wp2_with fail
  refine (sort_one _ _ _).mono ?_
  rintro e w2 ⟨rfl, hbk⟩
  have HB2 : Below w.heap.size w w2 := bel_trans HB1 hbk
  have HS2 := Lib.hid (HS.out.below hbk)
  clear hbk HB1
  go_wp2_with fail
  refine (compact_one _ _ _).mono ?_
  rintro e w3 ⟨rfl, hbk⟩
  have HB3 : Below w.heap.size w w3 := bel_trans HB2 hbk
  have HS3 := Lib.hid (HS2.out.below hbk)
  clear hbk HB2
  go_wp2
  go_ret
  exact ⟨_, _, rfl, HS3.out, HB3⟩
set_option maxRecDepth 100000 in
set_option maxHeartbeats 1000000 in
theorem may_kept (gv gk : Nat) (w : World) (h : Sl w (some ⟨gk, 0, none⟩) 1 (IE .u64) [4]) (hv : Sl w (some ⟨gv, 0, none⟩) 3 VE [⟨1, 3, none, 0, 0⟩]) :
    Calls Try.prog 133 #[.agg #[.int .i64 0, .int .i64 0, .int .i64 0, .int .u64 5, .slice (some ⟨gv, 0, none⟩) 1 1, .slice none 0 0, .slice none 0 0, .slice (some ⟨gk, 0, none⟩) 1 1, .slice none 0 0], .int .i64 1, .int .u64 4, .int .u64 9] w fun e w' => e = .returned (.bool true) ∧ Below w.heap.size w w' := by
  have H := Lib.hid h
  clear h
  have HV := Lib.hid hv
  clear hv
  go_enter Try.func133, Try.ntmps133
  go_wp2_with fail
  refine (find_some 0 0 0 5 (some ⟨gv, 0, none⟩) none none (some ⟨gk, 0, none⟩) none 1 1 0 0 0 0 1 1 0 0 1 [⟨1, 3, none, 0, 0⟩] _ rfl (by omega) (by exact HV.out.alloc _) ⟨1, 3, none, 0, 0⟩ rfl).mono ?_
  rintro e w1 ⟨rfl, hb⟩
  have HB1 : Below w.heap.size w w1 := bel_trans (by repeat (first | assumption | exact Below.refl _ _ | refine bel_alloc ?_ _ | refine bel_drewN ?_ _ | refine bel_drew ?_ | refine bel_set ?_ (by first | (simp; done) | omega | (simp; omega)) _ | refine bel_trans ?_ (by assumption))) hb
  have hc : ∀ i, i < 9 → w1.cell? ⟨w.heap.size, i, none⟩ = (w.alloc (.cells #[.int .i64 0, .int .i64 0, .int .i64 0, .int .u64 5, .slice (some ⟨gv, 0, none⟩) 1 1, .slice none 0 0, .slice none 0 0, .slice (some ⟨gk, 0, none⟩) 1 1, .slice none 0 0] 65)).cell? ⟨w.heap.size, i, none⟩ := fun i hi => hb.cell (p := ⟨w.heap.size, i, none⟩) (by simp)
  have c0 := hc 0 (by omega)
  have c1 := hc 1 (by omega)
  have c2 := hc 2 (by omega)
  have c3 := hc 3 (by omega)
  have c4 := hc 4 (by omega)
  have c5 := hc 5 (by omega)
  have c6 := hc 6 (by omega)
  have c7 := hc 7 (by omega)
  have c8 := hc 8 (by omega)
  have hz : w.heap.size < w1.heap.size := by have := hb.size; simp at this; omega
  have HK1 := Lib.hid ((H.out.alloc (.cells #[.int .i64 0, .int .i64 0, .int .i64 0, .int .u64 5, .slice (some ⟨gv, 0, none⟩) 1 1, .slice none 0 0, .slice none 0 0, .slice (some ⟨gk, 0, none⟩) 1 1, .slice none 0 0] 65)).below hb)
  clear hc hb
  go_wp2_with fail
  refine (of_one gv gk _ (by exact HK1.out.alloc _)).mono ?_
  rintro e w2 ⟨A, c, rfl, hs, hb⟩
  have HB2 : Below w.heap.size w w2 := bel_trans ((by repeat (first | assumption | exact Below.refl _ _ | refine bel_alloc ?_ _ | refine bel_drewN ?_ _ | refine bel_drew ?_ | refine bel_set ?_ (by first | (simp; done) | omega | (simp; omega)) _ | refine bel_trans ?_ (by assumption)))) hb
  have HS := Lib.hid hs
  clear hs hb
  go_wp2_with fail
  refine (Marks.contains_any A 1 c (fun i => ([4] : List Int).getD i default) 4 _ (by omega) (pts_of_sl rfl HS.out) true (by simp)).mono ?_
  rintro e w3 ⟨rfl, hbk⟩
  have HB3 : Below w.heap.size w w3 := bel_trans HB2 hbk
  clear hbk HB2
  go_wp2
  go_ret
  exact ⟨rfl, HB3⟩
set_option maxRecDepth 100000 in
set_option maxHeartbeats 1000000 in
theorem may_low (gv gk : Nat) (w : World) (h : Sl w (some ⟨gk, 0, none⟩) 1 (IE .u64) [4]) (hv : Sl w (some ⟨gv, 0, none⟩) 3 VE [⟨1, 3, none, 0, 0⟩]) :
    Calls Try.prog 133 #[.agg #[.int .i64 0, .int .i64 0, .int .i64 0, .int .u64 5, .slice (some ⟨gv, 0, none⟩) 1 1, .slice none 0 0, .slice none 0 0, .slice (some ⟨gk, 0, none⟩) 1 1, .slice none 0 0], .int .i64 1, .int .u64 3, .int .u64 9] w fun e w' => e = .returned (.bool false) ∧ Below w.heap.size w w' := by
  have H := Lib.hid h
  clear h
  have HV := Lib.hid hv
  clear hv
  go_enter Try.func133, Try.ntmps133
  go_wp2_with fail
  refine (find_some 0 0 0 5 (some ⟨gv, 0, none⟩) none none (some ⟨gk, 0, none⟩) none 1 1 0 0 0 0 1 1 0 0 1 [⟨1, 3, none, 0, 0⟩] _ rfl (by omega) (by exact HV.out.alloc _) ⟨1, 3, none, 0, 0⟩ rfl).mono ?_
  rintro e w1 ⟨rfl, hb⟩
  have HB1 : Below w.heap.size w w1 := bel_trans (by repeat (first | assumption | exact Below.refl _ _ | refine bel_alloc ?_ _ | refine bel_drewN ?_ _ | refine bel_drew ?_ | refine bel_set ?_ (by first | (simp; done) | omega | (simp; omega)) _ | refine bel_trans ?_ (by assumption))) hb
  have hc : ∀ i, i < 9 → w1.cell? ⟨w.heap.size, i, none⟩ = (w.alloc (.cells #[.int .i64 0, .int .i64 0, .int .i64 0, .int .u64 5, .slice (some ⟨gv, 0, none⟩) 1 1, .slice none 0 0, .slice none 0 0, .slice (some ⟨gk, 0, none⟩) 1 1, .slice none 0 0] 65)).cell? ⟨w.heap.size, i, none⟩ := fun i hi => hb.cell (p := ⟨w.heap.size, i, none⟩) (by simp)
  have c0 := hc 0 (by omega)
  have c1 := hc 1 (by omega)
  have c2 := hc 2 (by omega)
  have c3 := hc 3 (by omega)
  have c4 := hc 4 (by omega)
  have c5 := hc 5 (by omega)
  have c6 := hc 6 (by omega)
  have c7 := hc 7 (by omega)
  have c8 := hc 8 (by omega)
  have hz : w.heap.size < w1.heap.size := by have := hb.size; simp at this; omega
  have HK1 := Lib.hid ((H.out.alloc (.cells #[.int .i64 0, .int .i64 0, .int .i64 0, .int .u64 5, .slice (some ⟨gv, 0, none⟩) 1 1, .slice none 0 0, .slice none 0 0, .slice (some ⟨gk, 0, none⟩) 1 1, .slice none 0 0] 65)).below hb)
  clear hc hb
  go_wp2_with fail
  refine (of_one gv gk _ (by exact HK1.out.alloc _)).mono ?_
  rintro e w2 ⟨A, c, rfl, hs, hb⟩
  have HB2 : Below w.heap.size w w2 := bel_trans ((by repeat (first | assumption | exact Below.refl _ _ | refine bel_alloc ?_ _ | refine bel_drewN ?_ _ | refine bel_drew ?_ | refine bel_set ?_ (by first | (simp; done) | omega | (simp; omega)) _ | refine bel_trans ?_ (by assumption)))) hb
  have HS := Lib.hid hs
  clear hs hb
  go_wp2_with fail
  refine (Marks.contains_any A 1 c (fun i => ([4] : List Int).getD i default) 3 _ (by omega) (pts_of_sl rfl HS.out) false (by simp)).mono ?_
  rintro e w3 ⟨rfl, hbk⟩
  have HB3 : Below w.heap.size w w3 := bel_trans HB2 hbk
  clear hbk HB2
  go_wp2
  go_ret
  exact ⟨rfl, HB3⟩
set_option maxRecDepth 100000 in
set_option maxHeartbeats 1000000 in
theorem may_floor (gv gk : Nat) (w : World) (h : Sl w (some ⟨gk, 0, none⟩) 1 (IE .u64) [4]) (hv : Sl w (some ⟨gv, 0, none⟩) 3 VE [⟨1, 3, none, 0, 0⟩]) :
    Calls Try.prog 133 #[.agg #[.int .i64 0, .int .i64 0, .int .i64 0, .int .u64 5, .slice (some ⟨gv, 0, none⟩) 1 1, .slice none 0 0, .slice none 0 0, .slice (some ⟨gk, 0, none⟩) 1 1, .slice none 0 0], .int .i64 1, .int .u64 5, .int .u64 9] w fun e w' => e = .returned (.bool true) ∧ Below w.heap.size w w' := by
  have H := Lib.hid h
  clear h
  have HV := Lib.hid hv
  clear hv
  go_enter Try.func133, Try.ntmps133
  go_wp2_with fail
  refine (find_some 0 0 0 5 (some ⟨gv, 0, none⟩) none none (some ⟨gk, 0, none⟩) none 1 1 0 0 0 0 1 1 0 0 1 [⟨1, 3, none, 0, 0⟩] _ rfl (by omega) (by exact HV.out.alloc _) ⟨1, 3, none, 0, 0⟩ rfl).mono ?_
  rintro e w1 ⟨rfl, hb⟩
  have HB1 : Below w.heap.size w w1 := bel_trans (by repeat (first | assumption | exact Below.refl _ _ | refine bel_alloc ?_ _ | refine bel_drewN ?_ _ | refine bel_drew ?_ | refine bel_set ?_ (by first | (simp; done) | omega | (simp; omega)) _ | refine bel_trans ?_ (by assumption))) hb
  have hc : ∀ i, i < 9 → w1.cell? ⟨w.heap.size, i, none⟩ = (w.alloc (.cells #[.int .i64 0, .int .i64 0, .int .i64 0, .int .u64 5, .slice (some ⟨gv, 0, none⟩) 1 1, .slice none 0 0, .slice none 0 0, .slice (some ⟨gk, 0, none⟩) 1 1, .slice none 0 0] 65)).cell? ⟨w.heap.size, i, none⟩ := fun i hi => hb.cell (p := ⟨w.heap.size, i, none⟩) (by simp)
  have c0 := hc 0 (by omega)
  have c1 := hc 1 (by omega)
  have c2 := hc 2 (by omega)
  have c3 := hc 3 (by omega)
  have c4 := hc 4 (by omega)
  have c5 := hc 5 (by omega)
  have c6 := hc 6 (by omega)
  have c7 := hc 7 (by omega)
  have c8 := hc 8 (by omega)
  have hz : w.heap.size < w1.heap.size := by have := hb.size; simp at this; omega
  have HK1 := Lib.hid ((H.out.alloc (.cells #[.int .i64 0, .int .i64 0, .int .i64 0, .int .u64 5, .slice (some ⟨gv, 0, none⟩) 1 1, .slice none 0 0, .slice none 0 0, .slice (some ⟨gk, 0, none⟩) 1 1, .slice none 0 0] 65)).below hb)
  clear hc hb
  go_wp2
  go_ret
  exact ⟨rfl, (by repeat (first | assumption | exact Below.refl _ _ | refine bel_alloc ?_ _ | refine bel_drewN ?_ _ | refine bel_drew ?_ | refine bel_set ?_ (by first | (simp; done) | omega | (simp; omega)) _ | refine bel_trans ?_ (by assumption)))⟩
set_option maxRecDepth 100000 in
set_option maxHeartbeats 1000000 in
theorem alive_any (w : World) : Calls Try.prog 78 #[] w fun e w' => e = .returned (.bool true) ∧ Below w.heap.size w w' := by
  have hv0 : Sl (w.alloc (.cells #[.int .i64 1, .int .u64 3, .slice none 0 0] 142)) (some ⟨w.heap.size, 0, none⟩) 3 VE [⟨1, 3, none, 0, 0⟩] := sl_new w VE ⟨1, 3, none, 0, 0⟩ _ 3 _ _ rfl (fun j hj => by rcases (show j = 0 ∨ j = 1 ∨ j = 2 by have hj' : j < 3 := hj; omega) with rfl | rfl | rfl <;> rfl)
  have hk0 : Sl ((w.alloc (.cells #[.int .i64 1, .int .u64 3, .slice none 0 0] 142)).alloc (.cells #[.int .u64 4] 35)) (some ⟨w.heap.size + 1, 0, none⟩) 1 (IE .u64) [4] := sl_new _ (IE .u64) 4 _ 1 _ _ (by simp) (fun j hj => by have h0 : j = 0 := Nat.lt_one_iff.1 hj; subst h0; rfl)
  have HV0 := Lib.hid ((hv0.alloc (.cells #[.int .u64 4] 35)).alloc (.cells #[.int .i64 0, .int .i64 0, .int .i64 0, .int .u64 5, .slice (some ⟨w.heap.size, 0, none⟩) 1 1, .slice none 0 0, .slice none 0 0, .slice (some ⟨w.heap.size + 1, 0, none⟩) 1 1, .slice none 0 0] 65))
  have HK0 := Lib.hid (hk0.alloc (.cells #[.int .i64 0, .int .i64 0, .int .i64 0, .int .u64 5, .slice (some ⟨w.heap.size, 0, none⟩) 1 1, .slice none 0 0, .slice none 0 0, .slice (some ⟨w.heap.size + 1, 0, none⟩) 1 1, .slice none 0 0] 65))
  clear hv0 hk0
  go_enter Try.func78, Try.ntmps78
  go_wp2_with fail
  refine (may_kept _ _ _ (by exact HK0.out) (by exact HV0.out)).mono ?_
  rintro e w1 ⟨rfl, hb⟩
  have HB1 : Below w.heap.size w w1 := bel_trans (by repeat (first | assumption | exact Below.refl _ _ | refine bel_alloc ?_ _ | refine bel_drewN ?_ _ | refine bel_drew ?_ | refine bel_set ?_ (by first | (simp; done) | omega | (simp; omega)) _ | refine bel_trans ?_ (by assumption))) hb
  have HV1 := Lib.hid (HV0.out.below hb)
  have HK1 := Lib.hid (HK0.out.below hb)
  have B1 : Blk w1 (w.heap.size + 2) #[.int .i64 0, .int .i64 0, .int .i64 0, .int .u64 5, .slice (some ⟨w.heap.size, 0, none⟩) 1 1, .slice none 0 0, .slice none 0 0, .slice (some ⟨w.heap.size + 1, 0, none⟩) 1 1, .slice none 0 0] 65 := (Blk.new _ _ _ _ (by simp)).below hb
  obtain ⟨kc, kf, kz⟩ := B1.facts
  have HBK := Lib.hid B1
  clear hb HV0 HK0 B1
  go_wp2_with fail
  refine (may_low _ _ _ (by exact HK1.out) (by exact HV1.out)).mono ?_
  rintro e w2 ⟨rfl, hb⟩
  have HB2 : Below w.heap.size w w2 := bel_trans HB1 hb
  have HV2 := Lib.hid (HV1.out.below hb)
  have HK2 := Lib.hid (HK1.out.below hb)
  have B2 := HBK.out.below hb
  clear kc kf kz hb HV1 HK1 HBK
  obtain ⟨kc, kf, kz⟩ := B2.facts
  clear B2
  go_wp2_with fail
  refine (may_floor _ _ _ (by exact HK2.out) (by exact HV2.out)).mono ?_
  rintro e w3 ⟨rfl, hb⟩
  have HB3 : Below w.heap.size w w3 := bel_trans HB2 hb
  clear hb HV2 HK2 kc kf kz
  go_wp2
  go_ret
  exact ⟨rfl, HB3⟩
set_option maxRecDepth 100000 in
set_option maxHeartbeats 1000000 in
theorem pointsNeeded_any (A : Option Addr) (n c : Nat) (L : List Int) (fl fr nx : Int) (w : World) (hn : n = L.length) (hb9 : n ≤ 9223372036854775807) (h : Sl w A 1 (IE .u64) L) :
    Calls Try.prog 11 #[.slice A n c, .int .u64 fl, .agg #[.int .u64 fr, .int .u64 nx]] w fun e w' => e = .returned (.bool true) ∧ Below w.heap.size w w' := by
  have H := Lib.hid h
  clear h
  have HN := Lib.hid hn
  clear hn
  obtain ⟨v, hv⟩ := Marks.ex_bool (nx = 0 ∨ fl < nx ∨ ∃ x ∈ L, fr ≤ x ∧ x < nx)
  have HV := Lib.hid hv
  clear hv
  by_cases c0 : 60 < n
  · go_enter Try.func11, Try.ntmps11
    go_wp2
    go_ret
    exact ⟨rfl, (by repeat (first | assumption | exact Below.refl _ _ | refine bel_alloc ?_ _ | refine bel_drewN ?_ _ | refine bel_drew ?_ | refine bel_set ?_ (by first | (simp; done) | omega | (simp; omega)) _ | refine bel_trans ?_ (by assumption)))⟩
  have c1 : ∀ x : Ext (w.alloc (.cells #[.int .u64 fr, .int .u64 nx] 58)), x.w.cell? ⟨w.heap.size, 0, none⟩ = some (.int .u64 fr) := fun x => ext_cell (by simp) x
  have c2 : ∀ x : Ext (w.alloc (.cells #[.int .u64 fr, .int .u64 nx] 58)), x.w.cell? ⟨w.heap.size, 1, none⟩ = some (.int .u64 nx) := fun x => ext_cell (by simp) x
  have hN := Lib.hid (fun (x : Ext (w.alloc (.cells #[.int .u64 fr, .int .u64 nx] 58))) => ext_call (needed_any A n c L fl fr nx x.w HN.out hb9 ((H.out.alloc (.cells #[.int .u64 fr, .int .u64 nx] 58)).below x.h) v HV.out))
  have hRN := Lib.hid (fun (x : Ext (w.alloc (.cells #[.int .u64 fr, .int .u64 nx] 58))) => ext_call (rneeded_any A n c L fl fr nx x.w HN.out hb9 ((H.out.alloc (.cells #[.int .u64 fr, .int .u64 nx] 58)).below x.h) v HV.out))
  go_enter Try.func11, Try.ntmps11
  go_wp2
  (refine wp_region_ext (by kernel_rfl) (by kernel_rfl) ?_; (try dsimp only [List.append]); (repeat (go_big_quiet_step (first | (go_at_call 76; exact hN.out _) | (go_at_call 77; exact hRN.out _) | (go_at_call 78; exact ext_call (alive_any _))))); refine wpQuiet_nil ?_; rintro _ ⟨⟨wq, hbq⟩, rfl⟩)
  go_wp2
  go_ret
  exact ⟨rfl, (by repeat (first | assumption | exact Below.refl _ _ | refine bel_alloc ?_ _ | refine bel_drewN ?_ _ | refine bel_drew ?_ | refine bel_set ?_ (by first | (simp; done) | omega | (simp; omega)) _ | refine bel_trans ?_ (by assumption)))⟩
end Go.Proofs.Ytfdnpdolpfnlgaa.Pts
