/- record: what is written is read; the chapter's example; the law RecordPuts. -/
import Derived.Test.YtkdphoacniigjaaRc3
import Derived.Test.YtkdphoacniigjaaPage6
namespace Go.Proofs.Ytkdphoacniigjaa.Rec
open Go.RowKit Mem Gx Sls Bytes Rd OpA
set_option linter.unusedVariables false
set_option linter.unusedSimpArgs false
set_option maxRecDepth 100000
set_option maxHeartbeats 4000000
theorem looks_one (k : Int) : ¬ (100 ∈ looks k ∧ 109 ∈ looks k) := by
  unfold looks
  repeat' split
  all_goals simp
theorem put_len {o p : OpD} (hp : PlainAt o (looks o.k) p) (hf : Fits p) : (putL p).length ≤ 96 := by
  rw [putL_len]
  have h1 := hf.fD
  have h2 := hf.fM
  have h3 := looks_one o.k
  have e1 := hp.eD
  have e2 := hp.eM
  by_cases h : 100 ∈ looks o.k
  · have : ¬ 109 ∈ looks o.k := fun h' => h3 ⟨h, h'⟩
    rw [if_neg this] at e2
    rw [e2]
    simp only [List.length_nil]; omega
  · rw [if_neg h] at e1
    rw [e1]
    simp only [List.length_nil]; omega
theorem pg_page {L : List Int} (h : L.length ≤ 120) : pgR (Page.page 2 L) = (L, 0) := by
  unfold pgR Page.ofR
  rw [Page.getS_page (by omega) (by omega) h]
  simp
theorem num8 {x : Int} (h : 0 ≤ x ∧ x ≤ 18446744073709551615) : num (le x 8) = x := by
  rw [num_le x h.1, Int.emod_eq_of_lt h.1]
  have : (256 : Int) ^ 8 = 18446744073709551616 := by decide
  omega
theorem take_app {α : Type} {A B : List α} {n : Nat} (h : n = A.length) : (A ++ B).take n = A := by subst h; simp
theorem drop_app {α : Type} {A B : List α} {n : Nat} (h : n = A.length) : (A ++ B).drop n = B := by subst h; simp
theorem decR_recL (r : RecD) (hb : r.Bd) (B : List Int) : decR (recL r B) = ⟨r.g, r.l, r.t, dec B nS nS⟩ ∧ (recL r B).drop 24 = B := by
  have e : recL r B = le r.g 8 ++ (le r.l 8 ++ (le r.t 8 ++ B)) := by
    unfold recL; simp only [List.nil_append, List.append_assoc]
  have d8 : (recL r B).drop 8 = le r.l 8 ++ (le r.t 8 ++ B) := by rw [e, drop_app (le_length _ _).symm]
  have d16 : (recL r B).drop 16 = le r.t 8 ++ B := by
    rw [show 16 = 8 + 8 from rfl, ← List.drop_drop, d8, drop_app (le_length _ _).symm]
  have d24 : (recL r B).drop 24 = B := by
    rw [show 24 = 16 + 8 from rfl, ← List.drop_drop, d16, drop_app (le_length _ _).symm]
  refine ⟨?_, d24⟩
  unfold decR
  rw [d8, d16, d24, e, take_app (le_length _ _).symm, take_app (le_length _ _).symm, take_app (le_length _ _).symm, num8 hb.g, num8 hb.l, num8 hb.t]
theorem sector_isB (r : RecD) {B : List Int} (h : IsB B) (hl : B.length ≤ 96) : IsB (Page.page 2 (recL r B)) :=
  Page.page_isB (by omega) (by rw [recL_len]; omega) (recL_isB r h)
/-- A record that may be, as a sector, is read as it looks. -/
theorem rc_back (r : RecD) (hb : r.Bd) {p : OpD} (hk : 1 ≤ r.o.k ∧ r.o.k ≤ 14) (hr : rrightB r.o = true) (hp : PlainAt r.o (looks r.o.k) p) (hf : Fits p) :
    rcode (Page.page 2 (recL r (putL p))) = 0 ∧ sameR (decR (pgR (Page.page 2 (recL r (putL p)))).1) ⟨r.g, r.l, r.t, p⟩ := by
  obtain ⟨c1, c2⟩ := code_put hk hr hp hf
  have hl := put_len hp hf
  have hpg := pg_page (L := recL r (putL p)) (by rw [recL_len]; omega)
  obtain ⟨d1, d2⟩ := decR_recL r hb (putL p)
  unfold rcode
  rw [hpg]
  dsimp only
  rw [if_neg (by simp), if_neg (by rw [recL_len]; omega), d2, d1]
  exact ⟨c1, rfl, rfl, rfl, c2⟩
theorem oc_back (r : RecD) (hb : r.Bd) {p : OpD} (hk : 1 ≤ r.o.k ∧ r.o.k ≤ 14) (hr : rrightB r.o = true) (hp : PlainAt r.o (looks r.o.k) p) (hf : Fits p) (g l : Int) :
    ocode (Page.page 2 (recL r (putL p))) g l = if r.g ≠ g ∨ r.l ≠ l then 23 else 0 := by
  obtain ⟨e1, e2⟩ := rc_back r hb hk hr hp hf
  unfold ocode
  rw [if_neg (by simpa using e1), e2.1, e2.2.1]
def recA : RecD := ⟨1, 2, 0, kindO 14⟩
theorem recA_bd : recA.Bd := ⟨⟨by decide, by decide⟩, ⟨by decide, by decide⟩, ⟨by decide, by decide⟩, ⟨⟨by decide, by decide⟩, ⟨by decide, by decide⟩, ⟨by decide, by decide⟩, ⟨by decide, by decide⟩, ⟨by decide, by decide⟩, ⟨by decide, by decide⟩, IsB.nil⟩⟩
theorem rcalive_any (w : World) : Calls Try.prog 48 [].toArray w fun e w' => e = .returned (.bool true) ∧ Below w.heap.size w w' := by
  obtain ⟨p, hp⟩ := exists_plain recA.o (looks recA.o.k) (Nat.zero_le _) (Nat.zero_le _)
  have hpL : putL p = B14 := put14 p hp
  have hr14 : rrightB recA.o = true := rr_kind (.inl rfl)
  have hf := fits_of (o := recA.o) (by decide) hr14 hp ⟨by decide, by decide⟩
  have hoc := oc_back recA recA_bd ⟨by decide, by decide⟩ hr14 hp hf
  rw [hpL] at hoc
  have h14B : IsB B14 := by
    unfold B14
    repeat (first | exact IsB.nil | refine IsB.cons (by omega) ?_)
  have hsB : IsB (Page.page 2 (recL recA B14)) := sector_isB recA h14B (by decide)
  have o1 : ocode (Page.page 2 (recL recA B14)) 1 3 = 23 := by rw [hoc]; decide
  have o2 : ocode (Page.page 2 (recL recA B14)) 1 2 = 0 := by rw [hoc]; decide
  refine g_enter0 T [] [] [] Try.func48 rfl Try.ntmps48 rfl (Kn.start _) ?_
  (repeat (first | refine g_nil ?_ | refine g_pure true hT rfl rfl rfl sI ?_ | refine g_skip rfl rfl ?_ | refine g_skip0 rfl rfl ?_ | refine gk_region rfl ?_ | refine gk_cond_t rfl rfl ?_ | refine gk_cond_f rfl rfl ?_ | refine g_yd rfl rfl (yd_load_blk hT rfl rfl mE rfl rfl) ?_ | refine g_yd rfl rfl (yd_load_row hT rfl rfl mE rfl rfl) ?_ | refine g_yd rfl rfl (yd_load_row0 hT rfl rfl mE rfl rfl) ?_ | refine g_yd rfl rfl (yd_eql rfl rfl rfl rfl rfl (by kernel_rfl)) ?_ | refine g_yd rfl rfl (yd_neq rfl rfl rfl rfl rfl (by kernel_rfl)) ?_ | refine g_yd rfl rfl (yd_index hT rfl rfl rfl sI rfl) ?_ | refine g_yd rfl rfl (yd_slice_nil hT rfl rfl rfl rfl) ?_ | refine g_yd rfl rfl (yd_build_arr hT rfl rfl rfl rfl rfl rfl) ?_ | (refine g_mv rfl ?_; first | (refine mv_box rfl rfl rfl rfl ?_; intro _) | (refine mv_alloc rfl hT rfl rfl ?_; intro _) | refine mv_store hT rfl rfl rfl rfl rfl rfl sO rfl ?_ | (refine mv_buildSlice rfl hT rfl rfl rfl rfl rfl rfl rfl rfl ?_; intro _)) | refine g_yd rfl rfl (Ys.yd (ys_str_eql hT rfl rfl rfl rfl)) ?_ | refine g_yd rfl rfl (Ys.yd (ys_str_neq hT rfl rfl rfl rfl)) ?_))
  refine g_mv rfl ?_; refine mv_call_rt (fun w hk => rcput_yes recA w ⟨kind_ok 14⟩ ⟨kind_in 14 w⟩ recA_bd (Nat.zero_le _) (Nat.zero_le _) ⟨by decide, by decide, hr14⟩ B14 put14 h14B (by decide)) rfl rfl rfl rfl rfl (by kernel_rfl) (fun _ => rfl) (fun u hu => ?_)
  (repeat (first | refine g_nil ?_ | refine g_pure true hT rfl rfl rfl sI ?_ | refine g_skip rfl rfl ?_ | refine g_skip0 rfl rfl ?_ | refine gk_region rfl ?_ | refine gk_cond_t rfl rfl ?_ | refine gk_cond_f rfl rfl ?_ | refine g_yd rfl rfl (yd_load_blk hT rfl rfl mE rfl rfl) ?_ | refine g_yd rfl rfl (yd_load_row hT rfl rfl mE rfl rfl) ?_ | refine g_yd rfl rfl (yd_load_row0 hT rfl rfl mE rfl rfl) ?_ | refine g_yd rfl rfl (yd_eql rfl rfl rfl rfl rfl (by kernel_rfl)) ?_ | refine g_yd rfl rfl (yd_neq rfl rfl rfl rfl rfl (by kernel_rfl)) ?_ | refine g_yd rfl rfl (yd_index hT rfl rfl rfl sI rfl) ?_ | refine g_yd rfl rfl (yd_slice_nil hT rfl rfl rfl rfl) ?_ | refine g_yd rfl rfl (yd_build_arr hT rfl rfl rfl rfl rfl rfl) ?_ | (refine g_mv rfl ?_; first | (refine mv_box rfl rfl rfl rfl ?_; intro _) | (refine mv_alloc rfl hT rfl rfl ?_; intro _) | refine mv_store hT rfl rfl rfl rfl rfl rfl sO rfl ?_ | (refine mv_buildSlice rfl hT rfl rfl rfl rfl rfl rfl rfl rfl ?_; intro _)) | refine g_yd rfl rfl (Ys.yd (ys_str_eql hT rfl rfl rfl rfl)) ?_ | refine g_yd rfl rfl (Ys.yd (ys_str_neq hT rfl rfl rfl rfl)) ?_))
  refine g_mv rfl ?_; refine mv_call_rt (fun w hk => rcof_any u (Page.page 2 (recL recA B14)) 1 3 w hu (hk.pO (sl u.A 1 (IE .u8) (Page.page 2 (recL recA B14))) mE) hsB) rfl rfl rfl rfl rfl (by kernel_rfl) (fun _ => rfl) (fun s hs => ?_)
  (repeat (first | refine g_nil ?_ | refine g_pure true hT rfl rfl rfl sI ?_ | refine g_skip rfl rfl ?_ | refine g_skip0 rfl rfl ?_ | refine gk_region rfl ?_ | refine gk_cond_t rfl rfl ?_ | refine gk_cond_f rfl rfl ?_ | refine g_yd rfl rfl (yd_load_blk hT rfl rfl mE rfl rfl) ?_ | refine g_yd rfl rfl (yd_load_row hT rfl rfl mE rfl rfl) ?_ | refine g_yd rfl rfl (yd_load_row0 hT rfl rfl mE rfl rfl) ?_ | refine g_yd rfl rfl (yd_eql rfl rfl rfl rfl rfl (by kernel_rfl)) ?_ | refine g_yd rfl rfl (yd_neq rfl rfl rfl rfl rfl (by kernel_rfl)) ?_ | refine g_yd rfl rfl (yd_index hT rfl rfl rfl sI rfl) ?_ | refine g_yd rfl rfl (yd_slice_nil hT rfl rfl rfl rfl) ?_ | refine g_yd rfl rfl (yd_build_arr hT rfl rfl rfl rfl rfl rfl) ?_ | (refine g_mv rfl ?_; first | (refine mv_box rfl rfl rfl rfl ?_; intro _) | (refine mv_alloc rfl hT rfl rfl ?_; intro _) | refine mv_store hT rfl rfl rfl rfl rfl rfl sO rfl ?_ | (refine mv_buildSlice rfl hT rfl rfl rfl rfl rfl rfl rfl rfl ?_; intro _)) | refine g_yd rfl rfl (Ys.yd (ys_str_eql hT rfl rfl rfl rfl)) ?_ | refine g_yd rfl rfl (Ys.yd (ys_str_neq hT rfl rfl rfl rfl)) ?_))
  refine g_mv rfl ?_; refine mv_call_rt (fun w hk => rcof_any u (Page.page 2 (recL recA B14)) 1 2 w hu (hk.pO (sl u.A 1 (IE .u8) (Page.page 2 (recL recA B14))) mE) hsB) rfl rfl rfl rfl rfl (by kernel_rfl) (fun _ => rfl) (fun t ht => ?_)
  have e1 : s.2 = 23 := by rw [hs.code, o1]
  have e2 : t.2 = 0 := by rw [ht.code, o2]
  (repeat' (first | (first | refine g_nil ?_ | refine g_pure true hT rfl rfl rfl sI ?_ | refine g_skip rfl rfl ?_ | refine g_skip0 rfl rfl ?_ | refine gk_region rfl ?_ | refine gk_cond_t rfl rfl ?_ | refine gk_cond_f rfl rfl ?_ | refine g_yd rfl rfl (yd_load_blk hT rfl rfl mE rfl rfl) ?_ | refine g_yd rfl rfl (yd_load_row hT rfl rfl mE rfl rfl) ?_ | refine g_yd rfl rfl (yd_load_row0 hT rfl rfl mE rfl rfl) ?_ | refine g_yd rfl rfl (yd_eql rfl rfl rfl rfl rfl (by kernel_rfl)) ?_ | refine g_yd rfl rfl (yd_neq rfl rfl rfl rfl rfl (by kernel_rfl)) ?_ | refine g_yd rfl rfl (yd_index hT rfl rfl rfl sI rfl) ?_ | refine g_yd rfl rfl (yd_slice_nil hT rfl rfl rfl rfl) ?_ | refine g_yd rfl rfl (yd_build_arr hT rfl rfl rfl rfl rfl rfl) ?_ | (refine g_mv rfl ?_; first | (refine mv_box rfl rfl rfl rfl ?_; intro _) | (refine mv_alloc rfl hT rfl rfl ?_; intro _) | refine mv_store hT rfl rfl rfl rfl rfl rfl sO rfl ?_ | (refine mv_buildSlice rfl hT rfl rfl rfl rfl rfl rfl rfl rfl ?_; intro _)) | refine g_yd rfl rfl (Ys.yd (ys_str_eql hT rfl rfl rfl rfl)) ?_ | refine g_yd rfl rfl (Ys.yd (ys_str_neq hT rfl rfl rfl rfl)) ?_) | ((first | refine g_split rfl rfl tE (fun _ => ?_) (fun _ => ?_) | refine gk_cond rfl rfl tE (fun _ => ?_) (fun _ => ?_)) <;> (try first | (exfalso; omega; done) | (rename_i hx; exact absurd rfl hx) | (rename_i hx; cases hx; done)))))
  all_goals (refine gk_ret hT rfl rfl (.tmp rfl .nil) (fun w' hk => ?_); exact ⟨ret_bool (by simp [tB_eq, e1, e2]), hk.toBelow⟩)
theorem rc_few {s r : RecD} (h : sameR s r) (h1 : r.o.D.length ≤ 100000000) (h2 : r.o.M.length ≤ 100000000) : s.o.D.length ≤ 100000000 ∧ s.o.M.length ≤ 100000000 := by
  obtain ⟨_, _, _, _, _, _, _, _, _, e7, e8⟩ := h
  rw [e7, e8]; exact ⟨h1, h2⟩
theorem recPuts_any (r : RecD) (w : World) (ho : r.Ok) (hi : r.In w) (hb : r.Bd) : Calls Try.prog 12 [r.val].toArray w fun e w' => e = .returned (.bool true) ∧ Below w.heap.size w w' := by
  by_cases hg : 300 < r.o.D.length ∨ 100 < r.o.M.length
  · have g1 := fun w => calls_b (tB_true hg) (great_any r.o w ho.o)
    refine g_enter0 T [] [] [] Try.func12 rfl Try.ntmps12 rfl (Kn.start _) ?_
    (repeat' (first | (first | refine g_nil ?_ | refine g_pure true hT rfl rfl rfl sI ?_ | refine g_skip rfl rfl ?_ | refine g_skip0 rfl rfl ?_ | refine gk_region rfl ?_ | refine gk_cond_t rfl rfl ?_ | refine gk_cond_f rfl rfl ?_ | refine g_yd rfl rfl (yd_load_blk hT rfl rfl mE rfl rfl) ?_ | refine g_yd rfl rfl (yd_load_row hT rfl rfl mE rfl rfl) ?_ | refine g_yd rfl rfl (yd_load_row0 hT rfl rfl mE rfl rfl) ?_ | refine g_yd rfl rfl (yd_eql rfl rfl rfl rfl rfl (by kernel_rfl)) ?_ | refine g_yd rfl rfl (yd_neq rfl rfl rfl rfl rfl (by kernel_rfl)) ?_ | refine g_yd rfl rfl (yd_index hT rfl rfl rfl sI rfl) ?_ | refine g_yd rfl rfl (yd_slice_nil hT rfl rfl rfl rfl) ?_ | refine g_yd rfl rfl (yd_build_arr hT rfl rfl rfl rfl rfl rfl) ?_ | (refine g_mv rfl ?_; first | (refine mv_box rfl rfl rfl rfl ?_; intro _) | (refine mv_alloc rfl hT rfl rfl ?_; intro _) | refine mv_store hT rfl rfl rfl rfl rfl rfl sO rfl ?_ | (refine mv_buildSlice rfl hT rfl rfl rfl rfl rfl rfl rfl rfl ?_; intro _)) | refine g_yd rfl rfl (Ys.yd (ys_str_eql hT rfl rfl rfl rfl)) ?_ | refine g_yd rfl rfl (Ys.yd (ys_str_neq hT rfl rfl rfl rfl)) ?_) | (refine g_mv rfl ?_; first | refine mv_call_bel (fun w hk => g1 w) rfl rfl rfl rfl rfl (by kernel_rfl) ?_) | ((first | refine g_split rfl rfl tE (fun _ => ?_) (fun _ => ?_) | refine gk_cond rfl rfl tE (fun _ => ?_) (fun _ => ?_)) <;> (try first | (exfalso; omega; done) | (rename_i hx; exact absurd rfl hx) | (rename_i hx; cases hx; done)))))
    refine gk_ret hT rfl rfl (.tmp rfl .nil) (fun w' hk => ?_)
    exact ⟨rfl, hk.toBelow⟩
  have g1 := fun w => calls_b (tB_false hg) (great_any r.o w ho.o)
  have hD9 : r.o.D.length ≤ 100000 := by omega
  have hM9 : r.o.M.length ≤ 100000 := by omega
  have hpp := hb.o.bp
  by_cases hy : 1 ≤ r.o.k ∧ r.o.k ≤ 14 ∧ rrightB r.o = true
  · obtain ⟨p, hp⟩ := exists_plain r.o (looks r.o.k) hD9 hM9
    have hf := fits_of hy.2.1 hy.2.2 hp hpp
    have hBL : putL p = putPl r.o (looks r.o.k) := putPl_of hp
    obtain ⟨hc0, hsame⟩ := rc_back r hb ⟨hy.1, hy.2.1⟩ hy.2.2 hp hf
    have hoc := oc_back r hb ⟨hy.1, hy.2.1⟩ hy.2.2 hp hf r.g r.l
    rw [if_neg (by simp)] at hoc
    have hIsB := putPl_isB hp hf hb.o.bD
    have hBlen : (putPl r.o (looks r.o.k)).length ≤ 96 := by rw [← hBL]; exact put_len hp hf
    rw [hBL] at hc0 hsame hoc
    generalize hBe : putPl r.o (looks r.o.k) = B at *
    have hSB : IsB (Page.page 2 (recL r B)) := sector_isB r hIsB hBlen
    generalize hSe : Page.page 2 (recL r B) = S at *
    refine g_enter0 T [] [] [sl r.o.m.A 1 (IE .i64) r.o.M, sl r.o.a.A 1 (IE .u8) r.o.D] Try.func12 rfl Try.ntmps12 rfl (((Kn.start w).argR hi.o.a (by decide) (fun _ h => by cases h)).argR hi.o.m (by decide) (fun _ h => by cases h)) ?_
    (repeat' (first | (first | refine g_nil ?_ | refine g_pure true hT rfl rfl rfl sI ?_ | refine g_skip rfl rfl ?_ | refine g_skip0 rfl rfl ?_ | refine gk_region rfl ?_ | refine gk_cond_t rfl rfl ?_ | refine gk_cond_f rfl rfl ?_ | refine g_yd rfl rfl (yd_load_blk hT rfl rfl mE rfl rfl) ?_ | refine g_yd rfl rfl (yd_load_row hT rfl rfl mE rfl rfl) ?_ | refine g_yd rfl rfl (yd_load_row0 hT rfl rfl mE rfl rfl) ?_ | refine g_yd rfl rfl (yd_eql rfl rfl rfl rfl rfl (by kernel_rfl)) ?_ | refine g_yd rfl rfl (yd_neq rfl rfl rfl rfl rfl (by kernel_rfl)) ?_ | refine g_yd rfl rfl (yd_index hT rfl rfl rfl sI rfl) ?_ | refine g_yd rfl rfl (yd_slice_nil hT rfl rfl rfl rfl) ?_ | refine g_yd rfl rfl (yd_build_arr hT rfl rfl rfl rfl rfl rfl) ?_ | (refine g_mv rfl ?_; first | (refine mv_box rfl rfl rfl rfl ?_; intro _) | (refine mv_alloc rfl hT rfl rfl ?_; intro _) | refine mv_store hT rfl rfl rfl rfl rfl rfl sO rfl ?_ | (refine mv_buildSlice rfl hT rfl rfl rfl rfl rfl rfl rfl rfl ?_; intro _)) | refine g_yd rfl rfl (Ys.yd (ys_str_eql hT rfl rfl rfl rfl)) ?_ | refine g_yd rfl rfl (Ys.yd (ys_str_neq hT rfl rfl rfl rfl)) ?_) | (refine g_mv rfl ?_; first | refine mv_call_bel (fun w hk => g1 w) rfl rfl rfl rfl rfl (by kernel_rfl) ?_) | ((first | refine g_split rfl rfl tE (fun _ => ?_) (fun _ => ?_) | refine gk_cond rfl rfl tE (fun _ => ?_) (fun _ => ?_)) <;> (try first | (exfalso; omega; done) | (rename_i hx; exact absurd rfl hx) | (rename_i hx; cases hx; done)))))
    rename_i g1
    refine g_mv rfl ?_; refine mv_call_rt (fun w hk => hSe ▸ rcput_yes r w ho ⟨hk.pR (sl r.o.a.A 1 (IE .u8) r.o.D) mE, hk.pR (sl r.o.m.A 1 (IE .i64) r.o.M) mE⟩ hb hD9 hM9 hy B (fun p hp => (putPl_of hp).trans hBe) hIsB hBlen) rfl rfl rfl rfl rfl (by kernel_rfl) (fun _ => rfl) (fun u hu => ?_)
    have hy2 := hy.2.1
    (repeat' (first | (first | refine g_nil ?_ | refine g_pure true hT rfl rfl rfl sI ?_ | refine g_skip rfl rfl ?_ | refine g_skip0 rfl rfl ?_ | refine gk_region rfl ?_ | refine gk_cond_t rfl rfl ?_ | refine gk_cond_f rfl rfl ?_ | refine g_yd rfl rfl (yd_load_blk hT rfl rfl mE rfl rfl) ?_ | refine g_yd rfl rfl (yd_load_row hT rfl rfl mE rfl rfl) ?_ | refine g_yd rfl rfl (yd_load_row0 hT rfl rfl mE rfl rfl) ?_ | refine g_yd rfl rfl (yd_eql rfl rfl rfl rfl rfl (by kernel_rfl)) ?_ | refine g_yd rfl rfl (yd_neq rfl rfl rfl rfl rfl (by kernel_rfl)) ?_ | refine g_yd rfl rfl (yd_index hT rfl rfl rfl sI rfl) ?_ | refine g_yd rfl rfl (yd_slice_nil hT rfl rfl rfl rfl) ?_ | refine g_yd rfl rfl (yd_build_arr hT rfl rfl rfl rfl rfl rfl) ?_ | (refine g_mv rfl ?_; first | (refine mv_box rfl rfl rfl rfl ?_; intro _) | (refine mv_alloc rfl hT rfl rfl ?_; intro _) | refine mv_store hT rfl rfl rfl rfl rfl rfl sO rfl ?_ | (refine mv_buildSlice rfl hT rfl rfl rfl rfl rfl rfl rfl rfl ?_; intro _)) | refine g_yd rfl rfl (Ys.yd (ys_str_eql hT rfl rfl rfl rfl)) ?_ | refine g_yd rfl rfl (Ys.yd (ys_str_neq hT rfl rfl rfl rfl)) ?_) | (refine g_mv rfl ?_; first | refine mv_call_bel (fun w hk => calls_b hy.2.2 (rright_any r.o w ho.o ⟨hk.pR (sl r.o.a.A 1 (IE .u8) r.o.D) mE, hk.pR (sl r.o.m.A 1 (IE .i64) r.o.M) mE⟩ (by omega))) rfl rfl rfl rfl rfl (by kernel_rfl) ?_) | ((first | refine g_split rfl rfl tE (fun _ => ?_) (fun _ => ?_) | refine gk_cond rfl rfl tE (fun _ => ?_) (fun _ => ?_)) <;> (try first | (exfalso; omega; done) | (rename_i hx; exact absurd rfl hx) | (rename_i hx; cases hx; done)))))
    refine g_mv rfl ?_; refine mv_call_rt (fun w hk => rcget_any u S w hu (hk.pO (sl u.A 1 (IE .u8) S) mE) hSB) rfl rfl rfl rfl rfl (by kernel_rfl) (fun _ => rfl) (fun s hs => ?_)
    (repeat (first | refine g_nil ?_ | refine g_pure true hT rfl rfl rfl sI ?_ | refine g_skip rfl rfl ?_ | refine g_skip0 rfl rfl ?_ | refine gk_region rfl ?_ | refine gk_cond_t rfl rfl ?_ | refine gk_cond_f rfl rfl ?_ | refine g_yd rfl rfl (yd_load_blk hT rfl rfl mE rfl rfl) ?_ | refine g_yd rfl rfl (yd_load_row hT rfl rfl mE rfl rfl) ?_ | refine g_yd rfl rfl (yd_load_row0 hT rfl rfl mE rfl rfl) ?_ | refine g_yd rfl rfl (yd_eql rfl rfl rfl rfl rfl (by kernel_rfl)) ?_ | refine g_yd rfl rfl (yd_neq rfl rfl rfl rfl rfl (by kernel_rfl)) ?_ | refine g_yd rfl rfl (yd_index hT rfl rfl rfl sI rfl) ?_ | refine g_yd rfl rfl (yd_slice_nil hT rfl rfl rfl rfl) ?_ | refine g_yd rfl rfl (yd_build_arr hT rfl rfl rfl rfl rfl rfl) ?_ | (refine g_mv rfl ?_; first | (refine mv_box rfl rfl rfl rfl ?_; intro _) | (refine mv_alloc rfl hT rfl rfl ?_; intro _) | refine mv_store hT rfl rfl rfl rfl rfl rfl sO rfl ?_ | (refine mv_buildSlice rfl hT rfl rfl rfl rfl rfl rfl rfl rfl ?_; intro _)) | refine g_yd rfl rfl (Ys.yd (ys_str_eql hT rfl rfl rfl rfl)) ?_ | refine g_yd rfl rfl (Ys.yd (ys_str_neq hT rfl rfl rfl rfl)) ?_))
    refine g_mv rfl ?_; refine mv_call_rt (fun w hk => rplain_any r.o w ho.o ⟨hk.pR (sl r.o.a.A 1 (IE .u8) r.o.D) mE, hk.pR (sl r.o.m.A 1 (IE .i64) r.o.M) mE⟩ hD9 hM9) rfl rfl rfl rfl rfl (by kernel_rfl) (fun _ => rfl) (fun q hq => ?_)
    (repeat (first | refine g_nil ?_ | refine g_pure true hT rfl rfl rfl sI ?_ | refine g_skip rfl rfl ?_ | refine g_skip0 rfl rfl ?_ | refine gk_region rfl ?_ | refine gk_cond_t rfl rfl ?_ | refine gk_cond_f rfl rfl ?_ | refine g_yd rfl rfl (yd_load_blk hT rfl rfl mE rfl rfl) ?_ | refine g_yd rfl rfl (yd_load_row hT rfl rfl mE rfl rfl) ?_ | refine g_yd rfl rfl (yd_load_row0 hT rfl rfl mE rfl rfl) ?_ | refine g_yd rfl rfl (yd_eql rfl rfl rfl rfl rfl (by kernel_rfl)) ?_ | refine g_yd rfl rfl (yd_neq rfl rfl rfl rfl rfl (by kernel_rfl)) ?_ | refine g_yd rfl rfl (yd_index hT rfl rfl rfl sI rfl) ?_ | refine g_yd rfl rfl (yd_slice_nil hT rfl rfl rfl rfl) ?_ | refine g_yd rfl rfl (yd_build_arr hT rfl rfl rfl rfl rfl rfl) ?_ | (refine g_mv rfl ?_; first | (refine mv_box rfl rfl rfl rfl ?_; intro _) | (refine mv_alloc rfl hT rfl rfl ?_; intro _) | refine mv_store hT rfl rfl rfl rfl rfl rfl sO rfl ?_ | (refine mv_buildSlice rfl hT rfl rfl rfl rfl rfl rfl rfl rfl ?_; intro _)) | refine g_yd rfl rfl (Ys.yd (ys_str_eql hT rfl rfl rfl rfl)) ?_ | refine g_yd rfl rfl (Ys.yd (ys_str_neq hT rfl rfl rfl rfl)) ?_))
    refine g_mv rfl ?_; refine mv_call_rt (fun w hk => rcof_any u S r.g r.l w hu (hk.pO (sl u.A 1 (IE .u8) S) mE) hSB) rfl rfl rfl rfl rfl (by kernel_rfl) (fun _ => rfl) (fun t ht => ?_)
    have es : s.2 = 0 := by rw [hs.code, hc0]
    have et : t.2 = 0 := by rw [ht.code, hoc]
    have hpq : sameR ⟨r.g, r.l, r.t, p⟩ ⟨r.g, r.l, r.t, q⟩ := ⟨rfl, rfl, rfl, plain_same hp hq⟩
    have hsq := sameR_trans (sameR_trans (hs.yes hc0) hsame) hpq
    have htq := sameR_trans (sameR_trans (ht.yes hoc) hsame) hpq
    have hqf := plain_few hq (by omega) (by omega)
    have hsf := rc_few hsq hqf.1 hqf.2
    have htf := rc_few htq hqf.1 hqf.2
    (repeat' (first | (first | refine g_nil ?_ | refine g_pure true hT rfl rfl rfl sI ?_ | refine g_skip rfl rfl ?_ | refine g_skip0 rfl rfl ?_ | refine gk_region rfl ?_ | refine gk_cond_t rfl rfl ?_ | refine gk_cond_f rfl rfl ?_ | refine g_yd rfl rfl (yd_load_blk hT rfl rfl mE rfl rfl) ?_ | refine g_yd rfl rfl (yd_load_row hT rfl rfl mE rfl rfl) ?_ | refine g_yd rfl rfl (yd_load_row0 hT rfl rfl mE rfl rfl) ?_ | refine g_yd rfl rfl (yd_eql rfl rfl rfl rfl rfl (by kernel_rfl)) ?_ | refine g_yd rfl rfl (yd_neq rfl rfl rfl rfl rfl (by kernel_rfl)) ?_ | refine g_yd rfl rfl (yd_index hT rfl rfl rfl sI rfl) ?_ | refine g_yd rfl rfl (yd_slice_nil hT rfl rfl rfl rfl) ?_ | refine g_yd rfl rfl (yd_build_arr hT rfl rfl rfl rfl rfl rfl) ?_ | (refine g_mv rfl ?_; first | (refine mv_box rfl rfl rfl rfl ?_; intro _) | (refine mv_alloc rfl hT rfl rfl ?_; intro _) | refine mv_store hT rfl rfl rfl rfl rfl rfl sO rfl ?_ | (refine mv_buildSlice rfl hT rfl rfl rfl rfl rfl rfl rfl rfl ?_; intro _)) | refine g_yd rfl rfl (Ys.yd (ys_str_eql hT rfl rfl rfl rfl)) ?_ | refine g_yd rfl rfl (Ys.yd (ys_str_neq hT rfl rfl rfl rfl)) ?_) | ((first | refine g_split rfl rfl tE (fun _ => ?_) (fun _ => ?_) | refine gk_cond rfl rfl tE (fun _ => ?_) (fun _ => ?_)) <;> (try first | (exfalso; omega; done) | (rename_i hx; exact absurd rfl hx) | (rename_i hx; cases hx; done)))))
    refine g_mv rfl ?_; refine mv_call_rt (fun w hk => hSe ▸ rrcput_any r w ho ⟨hk.pR (sl r.o.a.A 1 (IE .u8) r.o.D) mE, hk.pR (sl r.o.m.A 1 (IE .i64) r.o.M) mE⟩ hb hD9 hM9 hy B (fun p hp => (putPl_of hp).trans hBe) hIsB hBlen) rfl rfl rfl rfl rfl (by kernel_rfl) (fun _ => rfl) (fun v hv => ?_)
    (repeat' (first | (first | refine g_nil ?_ | refine g_pure true hT rfl rfl rfl sI ?_ | refine g_skip rfl rfl ?_ | refine g_skip0 rfl rfl ?_ | refine gk_region rfl ?_ | refine gk_cond_t rfl rfl ?_ | refine gk_cond_f rfl rfl ?_ | refine g_yd rfl rfl (yd_load_blk hT rfl rfl mE rfl rfl) ?_ | refine g_yd rfl rfl (yd_load_row hT rfl rfl mE rfl rfl) ?_ | refine g_yd rfl rfl (yd_load_row0 hT rfl rfl mE rfl rfl) ?_ | refine g_yd rfl rfl (yd_eql rfl rfl rfl rfl rfl (by kernel_rfl)) ?_ | refine g_yd rfl rfl (yd_neq rfl rfl rfl rfl rfl (by kernel_rfl)) ?_ | refine g_yd rfl rfl (yd_index hT rfl rfl rfl sI rfl) ?_ | refine g_yd rfl rfl (yd_slice_nil hT rfl rfl rfl rfl) ?_ | refine g_yd rfl rfl (yd_build_arr hT rfl rfl rfl rfl rfl rfl) ?_ | (refine g_mv rfl ?_; first | (refine mv_box rfl rfl rfl rfl ?_; intro _) | (refine mv_alloc rfl hT rfl rfl ?_; intro _) | refine mv_store hT rfl rfl rfl rfl rfl rfl sO rfl ?_ | (refine mv_buildSlice rfl hT rfl rfl rfl rfl rfl rfl rfl rfl ?_; intro _)) | refine g_yd rfl rfl (Ys.yd (ys_str_eql hT rfl rfl rfl rfl)) ?_ | refine g_yd rfl rfl (Ys.yd (ys_str_neq hT rfl rfl rfl rfl)) ?_) | (refine g_mv rfl ?_; first | refine mv_call_bel (fun w hk => calls_b (tB_true rfl) (bequal_any u.A v.A u.n u.c v.n v.c S S w hu.n hv.n (hk.pO (sl u.A 1 (IE .u8) S) mE) (hk.pO (sl v.A 1 (IE .u8) S) mE) hSB hSB)) rfl rfl rfl rfl rfl (by kernel_rfl) ?_ | refine mv_call_bel (fun w hk => calls_b (tB_true hsq) (rrcsame_any s.1 ⟨r.g, r.l, r.t, q⟩ w hs.ok ⟨hk.pO (sl s.1.o.a.A 1 (IE .u8) s.1.o.D) mE, hk.pO (sl s.1.o.m.A 1 (IE .i64) s.1.o.M) mE⟩ ⟨hq.ok⟩ ⟨hk.pO (sl q.a.A 1 (IE .u8) q.D) mE, hk.pO (sl q.m.A 1 (IE .i64) q.M) mE⟩ hsf)) rfl rfl rfl rfl rfl (by kernel_rfl) ?_ | refine mv_call_bel (fun w hk => calls_b (tB_true htq) (rrcsame_any t.1 ⟨r.g, r.l, r.t, q⟩ w ht.ok ⟨hk.pO (sl t.1.o.a.A 1 (IE .u8) t.1.o.D) mE, hk.pO (sl t.1.o.m.A 1 (IE .i64) t.1.o.M) mE⟩ ⟨hq.ok⟩ ⟨hk.pO (sl q.a.A 1 (IE .u8) q.D) mE, hk.pO (sl q.m.A 1 (IE .i64) q.M) mE⟩ htf)) rfl rfl rfl rfl rfl (by kernel_rfl) ?_ | refine mv_call_bel (fun w hk => calls_b (tB_true hsq) (rcsame_any s.1 ⟨r.g, r.l, r.t, q⟩ w hs.ok ⟨hk.pO (sl s.1.o.a.A 1 (IE .u8) s.1.o.D) mE, hk.pO (sl s.1.o.m.A 1 (IE .i64) s.1.o.M) mE⟩ ⟨hq.ok⟩ ⟨hk.pO (sl q.a.A 1 (IE .u8) q.D) mE, hk.pO (sl q.m.A 1 (IE .i64) q.M) mE⟩ hsf)) rfl rfl rfl rfl rfl (by kernel_rfl) ?_ | refine mv_call_bel (fun w hk => rcalive_any w) rfl rfl rfl rfl rfl (by kernel_rfl) ?_) | ((first | refine g_split rfl rfl tE (fun _ => ?_) (fun _ => ?_) | refine gk_cond rfl rfl tE (fun _ => ?_) (fun _ => ?_)) <;> (try first | (exfalso; omega; done) | (rename_i hx; exact absurd rfl hx) | (rename_i hx; cases hx; done)))))
    all_goals (refine gk_ret hT rfl rfl (.tmp rfl .nil) (fun w' hk => ?_); exact ⟨ret_bool (by simp [tB_eq, es, et]), hk.toBelow⟩)
  · refine g_enter0 T [] [] [sl r.o.m.A 1 (IE .i64) r.o.M, sl r.o.a.A 1 (IE .u8) r.o.D] Try.func12 rfl Try.ntmps12 rfl (((Kn.start w).argR hi.o.a (by decide) (fun _ h => by cases h)).argR hi.o.m (by decide) (fun _ h => by cases h)) ?_
    (repeat' (first | (first | refine g_nil ?_ | refine g_pure true hT rfl rfl rfl sI ?_ | refine g_skip rfl rfl ?_ | refine g_skip0 rfl rfl ?_ | refine gk_region rfl ?_ | refine gk_cond_t rfl rfl ?_ | refine gk_cond_f rfl rfl ?_ | refine g_yd rfl rfl (yd_load_blk hT rfl rfl mE rfl rfl) ?_ | refine g_yd rfl rfl (yd_load_row hT rfl rfl mE rfl rfl) ?_ | refine g_yd rfl rfl (yd_load_row0 hT rfl rfl mE rfl rfl) ?_ | refine g_yd rfl rfl (yd_eql rfl rfl rfl rfl rfl (by kernel_rfl)) ?_ | refine g_yd rfl rfl (yd_neq rfl rfl rfl rfl rfl (by kernel_rfl)) ?_ | refine g_yd rfl rfl (yd_index hT rfl rfl rfl sI rfl) ?_ | refine g_yd rfl rfl (yd_slice_nil hT rfl rfl rfl rfl) ?_ | refine g_yd rfl rfl (yd_build_arr hT rfl rfl rfl rfl rfl rfl) ?_ | (refine g_mv rfl ?_; first | (refine mv_box rfl rfl rfl rfl ?_; intro _) | (refine mv_alloc rfl hT rfl rfl ?_; intro _) | refine mv_store hT rfl rfl rfl rfl rfl rfl sO rfl ?_ | (refine mv_buildSlice rfl hT rfl rfl rfl rfl rfl rfl rfl rfl ?_; intro _)) | refine g_yd rfl rfl (Ys.yd (ys_str_eql hT rfl rfl rfl rfl)) ?_ | refine g_yd rfl rfl (Ys.yd (ys_str_neq hT rfl rfl rfl rfl)) ?_) | (refine g_mv rfl ?_; first | refine mv_call_bel (fun w hk => g1 w) rfl rfl rfl rfl rfl (by kernel_rfl) ?_) | ((first | refine g_split rfl rfl tE (fun _ => ?_) (fun _ => ?_) | refine gk_cond rfl rfl tE (fun _ => ?_) (fun _ => ?_)) <;> (try first | (exfalso; omega; done) | (rename_i hx; exact absurd rfl hx) | (rename_i hx; cases hx; done)))))
    refine g_mv rfl ?_; refine mv_call_bel (fun w hk => rcput_no r w ho ⟨hk.pR (sl r.o.a.A 1 (IE .u8) r.o.D) mE, hk.pR (sl r.o.m.A 1 (IE .i64) r.o.M) mE⟩ hM9 hy) rfl rfl rfl rfl rfl (by kernel_rfl) ?_
    by_cases h14 : 14 < r.o.k
    · (repeat' (first | (first | refine g_nil ?_ | refine g_pure true hT rfl rfl rfl sI ?_ | refine g_skip rfl rfl ?_ | refine g_skip0 rfl rfl ?_ | refine gk_region rfl ?_ | refine gk_cond_t rfl rfl ?_ | refine gk_cond_f rfl rfl ?_ | refine g_yd rfl rfl (yd_load_blk hT rfl rfl mE rfl rfl) ?_ | refine g_yd rfl rfl (yd_load_row hT rfl rfl mE rfl rfl) ?_ | refine g_yd rfl rfl (yd_load_row0 hT rfl rfl mE rfl rfl) ?_ | refine g_yd rfl rfl (yd_eql rfl rfl rfl rfl rfl (by kernel_rfl)) ?_ | refine g_yd rfl rfl (yd_neq rfl rfl rfl rfl rfl (by kernel_rfl)) ?_ | refine g_yd rfl rfl (yd_index hT rfl rfl rfl sI rfl) ?_ | refine g_yd rfl rfl (yd_slice_nil hT rfl rfl rfl rfl) ?_ | refine g_yd rfl rfl (yd_build_arr hT rfl rfl rfl rfl rfl rfl) ?_ | (refine g_mv rfl ?_; first | (refine mv_box rfl rfl rfl rfl ?_; intro _) | (refine mv_alloc rfl hT rfl rfl ?_; intro _) | refine mv_store hT rfl rfl rfl rfl rfl rfl sO rfl ?_ | (refine mv_buildSlice rfl hT rfl rfl rfl rfl rfl rfl rfl rfl ?_; intro _)) | refine g_yd rfl rfl (Ys.yd (ys_str_eql hT rfl rfl rfl rfl)) ?_ | refine g_yd rfl rfl (Ys.yd (ys_str_neq hT rfl rfl rfl rfl)) ?_) | (refine g_mv rfl ?_; first | refine mv_call_bel (fun w hk => rcalive_any w) rfl rfl rfl rfl rfl (by kernel_rfl) ?_) | ((first | refine g_split rfl rfl tE (fun _ => ?_) (fun _ => ?_) | refine gk_cond rfl rfl tE (fun _ => ?_) (fun _ => ?_)) <;> (try first | (exfalso; omega; done) | (rename_i hx; exact absurd rfl hx) | (rename_i hx; cases hx; done)))))
      all_goals (refine gk_ret hT rfl rfl (.tmp rfl .nil) (fun w' hk => ?_); exact ⟨rfl, hk.toBelow⟩)
    · have hf : rrightB r.o = false := by
        rw [Bool.eq_false_iff]
        intro h
        refine hy ⟨?_, by omega, h⟩
        unfold rrightB at h
        rw [Bool.and_eq_true] at h
        exact (tB_iff.1 h.1).1
      (repeat' (first | (first | refine g_nil ?_ | refine g_pure true hT rfl rfl rfl sI ?_ | refine g_skip rfl rfl ?_ | refine g_skip0 rfl rfl ?_ | refine gk_region rfl ?_ | refine gk_cond_t rfl rfl ?_ | refine gk_cond_f rfl rfl ?_ | refine g_yd rfl rfl (yd_load_blk hT rfl rfl mE rfl rfl) ?_ | refine g_yd rfl rfl (yd_load_row hT rfl rfl mE rfl rfl) ?_ | refine g_yd rfl rfl (yd_load_row0 hT rfl rfl mE rfl rfl) ?_ | refine g_yd rfl rfl (yd_eql rfl rfl rfl rfl rfl (by kernel_rfl)) ?_ | refine g_yd rfl rfl (yd_neq rfl rfl rfl rfl rfl (by kernel_rfl)) ?_ | refine g_yd rfl rfl (yd_index hT rfl rfl rfl sI rfl) ?_ | refine g_yd rfl rfl (yd_slice_nil hT rfl rfl rfl rfl) ?_ | refine g_yd rfl rfl (yd_build_arr hT rfl rfl rfl rfl rfl rfl) ?_ | (refine g_mv rfl ?_; first | (refine mv_box rfl rfl rfl rfl ?_; intro _) | (refine mv_alloc rfl hT rfl rfl ?_; intro _) | refine mv_store hT rfl rfl rfl rfl rfl rfl sO rfl ?_ | (refine mv_buildSlice rfl hT rfl rfl rfl rfl rfl rfl rfl rfl ?_; intro _)) | refine g_yd rfl rfl (Ys.yd (ys_str_eql hT rfl rfl rfl rfl)) ?_ | refine g_yd rfl rfl (Ys.yd (ys_str_neq hT rfl rfl rfl rfl)) ?_) | (refine g_mv rfl ?_; first | refine mv_call_bel (fun w hk => calls_b hf (rright_any r.o w ho.o ⟨hk.pR (sl r.o.a.A 1 (IE .u8) r.o.D) mE, hk.pR (sl r.o.m.A 1 (IE .i64) r.o.M) mE⟩ (by omega))) rfl rfl rfl rfl rfl (by kernel_rfl) ?_ | refine mv_call_bel (fun w hk => rcalive_any w) rfl rfl rfl rfl rfl (by kernel_rfl) ?_) | ((first | refine g_split rfl rfl tE (fun _ => ?_) (fun _ => ?_) | refine gk_cond rfl rfl tE (fun _ => ?_) (fun _ => ?_)) <;> (try first | (exfalso; omega; done) | (rename_i hx; exact absurd rfl hx) | (rename_i hx; cases hx; done)))))
      all_goals (refine gk_ret hT rfl rfl (.tmp rfl .nil) (fun w' hk => ?_); exact ⟨rfl, hk.toBelow⟩)
end Go.Proofs.Ytkdphoacniigjaa.Rec
