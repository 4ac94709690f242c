/- The reference's Get (under way, not built). -/
import Derived.Test.YtkdphoacniigjaaOpK
import Derived.Test.YtkdphoacniigjaaTab
namespace Go.Proofs.Ytkdphoacniigjaa.OpA
open Go.RowKit Mem Gx Sls Bytes Rd
set_option linter.unusedVariables false
set_option linter.unusedSimpArgs false
set_option maxRecDepth 100000
set_option maxHeartbeats 4000000
theorem rget13_sl (A : Option Addr) (n0 c0 : Nat) (L : List Int) (w : World) (hn0 : n0 = L.length) (hc0 : n0 ≤ c0) (hL : Sl w A 1 (IE .u8) L) (hB : IsB L) (h9 : L.length ≤ 10000) :
    Calls Try.prog 31 [.slice A n0 c0].toArray w (Ret (GetI L) (fun s => .tuple #[s.1.val, .int .i64 s.2]) (fun s => s.1.fs) w) := by
  refine g_enter0 T [] [] [sl A 1 (IE .u8) L] Try.func31 rfl Try.ntmps31 rfl ((Kn.start w).argR hL (by decide) (fun _ h => by cases h)) ?_
  (repeat (first | refine g_nil ?_ | refine g_pure true hT rfl rfl rfl sI ?_ | refine g_skip rfl rfl ?_ | refine g_skip0 rfl rfl ?_ | refine gk_region rfl ?_ | refine gk_cond_t rfl rfl ?_ | refine gk_cond_f rfl rfl ?_ | refine g_yd rfl rfl (yd_load_blk hT rfl rfl mE rfl rfl) ?_ | refine g_yd rfl rfl (yd_load_row hT rfl rfl mE rfl rfl) ?_ | refine g_yd rfl rfl (yd_load_row0 hT rfl rfl mE rfl rfl) ?_ | refine g_yd rfl rfl (yd_eql rfl rfl rfl rfl rfl (by kernel_rfl)) ?_ | refine g_yd rfl rfl (yd_neq rfl rfl rfl rfl rfl (by kernel_rfl)) ?_ | refine g_yd rfl rfl (yd_index hT rfl rfl rfl sI rfl) ?_ | refine g_yd rfl rfl (yd_slice_nil hT rfl rfl rfl rfl) ?_ | refine g_yd rfl rfl (yd_build_arr hT rfl rfl rfl rfl rfl rfl) ?_ | (refine g_mv rfl ?_; first | (refine mv_box rfl rfl rfl rfl ?_; intro _) | (refine mv_alloc rfl hT rfl rfl ?_; intro _) | refine mv_store hT rfl rfl rfl rfl rfl rfl sO rfl ?_ | (refine mv_buildSlice rfl hT rfl rfl rfl rfl rfl rfl rfl rfl ?_; intro _)) | refine g_yd rfl rfl (Ys.yd (ys_str_eql hT rfl rfl rfl rfl)) ?_ | refine g_yd rfl rfl (Ys.yd (ys_str_neq hT rfl rfl rfl rfl)) ?_))
  rename_i g2
  by_cases h17 : L.length < 17
  · have hcode : codeL L = 20 := by unfold codeL; rw [if_pos (.inl h17)]
    (repeat' (first | (first | refine g_nil ?_ | refine g_pure true hT rfl rfl rfl sI ?_ | refine g_skip rfl rfl ?_ | refine g_skip0 rfl rfl ?_ | refine gk_region rfl ?_ | refine gk_cond_t rfl rfl ?_ | refine gk_cond_f rfl rfl ?_ | refine g_yd rfl rfl (yd_load_blk hT rfl rfl mE rfl rfl) ?_ | refine g_yd rfl rfl (yd_load_row hT rfl rfl mE rfl rfl) ?_ | refine g_yd rfl rfl (yd_load_row0 hT rfl rfl mE rfl rfl) ?_ | refine g_yd rfl rfl (yd_eql rfl rfl rfl rfl rfl (by kernel_rfl)) ?_ | refine g_yd rfl rfl (yd_neq rfl rfl rfl rfl rfl (by kernel_rfl)) ?_ | refine g_yd rfl rfl (yd_index hT rfl rfl rfl sI rfl) ?_ | refine g_yd rfl rfl (yd_slice_nil hT rfl rfl rfl rfl) ?_ | refine g_yd rfl rfl (yd_build_arr hT rfl rfl rfl rfl rfl rfl) ?_ | (refine g_mv rfl ?_; first | (refine mv_box rfl rfl rfl rfl ?_; intro _) | (refine mv_alloc rfl hT rfl rfl ?_; intro _) | refine mv_store hT rfl rfl rfl rfl rfl rfl sO rfl ?_ | (refine mv_buildSlice rfl hT rfl rfl rfl rfl rfl rfl rfl rfl ?_; intro _)) | refine g_yd rfl rfl (Ys.yd (ys_str_eql hT rfl rfl rfl rfl)) ?_ | refine g_yd rfl rfl (Ys.yd (ys_str_neq hT rfl rfl rfl rfl)) ?_) | ((first | refine g_split rfl rfl tE (fun _ => ?_) (fun _ => ?_) | refine gk_cond rfl rfl tE (fun _ => ?_) (fun _ => ?_)) <;> (try first | (exfalso; omega; done) | (rename_i hx; exact absurd rfl hx) | (rename_i hx; cases hx; done)))))
    refine gk_nilsl none 1 (IE .u8) ?_
    refine gk_nilsl none 1 (IE .i64) ?_
    refine gk_ret hT rfl rfl (.cell rfl mE rfl rfl (.tmp rfl .nil)) (fun w' hk => ?_)
    exact Ret.mk (kindO 0, 20) ⟨kind_ok 0, hcode.symm, (fun h => by rw [hcode] at h; omega), fun _ => ⟨rfl, rfl, rfl, rfl, rfl, rfl, rfl, rfl⟩⟩ rfl hk sA
  · (repeat' (first | (first | refine g_nil ?_ | refine g_pure true hT rfl rfl rfl sI ?_ | refine g_skip rfl rfl ?_ | refine g_skip0 rfl rfl ?_ | refine gk_region rfl ?_ | refine gk_cond_t rfl rfl ?_ | refine gk_cond_f rfl rfl ?_ | refine g_yd rfl rfl (yd_load_blk hT rfl rfl mE rfl rfl) ?_ | refine g_yd rfl rfl (yd_load_row hT rfl rfl mE rfl rfl) ?_ | refine g_yd rfl rfl (yd_load_row0 hT rfl rfl mE rfl rfl) ?_ | refine g_yd rfl rfl (yd_eql rfl rfl rfl rfl rfl (by kernel_rfl)) ?_ | refine g_yd rfl rfl (yd_neq rfl rfl rfl rfl rfl (by kernel_rfl)) ?_ | refine g_yd rfl rfl (yd_index hT rfl rfl rfl sI rfl) ?_ | refine g_yd rfl rfl (yd_slice_nil hT rfl rfl rfl rfl) ?_ | refine g_yd rfl rfl (yd_build_arr hT rfl rfl rfl rfl rfl rfl) ?_ | (refine g_mv rfl ?_; first | (refine mv_box rfl rfl rfl rfl ?_; intro _) | (refine mv_alloc rfl hT rfl rfl ?_; intro _) | refine mv_store hT rfl rfl rfl rfl rfl rfl sO rfl ?_ | (refine mv_buildSlice rfl hT rfl rfl rfl rfl rfl rfl rfl rfl ?_; intro _)) | refine g_yd rfl rfl (Ys.yd (ys_str_eql hT rfl rfl rfl rfl)) ?_ | refine g_yd rfl rfl (Ys.yd (ys_str_neq hT rfl rfl rfl rfl)) ?_) | ((first | refine g_split rfl rfl tE (fun _ => ?_) (fun _ => ?_) | refine gk_cond rfl rfl tE (fun _ => ?_) (fun _ => ?_)) <;> (try first | (exfalso; omega; done) | (rename_i hx; exact absurd rfl hx) | (rename_i hx; cases hx; done)))))
    refine gk_elem (enc := IE .u8) (L := L) 15 mE (by omega) (by decide) (fun b off y15 eA hy15 => ?_)
    subst eA
    refine gk_elem (enc := IE .u8) (L := L) 16 mE (by omega) (by decide) (fun b' off' y16 eA hy16 => ?_)
    obtain ⟨rfl, rfl⟩ : b = b' ∧ off = off' := by injection eA with e; injection e with e1 e2; exact ⟨e1, e2⟩
    have q15 := at_bd hB 15 1 256 (by decide)
    have q16 := at_bd hB 16 1 256 (by decide)
    rw [at_one hy15] at q15
    rw [at_one hy16] at q16
    obtain ⟨n, hn⟩ := Int.eq_ofNat_of_zero_le q15.1
    obtain ⟨m, hm⟩ := Int.eq_ofNat_of_zero_le q16.1
    have en : n = dn L := by unfold dn; rw [at_one hy15, hn]; rfl
    have em : m = dm L := by unfold dm; rw [at_one hy16, hm]; rfl
    refine gk_drawn_at [1, 2] rfl rfl (by kernel_rfl) ?_
    (repeat (first | refine ga_nil (by decide +kernel) ?_ | refine ga_take (by decide +kernel) rfl rfl (ys_ev (nw := true) hT rfl sI) sF ?_ | refine ga_skip (by decide +kernel) rfl rfl sF ?_ | refine ga_take (by decide +kernel) rfl rfl (ys_blk hT rfl rfl mE rfl rfl) sF ?_ | refine ga_take (by decide +kernel) rfl rfl (ys_row hT rfl rfl mE rfl rfl) sF ?_ | refine ga_take (by decide +kernel) rfl rfl (ys_row0 hT rfl rfl mE rfl rfl) sF ?_ | (refine ga_mv (by decide +kernel) rfl ?_; (first | (refine mv_box rfl rfl rfl rfl ?_; intro _) | (refine mv_alloc rfl hT rfl rfl ?_; intro _) | refine mv_store hT rfl rfl rfl rfl rfl rfl sO rfl ?_ | (refine mv_buildSlice rfl hT rfl rfl rfl rfl rfl rfl rfl rfl ?_; intro _)); refine ⟨sF, ?_⟩) | refine ga_take (by decide +kernel) rfl rfl (ys_eql rfl rfl rfl rfl rfl (by kernel_rfl)) sF ?_ | refine ga_take (by decide +kernel) rfl rfl (ys_neq rfl rfl rfl rfl rfl (by kernel_rfl)) sF ?_))
    (repeat (first | refine g_nil ?_ | refine g_pure true hT rfl rfl rfl sI ?_ | refine g_skip rfl rfl ?_ | refine g_skip0 rfl rfl ?_ | refine gk_region rfl ?_ | refine gk_cond_t rfl rfl ?_ | refine gk_cond_f rfl rfl ?_ | refine g_yd rfl rfl (yd_load_blk hT rfl rfl mE rfl rfl) ?_ | refine g_yd rfl rfl (yd_load_row hT rfl rfl mE rfl rfl) ?_ | refine g_yd rfl rfl (yd_load_row0 hT rfl rfl mE rfl rfl) ?_ | refine g_yd rfl rfl (yd_eql rfl rfl rfl rfl rfl (by kernel_rfl)) ?_ | refine g_yd rfl rfl (yd_neq rfl rfl rfl rfl rfl (by kernel_rfl)) ?_ | refine g_yd rfl rfl (yd_index hT rfl rfl rfl sI rfl) ?_ | refine g_yd rfl rfl (yd_slice_nil hT rfl rfl rfl rfl) ?_ | refine g_yd rfl rfl (yd_build_arr hT rfl rfl rfl rfl rfl rfl) ?_ | (refine g_mv rfl ?_; first | (refine mv_box rfl rfl rfl rfl ?_; intro _) | (refine mv_alloc rfl hT rfl rfl ?_; intro _) | refine mv_store hT rfl rfl rfl rfl rfl rfl sO rfl ?_ | (refine mv_buildSlice rfl hT rfl rfl rfl rfl rfl rfl rfl rfl ?_; intro _)) | refine g_yd rfl rfl (Ys.yd (ys_str_eql hT rfl rfl rfl rfl)) ?_ | refine g_yd rfl rfl (Ys.yd (ys_str_neq hT rfl rfl rfl rfl)) ?_))
    by_cases hA : L.length < 17 + n + 2 * m
    · have hcode : codeL L = 20 := code_short (fun _ _ => ⟨en, em⟩) hA
      (repeat' (first | (first | refine g_nil ?_ | refine g_pure true hT rfl rfl rfl sI ?_ | refine g_skip rfl rfl ?_ | refine g_skip0 rfl rfl ?_ | refine gk_region rfl ?_ | refine gk_cond_t rfl rfl ?_ | refine gk_cond_f rfl rfl ?_ | refine g_yd rfl rfl (yd_load_blk hT rfl rfl mE rfl rfl) ?_ | refine g_yd rfl rfl (yd_load_row hT rfl rfl mE rfl rfl) ?_ | refine g_yd rfl rfl (yd_load_row0 hT rfl rfl mE rfl rfl) ?_ | refine g_yd rfl rfl (yd_eql rfl rfl rfl rfl rfl (by kernel_rfl)) ?_ | refine g_yd rfl rfl (yd_neq rfl rfl rfl rfl rfl (by kernel_rfl)) ?_ | refine g_yd rfl rfl (yd_index hT rfl rfl rfl sI rfl) ?_ | refine g_yd rfl rfl (yd_slice_nil hT rfl rfl rfl rfl) ?_ | refine g_yd rfl rfl (yd_build_arr hT rfl rfl rfl rfl rfl rfl) ?_ | (refine g_mv rfl ?_; first | (refine mv_box rfl rfl rfl rfl ?_; intro _) | (refine mv_alloc rfl hT rfl rfl ?_; intro _) | refine mv_store hT rfl rfl rfl rfl rfl rfl sO rfl ?_ | (refine mv_buildSlice rfl hT rfl rfl rfl rfl rfl rfl rfl rfl ?_; intro _)) | refine g_yd rfl rfl (Ys.yd (ys_str_eql hT rfl rfl rfl rfl)) ?_ | refine g_yd rfl rfl (Ys.yd (ys_str_neq hT rfl rfl rfl rfl)) ?_) | ((first | refine g_split rfl rfl tE (fun _ => ?_) (fun _ => ?_) | refine gk_cond rfl rfl tE (fun _ => ?_) (fun _ => ?_)) <;> (try first | (exfalso; omega; done) | (rename_i hx; exact absurd rfl hx) | (rename_i hx; cases hx; done)))))
      refine gk_nilsl none 1 (IE .u8) ?_
      refine gk_nilsl none 1 (IE .i64) ?_
      refine gk_ret hT rfl rfl (.cell rfl mE rfl rfl (.tmp rfl .nil)) (fun w' hk => ?_)
      exact Ret.mk (kindO 0, 20) ⟨kind_ok 0, hcode.symm, (fun h => by rw [hcode] at h; omega), fun _ => ⟨rfl, rfl, rfl, rfl, rfl, rfl, rfl, rfl⟩⟩ rfl hk sA
    (repeat' (first | (first | refine g_nil ?_ | refine g_pure true hT rfl rfl rfl sI ?_ | refine g_skip rfl rfl ?_ | refine g_skip0 rfl rfl ?_ | refine gk_region rfl ?_ | refine gk_cond_t rfl rfl ?_ | refine gk_cond_f rfl rfl ?_ | refine g_yd rfl rfl (yd_load_blk hT rfl rfl mE rfl rfl) ?_ | refine g_yd rfl rfl (yd_load_row hT rfl rfl mE rfl rfl) ?_ | refine g_yd rfl rfl (yd_load_row0 hT rfl rfl mE rfl rfl) ?_ | refine g_yd rfl rfl (yd_eql rfl rfl rfl rfl rfl (by kernel_rfl)) ?_ | refine g_yd rfl rfl (yd_neq rfl rfl rfl rfl rfl (by kernel_rfl)) ?_ | refine g_yd rfl rfl (yd_index hT rfl rfl rfl sI rfl) ?_ | refine g_yd rfl rfl (yd_slice_nil hT rfl rfl rfl rfl) ?_ | refine g_yd rfl rfl (yd_build_arr hT rfl rfl rfl rfl rfl rfl) ?_ | (refine g_mv rfl ?_; first | (refine mv_box rfl rfl rfl rfl ?_; intro _) | (refine mv_alloc rfl hT rfl rfl ?_; intro _) | refine mv_store hT rfl rfl rfl rfl rfl rfl sO rfl ?_ | (refine mv_buildSlice rfl hT rfl rfl rfl rfl rfl rfl rfl rfl ?_; intro _)) | refine g_yd rfl rfl (Ys.yd (ys_str_eql hT rfl rfl rfl rfl)) ?_ | refine g_yd rfl rfl (Ys.yd (ys_str_neq hT rfl rfl rfl rfl)) ?_) | ((first | refine g_split rfl rfl tE (fun _ => ?_) (fun _ => ?_) | refine gk_cond rfl rfl tE (fun _ => ?_) (fun _ => ?_)) <;> (try first | (exfalso; omega; done) | (rename_i hx; exact absurd rfl hx) | (rename_i hx; cases hx; done)))))
    refine gk_elem (enc := IE .u8) (L := L) 0 mE (by omega) (by decide) (fun b1 o1 y0 eA hy0 => ?_)
    obtain ⟨rfl, rfl⟩ : b = b1 ∧ off = o1 := by injection eA with e; injection e with e1 e2; exact ⟨e1, e2⟩
    clear eA
    refine gk_elem (enc := IE .u8) (L := L) 5 mE (by omega) (by decide) (fun b1 o1 y5 eA hy5 => ?_)
    obtain ⟨rfl, rfl⟩ : b = b1 ∧ off = o1 := by injection eA with e; injection e with e1 e2; exact ⟨e1, e2⟩
    clear eA
    refine gk_elem (enc := IE .u8) (L := L) 6 mE (by omega) (by decide) (fun b1 o1 y6 eA hy6 => ?_)
    obtain ⟨rfl, rfl⟩ : b = b1 ∧ off = o1 := by injection eA with e; injection e with e1 e2; exact ⟨e1, e2⟩
    clear eA
    refine gk_sub (enc := IE .u8) (L := L) 1 c0 2 mE (by omega) ?_
    refine gk_sub (enc := IE .u8) (L := L) 3 c0 2 mE (by omega) ?_
    refine gk_sub (enc := IE .u8) (L := L) 7 c0 8 mE (by omega) ?_
    have q0 := at_bd hB 0 1 256 (by decide)
    rw [at_one hy0] at q0
    have q5 := at_bd hB 5 1 256 (by decide)
    rw [at_one hy5] at q5
    have q6 := at_bd hB 6 1 256 (by decide)
    rw [at_one hy6] at q6
    have q1 : 0 ≤ num ((L.drop 1).take 2) ∧ num ((L.drop 1).take 2) < 65536 := at_bd hB 1 2 65536 (by decide)
    have q3 : 0 ≤ num ((L.drop 3).take 2) ∧ num ((L.drop 3).take 2) < 65536 := at_bd hB 3 2 65536 (by decide)
    have q7 : 0 ≤ num ((L.drop 7).take 8) ∧ num ((L.drop 7).take 8) < 18446744073709551616 := at_bd hB 7 8 _ (by decide)
    refine gk_any [4, 5, 6] (Cut _ (fun g6 : Nat => [(0, (.slice (some ⟨b, off, none⟩) n0 c0)), (2, .pointer (some ⟨g2, 0, none⟩)), (4, .int .i64 y15), (5, .int .i64 y16), (6, .pointer (some ⟨g6, 0, none⟩))])
      (fun g6 => [blk g6 [.int .i64 y0, .int .i64 (num ((L.drop 1).take 2)), .int .i64 (num ((L.drop 3).take 2)), .int .i64 y5, .int .i64 y6, .int .u64 (num ((L.drop 7).take 8)), .slice none 0 0, .slice none 0 0] 39, blk g2 [.int .i64 0, .int .i64 0, .int .i64 0, .int .i64 0, .int .i64 0, .int .u64 0, .slice none 0 0, .slice none 0 0] 39]) (fun _ => [sl (some ⟨b, off, none⟩) 1 (IE .u8) L])) rfl rfl (by kernel_rfl) ?_ (cut_k fun g6 => ?_)
    · skip
      refine gb_take 0 rfl (by decide +kernel) rfl rfl (ys_ev (nw := true) hT rfl sI) sF ?_
      refine gb_take 1 rfl (by decide +kernel) rfl rfl (ys_ev (nw := true) hT rfl sI) sF ?_
      refine gb_take 2 rfl (by decide +kernel) rfl rfl (by first | exact ys_blk hT rfl rfl mE rfl rfl | exact ys_row hT rfl rfl mE rfl rfl | exact ys_row0 hT rfl rfl mE rfl rfl) sF ?_
      refine gb_take 3 rfl (by decide +kernel) rfl rfl (ys_ev (nw := true) hT rfl sI) sF ?_
      refine gb_take 4 rfl (by decide +kernel) rfl rfl (ys_ev (nw := true) hT rfl sI) sF ?_
      refine gb_take 5 rfl (by decide +kernel) rfl rfl (ys_slice_lh hT 1 3 rfl rfl rfl rfl rfl rfl rfl (by omega) (by omega)) sF ?_
      refine gb_take 8 rfl (by decide +kernel) rfl rfl (ys_ev (nw := true) hT rfl sI) sF ?_
      refine gb_take 9 rfl (by decide +kernel) rfl rfl (ys_slice_lh hT 3 5 rfl rfl rfl rfl rfl rfl rfl (by omega) (by omega)) sF ?_
      refine gb_take 12 rfl (by decide +kernel) rfl rfl (ys_ev (nw := true) hT rfl sI) sF ?_
      refine gb_take 13 rfl (by decide +kernel) rfl rfl (ys_ev (nw := true) hT rfl sI) sF ?_
      refine gb_take 14 rfl (by decide +kernel) rfl rfl (by first | exact ys_blk hT rfl rfl mE rfl rfl | exact ys_row hT rfl rfl mE rfl rfl | exact ys_row0 hT rfl rfl mE rfl rfl) sF ?_
      refine gb_take 15 rfl (by decide +kernel) rfl rfl (ys_ev (nw := true) hT rfl sI) sF ?_
      refine gb_take 16 rfl (by decide +kernel) rfl rfl (ys_ev (nw := true) hT rfl sI) sF ?_
      refine gb_take 17 rfl (by decide +kernel) rfl rfl (ys_ev (nw := true) hT rfl sI) sF ?_
      refine gb_take 18 rfl (by decide +kernel) rfl rfl (by first | exact ys_blk hT rfl rfl mE rfl rfl | exact ys_row hT rfl rfl mE rfl rfl | exact ys_row0 hT rfl rfl mE rfl rfl) sF ?_
      refine gb_take 19 rfl (by decide +kernel) rfl rfl (ys_ev (nw := true) hT rfl sI) sF ?_
      refine gb_take 20 rfl (by decide +kernel) rfl rfl (ys_ev (nw := true) hT rfl sI) sF ?_
      refine gb_take 21 rfl (by decide +kernel) rfl rfl (ys_slice_lh hT 7 15 rfl rfl rfl rfl rfl rfl rfl (by omega) (by omega)) sF ?_
      refine gb_all (by decide +kernel) ?_
      refine gball_not (by decide +kernel) ?_
      refine gball_not (by decide +kernel) ?_
      refine gball_not (by decide +kernel) ?_
      refine gball_not (by decide +kernel) ?_
      refine gball_not (by decide +kernel) ?_
      refine gball_not (by decide +kernel) ?_
      refine gball_yes rfl rfl ?_ ?_
      · refine mv_call_bel (fun w hk => Fix.rget_any (shA (some ⟨b, off, none⟩) 1 c0 1) (3 - 1) (c0 - 1) ((L.drop 1).take 2) w (by rw [List.length_take, List.length_drop]; omega) (hk.pR (sl (shA (some ⟨b, off, none⟩) 1 c0 1) 1 (IE .u8) ((L.drop 1).take 2)) mE) ((hB.drop 1).take 2) (by omega)) rfl rfl rfl rfl rfl (by kernel_rfl) ?_
        refine ⟨sF, ?_⟩
        refine gb_take 7 rfl (by decide +kernel) rfl rfl (ys_ev (nw := true) hT rfl sI) sF ?_
        refine gb_all (by decide +kernel) ?_
        refine gball_not (by decide +kernel) ?_
        refine gball_not (by decide +kernel) ?_
        refine gball_not (by decide +kernel) ?_
        refine gball_not (by decide +kernel) ?_
        refine gball_not (by decide +kernel) ?_
        refine gball_not (by decide +kernel) ?_
        refine gball_not (by decide +kernel) ?_
        refine gball_not (by decide +kernel) ?_
        refine gball_not (by decide +kernel) ?_
        refine gball_not (by decide +kernel) ?_
        refine gball_yes rfl rfl ?_ ?_
        · refine mv_call_bel (fun w hk => Fix.rget_any (shA (some ⟨b, off, none⟩) 3 c0 1) (5 - 3) (c0 - 3) ((L.drop 3).take 2) w (by rw [List.length_take, List.length_drop]; omega) (hk.pR (sl (shA (some ⟨b, off, none⟩) 3 c0 1) 1 (IE .u8) ((L.drop 3).take 2)) mE) ((hB.drop 3).take 2) (by omega)) rfl rfl rfl rfl rfl (by kernel_rfl) ?_
          refine ⟨sF, ?_⟩
          refine gb_take 11 rfl (by decide +kernel) rfl rfl (ys_ev (nw := true) hT rfl sI) sF ?_
          refine gb_all (by decide +kernel) ?_
          refine gball_not (by decide +kernel) ?_
          refine gball_not (by decide +kernel) ?_
          refine gball_not (by decide +kernel) ?_
          refine gball_not (by decide +kernel) ?_
          refine gball_not (by decide +kernel) ?_
          refine gball_not (by decide +kernel) ?_
          refine gball_not (by decide +kernel) ?_
          refine gball_not (by decide +kernel) ?_
          refine gball_not (by decide +kernel) ?_
          refine gball_not (by decide +kernel) ?_
          refine gball_not (by decide +kernel) ?_
          refine gball_not (by decide +kernel) ?_
          refine gball_not (by decide +kernel) ?_
          refine gball_not (by decide +kernel) ?_
          refine gball_not (by decide +kernel) ?_
          refine gball_not (by decide +kernel) ?_
          refine gball_not (by decide +kernel) ?_
          refine gball_not (by decide +kernel) ?_
          refine gball_not (by decide +kernel) ?_
          refine gball_not (by decide +kernel) ?_
          refine gball_not (by decide +kernel) ?_
          refine gball_not (by decide +kernel) ?_
          refine gball_yes rfl rfl ?_ ?_
          · refine mv_call_bel (fun w hk => Fix.rget_any (shA (some ⟨b, off, none⟩) 7 c0 1) (15 - 7) (c0 - 7) ((L.drop 7).take 8) w (by rw [List.length_take, List.length_drop]; omega) (hk.pR (sl (shA (some ⟨b, off, none⟩) 7 c0 1) 1 (IE .u8) ((L.drop 7).take 8)) mE) ((hB.drop 7).take 8) (by omega)) rfl rfl rfl rfl rfl (by kernel_rfl) ?_
            refine ⟨sF, ?_⟩
            refine gb_take 23 rfl (by decide +kernel) rfl rfl (ys_ev (nw := true) hT rfl sI) sF ?_
            refine gb_only 24 (by decide +kernel) rfl rfl ?_
            (refine mv_alloc rfl hT rfl rfl ?_; intro g6)
            refine ⟨sF, ?_⟩
            refine gb_only 25 (by decide +kernel) rfl rfl ?_
            first | (refine mv_box rfl rfl rfl rfl ?_; intro _) | (refine mv_alloc rfl hT rfl rfl ?_; intro _) | refine mv_store hT rfl rfl rfl rfl rfl rfl sO rfl ?_ | (refine mv_buildSlice rfl hT rfl rfl rfl rfl rfl rfl rfl rfl ?_; intro _)
            refine ⟨sF, ?_⟩
            refine gb_nil (by decide +kernel) ?_
            exact ⟨g6, (by repeat (first | exact trivial | refine ⟨rfl, ?_⟩)), sA, sS⟩
          refine gball_not (by decide +kernel) ?_
          refine gball_yes rfl rfl ?_ ?_
          · (refine mv_alloc rfl hT rfl rfl ?_; intro g6)
            refine ⟨sF, ?_⟩
            refine gb_only 22 (by decide +kernel) rfl rfl ?_
            refine mv_call_bel (fun w hk => Fix.rget_any (shA (some ⟨b, off, none⟩) 7 c0 1) (15 - 7) (c0 - 7) ((L.drop 7).take 8) w (by rw [List.length_take, List.length_drop]; omega) (hk.pR (sl (shA (some ⟨b, off, none⟩) 7 c0 1) 1 (IE .u8) ((L.drop 7).take 8)) mE) ((hB.drop 7).take 8) (by omega)) rfl rfl rfl rfl rfl (by kernel_rfl) ?_
            refine ⟨sF, ?_⟩
            refine gb_take 23 rfl (by decide +kernel) rfl rfl (ys_ev (nw := true) hT rfl sI) sF ?_
            refine gb_only 25 (by decide +kernel) rfl rfl ?_
            first | (refine mv_box rfl rfl rfl rfl ?_; intro _) | (refine mv_alloc rfl hT rfl rfl ?_; intro _) | refine mv_store hT rfl rfl rfl rfl rfl rfl sO rfl ?_ | (refine mv_buildSlice rfl hT rfl rfl rfl rfl rfl rfl rfl rfl ?_; intro _)
            refine ⟨sF, ?_⟩
            refine gb_nil (by decide +kernel) ?_
            exact ⟨g6, (by repeat (first | exact trivial | refine ⟨rfl, ?_⟩)), sA, sS⟩
          refine gball_not (by decide +kernel) ?_
          exact gball_end (by decide +kernel)
        refine gball_not (by decide +kernel) ?_
        refine gball_not (by decide +kernel) ?_
        refine gball_not (by decide +kernel) ?_
        refine gball_not (by decide +kernel) ?_
        refine gball_not (by decide +kernel) ?_
        refine gball_not (by decide +kernel) ?_
        refine gball_not (by decide +kernel) ?_
        refine gball_not (by decide +kernel) ?_
        refine gball_not (by decide +kernel) ?_
        refine gball_not (by decide +kernel) ?_
        refine gball_not (by decide +kernel) ?_
        refine gball_not (by decide +kernel) ?_
        refine gball_not (by decide +kernel) ?_
        refine gball_yes rfl rfl ?_ ?_
        · (refine mv_alloc rfl hT rfl rfl ?_; intro g6)
          refine ⟨sF, ?_⟩
          refine gb_only 10 (by decide +kernel) rfl rfl ?_
          refine mv_call_bel (fun w hk => Fix.rget_any (shA (some ⟨b, off, none⟩) 3 c0 1) (5 - 3) (c0 - 3) ((L.drop 3).take 2) w (by rw [List.length_take, List.length_drop]; omega) (hk.pR (sl (shA (some ⟨b, off, none⟩) 3 c0 1) 1 (IE .u8) ((L.drop 3).take 2)) mE) ((hB.drop 3).take 2) (by omega)) rfl rfl rfl rfl rfl (by kernel_rfl) ?_
          refine ⟨sF, ?_⟩
          refine gb_take 11 rfl (by decide +kernel) rfl rfl (ys_ev (nw := true) hT rfl sI) sF ?_
          refine gb_only 22 (by decide +kernel) rfl rfl ?_
          refine mv_call_bel (fun w hk => Fix.rget_any (shA (some ⟨b, off, none⟩) 7 c0 1) (15 - 7) (c0 - 7) ((L.drop 7).take 8) w (by rw [List.length_take, List.length_drop]; omega) (hk.pR (sl (shA (some ⟨b, off, none⟩) 7 c0 1) 1 (IE .u8) ((L.drop 7).take 8)) mE) ((hB.drop 7).take 8) (by omega)) rfl rfl rfl rfl rfl (by kernel_rfl) ?_
          refine ⟨sF, ?_⟩
          refine gb_take 23 rfl (by decide +kernel) rfl rfl (ys_ev (nw := true) hT rfl sI) sF ?_
          refine gb_only 25 (by decide +kernel) rfl rfl ?_
          first | (refine mv_box rfl rfl rfl rfl ?_; intro _) | (refine mv_alloc rfl hT rfl rfl ?_; intro _) | refine mv_store hT rfl rfl rfl rfl rfl rfl sO rfl ?_ | (refine mv_buildSlice rfl hT rfl rfl rfl rfl rfl rfl rfl rfl ?_; intro _)
          refine ⟨sF, ?_⟩
          refine gb_nil (by decide +kernel) ?_
          exact ⟨g6, (by repeat (first | exact trivial | refine ⟨rfl, ?_⟩)), sA, sS⟩
        refine gball_not (by decide +kernel) ?_
        exact gball_end (by decide +kernel)
      refine gball_not (by decide +kernel) ?_
      refine gball_not (by decide +kernel) ?_
      refine gball_not (by decide +kernel) ?_
      refine gball_not (by decide +kernel) ?_
      refine gball_not (by decide +kernel) ?_
      refine gball_not (by decide +kernel) ?_
      refine gball_not (by decide +kernel) ?_
      refine gball_not (by decide +kernel) ?_
      refine gball_not (by decide +kernel) ?_
      refine gball_not (by decide +kernel) ?_
      refine gball_not (by decide +kernel) ?_
      refine gball_not (by decide +kernel) ?_
      refine gball_not (by decide +kernel) ?_
      refine gball_not (by decide +kernel) ?_
      refine gball_not (by decide +kernel) ?_
      refine gball_not (by decide +kernel) ?_
      refine gball_not (by decide +kernel) ?_
      refine gball_yes rfl rfl ?_ ?_
      · (refine mv_alloc rfl hT rfl rfl ?_; intro g6)
        refine ⟨sF, ?_⟩
        refine gb_only 6 (by decide +kernel) rfl rfl ?_
        refine mv_call_bel (fun w hk => Fix.rget_any (shA (some ⟨b, off, none⟩) 1 c0 1) (3 - 1) (c0 - 1) ((L.drop 1).take 2) w (by rw [List.length_take, List.length_drop]; omega) (hk.pR (sl (shA (some ⟨b, off, none⟩) 1 c0 1) 1 (IE .u8) ((L.drop 1).take 2)) mE) ((hB.drop 1).take 2) (by omega)) rfl rfl rfl rfl rfl (by kernel_rfl) ?_
        refine ⟨sF, ?_⟩
        refine gb_take 7 rfl (by decide +kernel) rfl rfl (ys_ev (nw := true) hT rfl sI) sF ?_
        refine gb_only 10 (by decide +kernel) rfl rfl ?_
        refine mv_call_bel (fun w hk => Fix.rget_any (shA (some ⟨b, off, none⟩) 3 c0 1) (5 - 3) (c0 - 3) ((L.drop 3).take 2) w (by rw [List.length_take, List.length_drop]; omega) (hk.pR (sl (shA (some ⟨b, off, none⟩) 3 c0 1) 1 (IE .u8) ((L.drop 3).take 2)) mE) ((hB.drop 3).take 2) (by omega)) rfl rfl rfl rfl rfl (by kernel_rfl) ?_
        refine ⟨sF, ?_⟩
        refine gb_take 11 rfl (by decide +kernel) rfl rfl (ys_ev (nw := true) hT rfl sI) sF ?_
        refine gb_only 22 (by decide +kernel) rfl rfl ?_
        refine mv_call_bel (fun w hk => Fix.rget_any (shA (some ⟨b, off, none⟩) 7 c0 1) (15 - 7) (c0 - 7) ((L.drop 7).take 8) w (by rw [List.length_take, List.length_drop]; omega) (hk.pR (sl (shA (some ⟨b, off, none⟩) 7 c0 1) 1 (IE .u8) ((L.drop 7).take 8)) mE) ((hB.drop 7).take 8) (by omega)) rfl rfl rfl rfl rfl (by kernel_rfl) ?_
        refine ⟨sF, ?_⟩
        refine gb_take 23 rfl (by decide +kernel) rfl rfl (ys_ev (nw := true) hT rfl sI) sF ?_
        refine gb_only 25 (by decide +kernel) rfl rfl ?_
        first | (refine mv_box rfl rfl rfl rfl ?_; intro _) | (refine mv_alloc rfl hT rfl rfl ?_; intro _) | refine mv_store hT rfl rfl rfl rfl rfl rfl sO rfl ?_ | (refine mv_buildSlice rfl hT rfl rfl rfl rfl rfl rfl rfl rfl ?_; intro _)
        refine ⟨sF, ?_⟩
        refine gb_nil (by decide +kernel) ?_
        exact ⟨g6, (by repeat (first | exact trivial | refine ⟨rfl, ?_⟩)), sA, sS⟩
      refine gball_not (by decide +kernel) ?_
      exact gball_end (by decide +kernel)
    · refine gk_sub (enc := IE .u8) (L := L) 17 c0 n mE (by omega) ?_
      (repeat (first | refine g_nil ?_ | refine g_pure true hT rfl rfl rfl sI ?_ | refine g_skip rfl rfl ?_ | refine g_skip0 rfl rfl ?_ | refine gk_region rfl ?_ | refine gk_cond_t rfl rfl ?_ | refine gk_cond_f rfl rfl ?_ | refine g_yd rfl rfl (yd_load_blk hT rfl rfl mE rfl rfl) ?_ | refine g_yd rfl rfl (yd_load_row hT rfl rfl mE rfl rfl) ?_ | refine g_yd rfl rfl (yd_load_row0 hT rfl rfl mE rfl rfl) ?_ | refine g_yd rfl rfl (yd_eql rfl rfl rfl rfl rfl (by kernel_rfl)) ?_ | refine g_yd rfl rfl (yd_neq rfl rfl rfl rfl rfl (by kernel_rfl)) ?_ | refine g_yd rfl rfl (yd_index hT rfl rfl rfl sI rfl) ?_ | refine g_yd rfl rfl (yd_slice_nil hT rfl rfl rfl rfl) ?_ | refine g_yd rfl rfl (yd_build_arr hT rfl rfl rfl rfl rfl rfl) ?_ | (refine g_mv rfl ?_; first | (refine mv_box rfl rfl rfl rfl ?_; intro _) | (refine mv_alloc rfl hT rfl rfl ?_; intro _) | refine mv_store hT rfl rfl rfl rfl rfl rfl sO rfl ?_) | refine g_yd rfl rfl (Ys.yd (ys_str_eql hT rfl rfl rfl rfl)) ?_ | refine g_yd rfl rfl (Ys.yd (ys_str_neq hT rfl rfl rfl rfl)) ?_))
      refine g_mv rfl (mv_empty 1 (IE .u8) rfl hT rfl rfl rfl rfl rfl (fun g => ?_))
      (repeat (first | refine g_nil ?_ | refine g_pure true hT rfl rfl rfl sI ?_ | refine g_skip rfl rfl ?_ | refine g_skip0 rfl rfl ?_ | refine gk_region rfl ?_ | refine gk_cond_t rfl rfl ?_ | refine gk_cond_f rfl rfl ?_ | refine g_yd rfl rfl (yd_load_blk hT rfl rfl mE rfl rfl) ?_ | refine g_yd rfl rfl (yd_load_row hT rfl rfl mE rfl rfl) ?_ | refine g_yd rfl rfl (yd_load_row0 hT rfl rfl mE rfl rfl) ?_ | refine g_yd rfl rfl (yd_eql rfl rfl rfl rfl rfl (by kernel_rfl)) ?_ | refine g_yd rfl rfl (yd_neq rfl rfl rfl rfl rfl (by kernel_rfl)) ?_ | refine g_yd rfl rfl (yd_index hT rfl rfl rfl sI rfl) ?_ | refine g_yd rfl rfl (yd_slice_nil hT rfl rfl rfl rfl) ?_ | refine g_yd rfl rfl (yd_build_arr hT rfl rfl rfl rfl rfl rfl) ?_ | (refine g_mv rfl ?_; first | (refine mv_box rfl rfl rfl rfl ?_; intro _) | (refine mv_alloc rfl hT rfl rfl ?_; intro _) | refine mv_store hT rfl rfl rfl rfl rfl rfl sO rfl ?_) | refine g_yd rfl rfl (Ys.yd (ys_str_eql hT rfl rfl rfl rfl)) ?_ | refine g_yd rfl rfl (Ys.yd (ys_str_neq hT rfl rfl rfl rfl)) ?_))
      refine g_yd rfl rfl (Ys.yd (ys_slice_lh hT 17 (17 + n) rfl rfl rfl rfl rfl rfl (by omega) (by omega) (by omega))) ?_
      refine g_mv rfl (mv_append (L := []) rfl ((L.drop 17).take n) rfl rfl rfl rfl elt_B (by intro _; repeat (first | exact Upd.here _ | apply Upd.there)) (src_R mE) (by rw [List.length_take, List.length_drop]; omega) (by intro x j; rfl) (by simp only [maxLen, List.length_nil, List.length_take, List.length_drop]; omega) (by simp only [List.length_nil, List.length_take, List.length_drop]; omega) (Nat.zero_le _) (fun v => ?_))
      refine g_freeze _ (by intro _; repeat (first | exact Upd.here _ | apply Upd.there)) (fun A2 c2 hA2 hA21 hA22 hA23 => ?_); subst hA2
      (repeat (first | refine g_nil ?_ | refine g_pure true hT rfl rfl rfl sI ?_ | refine g_skip rfl rfl ?_ | refine g_skip0 rfl rfl ?_ | refine gk_region rfl ?_ | refine gk_cond_t rfl rfl ?_ | refine gk_cond_f rfl rfl ?_ | refine g_yd rfl rfl (yd_load_blk hT rfl rfl mE rfl rfl) ?_ | refine g_yd rfl rfl (yd_load_row hT rfl rfl mE rfl rfl) ?_ | refine g_yd rfl rfl (yd_load_row0 hT rfl rfl mE rfl rfl) ?_ | refine g_yd rfl rfl (yd_eql rfl rfl rfl rfl rfl (by kernel_rfl)) ?_ | refine g_yd rfl rfl (yd_neq rfl rfl rfl rfl rfl (by kernel_rfl)) ?_ | refine g_yd rfl rfl (yd_index hT rfl rfl rfl sI rfl) ?_ | refine g_yd rfl rfl (yd_slice_nil hT rfl rfl rfl rfl) ?_ | refine g_yd rfl rfl (yd_build_arr hT rfl rfl rfl rfl rfl rfl) ?_ | (refine g_mv rfl ?_; first | (refine mv_box rfl rfl rfl rfl ?_; intro _) | (refine mv_alloc rfl hT rfl rfl ?_; intro _) | refine mv_store hT rfl rfl rfl rfl rfl rfl sO rfl ?_) | refine g_yd rfl rfl (Ys.yd (ys_str_eql hT rfl rfl rfl rfl)) ?_ | refine g_yd rfl rfl (Ys.yd (ys_str_neq hT rfl rfl rfl rfl)) ?_))
      refine gk_own 0 3 1 (IE .i64) ?_
      refine gk_loop_sel (fun (q : Nat × Value × (List Int)) => match q with | (j, V, Ml) => j ≤ m ∧ Ml = decM (L.drop (17 + n)) j) (fun (q : Nat × Value × (List Int)) => match q with | (j, V, Ml) => [(0, (.slice (some ⟨b, off, none⟩) n0 c0)), (2, .pointer (some ⟨g2, 0, none⟩)), (4, .int .i64 y15), (5, .int .i64 y16), (6, .pointer (some ⟨g6, 0, none⟩)), (7, .int .i64 j)]) (fun (q : Nat × Value × (List Int)) => match q with | (j, V, Ml) => [own 0 3 1 V (IE .i64) Ml, blk g6 [.int .i64 y0, .int .i64 (num ((L.drop 1).take 2)), .int .i64 (num ((L.drop 3).take 2)), .int .i64 y5, .int .i64 y6, .int .u64 (num ((L.drop 7).take 8)), .slice A2 ([] ++ (L.drop 17).take n).length c2, V] 39, blk g2 [.int .i64 0, .int .i64 0, .int .i64 0, .int .i64 0, .int .i64 0, .int .u64 0, .slice none 0 0, .slice none 0 0] 39, sl A2 1 (IE .u8) ([] ++ (L.drop 17).take n)]) (fun (q : Nat × Value × (List Int)) => match q with | (j, V, Ml) => [sl (some ⟨b, off, none⟩) 1 (IE .u8) L]) (fun (q : Nat × Value × (List Int)) => match q with | (j, V, Ml) => m - j) (0, .slice none 0 0, []) rfl ⟨Nat.zero_le _, rfl⟩ (by repeat (first | exact trivial | refine ⟨rfl, ?_⟩)) sA sS ?_
      rintro ⟨j, V, Ml⟩ hI
      replace hI : j ≤ m ∧ Ml = decM (L.drop (17 + n)) j := hI
      change GK _ _ [(0, (.slice (some ⟨b, off, none⟩) n0 c0)), (2, .pointer (some ⟨g2, 0, none⟩)), (4, .int .i64 y15), (5, .int .i64 y16), (6, .pointer (some ⟨g6, 0, none⟩)), (7, .int .i64 j)] [own 0 3 1 V (IE .i64) Ml, blk g6 [.int .i64 y0, .int .i64 (num ((L.drop 1).take 2)), .int .i64 (num ((L.drop 3).take 2)), .int .i64 y5, .int .i64 y6, .int .u64 (num ((L.drop 7).take 8)), .slice A2 ([] ++ (L.drop 17).take n).length c2, V] 39, blk g2 [.int .i64 0, .int .i64 0, .int .i64 0, .int .i64 0, .int .i64 0, .int .u64 0, .slice none 0 0, .slice none 0 0] 39, sl A2 1 (IE .u8) ([] ++ (L.drop 17).take n)] [sl (some ⟨b, off, none⟩) 1 (IE .u8) L]
      obtain ⟨hj, hMl⟩ := hI
      have hMlen : Ml.length = j := by rw [hMl, decM_len]
      (repeat (first | refine g_nil ?_ | refine g_pure true hT rfl rfl rfl sI ?_ | refine g_skip rfl rfl ?_ | refine g_skip0 rfl rfl ?_ | refine gk_region rfl ?_ | refine gk_cond_t rfl rfl ?_ | refine gk_cond_f rfl rfl ?_ | refine g_yd rfl rfl (yd_load_blk hT rfl rfl mE rfl rfl) ?_ | refine g_yd rfl rfl (yd_load_row hT rfl rfl mE rfl rfl) ?_ | refine g_yd rfl rfl (yd_load_row0 hT rfl rfl mE rfl rfl) ?_ | refine g_yd rfl rfl (yd_eql rfl rfl rfl rfl rfl (by kernel_rfl)) ?_ | refine g_yd rfl rfl (yd_neq rfl rfl rfl rfl rfl (by kernel_rfl)) ?_ | refine g_yd rfl rfl (yd_index hT rfl rfl rfl sI rfl) ?_ | refine g_yd rfl rfl (yd_slice_nil hT rfl rfl rfl rfl) ?_ | refine g_yd rfl rfl (yd_build_arr hT rfl rfl rfl rfl rfl rfl) ?_ | (refine g_mv rfl ?_; first | (refine mv_box rfl rfl rfl rfl ?_; intro _) | (refine mv_alloc rfl hT rfl rfl ?_; intro _) | refine mv_store hT rfl rfl rfl rfl rfl rfl sO rfl ?_ | (refine mv_buildSlice rfl hT rfl rfl rfl rfl rfl rfl rfl rfl ?_; intro _)) | refine g_yd rfl rfl (Ys.yd (ys_str_eql hT rfl rfl rfl rfl)) ?_ | refine g_yd rfl rfl (Ys.yd (ys_str_neq hT rfl rfl rfl rfl)) ?_))
      refine gk_cond rfl rfl (tells_tB _) (fun hlt => ?_) (fun hlt => ?_)
      · refine gk_sub (enc := IE .u8) (L := L) (17 + n + 2 * j) c0 2 mE (by omega) ?_
        have qj : 0 ≤ (num ((L.drop (17 + n + 2 * j)).take 2)) ∧ (num ((L.drop (17 + n + 2 * j)).take 2)) < 65536 := at_bd hB (17 + n + 2 * j) 2 65536 (by decide)
        (repeat (first | refine g_nil ?_ | refine g_pure true hT rfl rfl rfl sI ?_ | refine g_skip rfl rfl ?_ | refine g_skip0 rfl rfl ?_ | refine gk_region rfl ?_ | refine gk_cond_t rfl rfl ?_ | refine gk_cond_f rfl rfl ?_ | refine g_yd rfl rfl (yd_load_blk hT rfl rfl mE rfl rfl) ?_ | refine g_yd rfl rfl (yd_load_row hT rfl rfl mE rfl rfl) ?_ | refine g_yd rfl rfl (yd_load_row0 hT rfl rfl mE rfl rfl) ?_ | refine g_yd rfl rfl (yd_eql rfl rfl rfl rfl rfl (by kernel_rfl)) ?_ | refine g_yd rfl rfl (yd_neq rfl rfl rfl rfl rfl (by kernel_rfl)) ?_ | refine g_yd rfl rfl (yd_index hT rfl rfl rfl sI rfl) ?_ | refine g_yd rfl rfl (yd_slice_nil hT rfl rfl rfl rfl) ?_ | refine g_yd rfl rfl (yd_build_arr hT rfl rfl rfl rfl rfl rfl) ?_ | (refine g_mv rfl ?_; first | (refine mv_box rfl rfl rfl rfl ?_; intro _) | (refine mv_alloc rfl hT rfl rfl ?_; intro _) | refine mv_store hT rfl rfl rfl rfl rfl rfl sO rfl ?_ | (refine mv_buildSlice rfl hT rfl rfl rfl rfl rfl rfl rfl rfl ?_; intro _)) | refine g_yd rfl rfl (Ys.yd (ys_str_eql hT rfl rfl rfl rfl)) ?_ | refine g_yd rfl rfl (Ys.yd (ys_str_neq hT rfl rfl rfl rfl)) ?_))
        refine gk_any [] (Cut _ (fun v' : Value => [(0, (.slice (some ⟨b, off, none⟩) n0 c0)), (2, .pointer (some ⟨g2, 0, none⟩)), (4, .int .i64 y15), (5, .int .i64 y16), (6, .pointer (some ⟨g6, 0, none⟩)), (7, .int .i64 j)]) (fun v' => [own 0 3 1 v' (IE .i64) (Ml ++ [(num ((L.drop (17 + n + 2 * j)).take 2))]), blk g6 [.int .i64 y0, .int .i64 (num ((L.drop 1).take 2)), .int .i64 (num ((L.drop 3).take 2)), .int .i64 y5, .int .i64 y6, .int .u64 (num ((L.drop 7).take 8)), .slice A2 ([] ++ (L.drop 17).take n).length c2, v'] 39, blk g2 [.int .i64 0, .int .i64 0, .int .i64 0, .int .i64 0, .int .i64 0, .int .u64 0, .slice none 0 0, .slice none 0 0] 39, sl A2 1 (IE .u8) ([] ++ (L.drop 17).take n)]) (fun _ => [sl (some ⟨b, off, none⟩) 1 (IE .u8) L])) rfl rfl (by kernel_rfl) ?_ (cut_k fun v' => ?_)
        · skip
          refine gb_take 0 rfl (by decide +kernel) rfl rfl (ys_ev (nw := true) hT rfl sI) sF ?_
          refine gb_take 2 rfl (by decide +kernel) rfl rfl (ys_ev (nw := true) hT rfl sI) sF ?_
          refine gb_take 3 rfl (by decide +kernel) rfl rfl (ys_ev (nw := true) hT rfl sI) sF ?_
          refine gb_take 4 rfl (by decide +kernel) rfl rfl (ys_ev (nw := true) hT rfl sI) sF ?_
          refine gb_take 5 rfl (by decide +kernel) rfl rfl (ys_ev (nw := true) hT rfl sI) sF ?_
          refine gb_take 6 rfl (by decide +kernel) rfl rfl (ys_slice_lh hT (17 + n + 2 * j) ((17 + n + 2 * j) + 2) rfl rfl rfl rfl rfl (by omega) (by omega) (by omega) (by omega)) sF ?_
          refine gb_all (by decide +kernel) ?_
          refine gball_not (by decide +kernel) ?_
          refine gball_yes rfl rfl ?_ ?_
          · refine mv_yd rfl (yd_load_blk hT rfl rfl mE rfl rfl) ?_
            refine ⟨sF, ?_⟩
            refine gb_only 7 (by decide +kernel) rfl rfl ?_
            refine mv_call_bel (fun w hk => Fix.rget_any (shA (some ⟨b, off, none⟩) (17 + n + 2 * j) c0 1) ((17 + n + 2 * j) + 2 - (17 + n + 2 * j)) (c0 - (17 + n + 2 * j)) ((L.drop (17 + n + 2 * j)).take 2) w (by rw [List.length_take, List.length_drop]; omega) (hk.pR (sl (shA (some ⟨b, off, none⟩) (17 + n + 2 * j) c0 1) 1 (IE .u8) ((L.drop (17 + n + 2 * j)).take 2)) mE) ((hB.drop (17 + n + 2 * j)).take 2) (by omega)) rfl rfl rfl rfl rfl (by kernel_rfl) ?_
            refine ⟨sF, ?_⟩
            refine gb_take 8 rfl (by decide +kernel) rfl rfl (ys_ev (nw := true) hT rfl sI) sF ?_
            refine gb_only 9 (by decide +kernel) rfl rfl ?_
            first | (refine mv_box rfl rfl rfl rfl ?_; intro _) | (refine mv_alloc rfl hT rfl rfl ?_; intro _) | refine mv_store hT rfl rfl rfl rfl rfl rfl sO rfl ?_ | (refine mv_buildSlice rfl hT rfl rfl rfl rfl rfl rfl rfl rfl ?_; intro _)
            refine ⟨sF, ?_⟩
            refine gb_only 10 (by decide +kernel) rfl rfl ?_
            refine mv_append rfl [(num ((L.drop (17 + n + 2 * j)).take 2))] rfl rfl rfl rfl elt_I (by intro _; repeat (first | exact Upd.here _ | apply Upd.there)) (src_blk mE rfl) rfl (by intro x j; rfl) (by simp only [maxLen, List.length_cons, List.length_nil]; omega) (by simp only [List.length_cons, List.length_nil]; omega) (Nat.zero_le _) (fun v' => ?_)
            refine ⟨sF, ?_⟩
            refine gb_ownv v' mE (fun A' c' hv _ _ _ => ?_); subst hv
            refine gb_take 11 rfl (by decide +kernel) rfl rfl (ys_ev (nw := true) hT rfl sI) sF ?_
            refine gb_only 12 (by decide +kernel) rfl rfl ?_
            first | (refine mv_box rfl rfl rfl rfl ?_; intro _) | (refine mv_alloc rfl hT rfl rfl ?_; intro _) | refine mv_store hT rfl rfl rfl rfl rfl rfl sO rfl ?_ | (refine mv_buildSlice rfl hT rfl rfl rfl rfl rfl rfl rfl rfl ?_; intro _)
            refine ⟨sF, ?_⟩
            refine gb_nil (by decide +kernel) ?_
            exact ⟨.slice A' (Ml ++ [(num ((L.drop (17 + n + 2 * j)).take 2))]).length c', (by repeat (first | exact trivial | refine ⟨rfl, ?_⟩)), sA, sS⟩
          refine gball_not (by decide +kernel) ?_
          refine gball_not (by decide +kernel) ?_
          refine gball_not (by decide +kernel) ?_
          refine gball_not (by decide +kernel) ?_
          refine gball_not (by decide +kernel) ?_
          refine gball_yes rfl rfl ?_ ?_
          · refine mv_call_bel (fun w hk => Fix.rget_any (shA (some ⟨b, off, none⟩) (17 + n + 2 * j) c0 1) ((17 + n + 2 * j) + 2 - (17 + n + 2 * j)) (c0 - (17 + n + 2 * j)) ((L.drop (17 + n + 2 * j)).take 2) w (by rw [List.length_take, List.length_drop]; omega) (hk.pR (sl (shA (some ⟨b, off, none⟩) (17 + n + 2 * j) c0 1) 1 (IE .u8) ((L.drop (17 + n + 2 * j)).take 2)) mE) ((hB.drop (17 + n + 2 * j)).take 2) (by omega)) rfl rfl rfl rfl rfl (by kernel_rfl) ?_
            refine ⟨sF, ?_⟩
            refine gb_take 8 rfl (by decide +kernel) rfl rfl (ys_ev (nw := true) hT rfl sI) sF ?_
            refine gb_all (by decide +kernel) ?_
            refine gball_not (by decide +kernel) ?_
            refine gball_yes rfl rfl ?_ ?_
            · refine mv_yd rfl (yd_load_blk hT rfl rfl mE rfl rfl) ?_
              refine ⟨sF, ?_⟩
              refine gb_only 9 (by decide +kernel) rfl rfl ?_
              first | (refine mv_box rfl rfl rfl rfl ?_; intro _) | (refine mv_alloc rfl hT rfl rfl ?_; intro _) | refine mv_store hT rfl rfl rfl rfl rfl rfl sO rfl ?_ | (refine mv_buildSlice rfl hT rfl rfl rfl rfl rfl rfl rfl rfl ?_; intro _)
              refine ⟨sF, ?_⟩
              refine gb_only 10 (by decide +kernel) rfl rfl ?_
              refine mv_append rfl [(num ((L.drop (17 + n + 2 * j)).take 2))] rfl rfl rfl rfl elt_I (by intro _; repeat (first | exact Upd.here _ | apply Upd.there)) (src_blk mE rfl) rfl (by intro x j; rfl) (by simp only [maxLen, List.length_cons, List.length_nil]; omega) (by simp only [List.length_cons, List.length_nil]; omega) (Nat.zero_le _) (fun v' => ?_)
              refine ⟨sF, ?_⟩
              refine gb_ownv v' mE (fun A' c' hv _ _ _ => ?_); subst hv
              refine gb_take 11 rfl (by decide +kernel) rfl rfl (ys_ev (nw := true) hT rfl sI) sF ?_
              refine gb_only 12 (by decide +kernel) rfl rfl ?_
              first | (refine mv_box rfl rfl rfl rfl ?_; intro _) | (refine mv_alloc rfl hT rfl rfl ?_; intro _) | refine mv_store hT rfl rfl rfl rfl rfl rfl sO rfl ?_ | (refine mv_buildSlice rfl hT rfl rfl rfl rfl rfl rfl rfl rfl ?_; intro _)
              refine ⟨sF, ?_⟩
              refine gb_nil (by decide +kernel) ?_
              exact ⟨.slice A' (Ml ++ [(num ((L.drop (17 + n + 2 * j)).take 2))]).length c', (by repeat (first | exact trivial | refine ⟨rfl, ?_⟩)), sA, sS⟩
            refine gball_not (by decide +kernel) ?_
            refine gball_not (by decide +kernel) ?_
            refine gball_not (by decide +kernel) ?_
            refine gball_not (by decide +kernel) ?_
            refine gball_not (by decide +kernel) ?_
            refine gball_not (by decide +kernel) ?_
            refine gball_not (by decide +kernel) ?_
            refine gball_yes rfl rfl ?_ ?_
            · first | (refine mv_box rfl rfl rfl rfl ?_; intro _) | (refine mv_alloc rfl hT rfl rfl ?_; intro _) | refine mv_store hT rfl rfl rfl rfl rfl rfl sO rfl ?_ | (refine mv_buildSlice rfl hT rfl rfl rfl rfl rfl rfl rfl rfl ?_; intro _)
              refine ⟨sF, ?_⟩
              refine gb_only 1 (by decide +kernel) rfl rfl ?_
              refine mv_yd rfl (yd_load_blk hT rfl rfl mE rfl rfl) ?_
              refine ⟨sF, ?_⟩
              refine gb_only 10 (by decide +kernel) rfl rfl ?_
              refine mv_append rfl [(num ((L.drop (17 + n + 2 * j)).take 2))] rfl rfl rfl rfl elt_I (by intro _; repeat (first | exact Upd.here _ | apply Upd.there)) (src_blk mE rfl) rfl (by intro x j; rfl) (by simp only [maxLen, List.length_cons, List.length_nil]; omega) (by simp only [List.length_cons, List.length_nil]; omega) (Nat.zero_le _) (fun v' => ?_)
              refine ⟨sF, ?_⟩
              refine gb_ownv v' mE (fun A' c' hv _ _ _ => ?_); subst hv
              refine gb_take 11 rfl (by decide +kernel) rfl rfl (ys_ev (nw := true) hT rfl sI) sF ?_
              refine gb_only 12 (by decide +kernel) rfl rfl ?_
              first | (refine mv_box rfl rfl rfl rfl ?_; intro _) | (refine mv_alloc rfl hT rfl rfl ?_; intro _) | refine mv_store hT rfl rfl rfl rfl rfl rfl sO rfl ?_ | (refine mv_buildSlice rfl hT rfl rfl rfl rfl rfl rfl rfl rfl ?_; intro _)
              refine ⟨sF, ?_⟩
              refine gb_nil (by decide +kernel) ?_
              exact ⟨.slice A' (Ml ++ [(num ((L.drop (17 + n + 2 * j)).take 2))]).length c', (by repeat (first | exact trivial | refine ⟨rfl, ?_⟩)), sA, sS⟩
            refine gball_not (by decide +kernel) ?_
            refine gball_not (by decide +kernel) ?_
            refine gball_not (by decide +kernel) ?_
            exact gball_end (by decide +kernel)
          refine gball_not (by decide +kernel) ?_
          refine gball_not (by decide +kernel) ?_
          refine gball_not (by decide +kernel) ?_
          refine gball_not (by decide +kernel) ?_
          refine gball_not (by decide +kernel) ?_
          exact gball_end (by decide +kernel)
        · (repeat (first | refine g_nil ?_ | refine g_pure true hT rfl rfl rfl sI ?_ | refine g_skip rfl rfl ?_ | refine g_skip0 rfl rfl ?_ | refine gk_region rfl ?_ | refine gk_cond_t rfl rfl ?_ | refine gk_cond_f rfl rfl ?_ | refine g_yd rfl rfl (yd_load_blk hT rfl rfl mE rfl rfl) ?_ | refine g_yd rfl rfl (yd_load_row hT rfl rfl mE rfl rfl) ?_ | refine g_yd rfl rfl (yd_load_row0 hT rfl rfl mE rfl rfl) ?_ | refine g_yd rfl rfl (yd_eql rfl rfl rfl rfl rfl (by kernel_rfl)) ?_ | refine g_yd rfl rfl (yd_neq rfl rfl rfl rfl rfl (by kernel_rfl)) ?_ | refine g_yd rfl rfl (yd_index hT rfl rfl rfl sI rfl) ?_ | refine g_yd rfl rfl (yd_slice_nil hT rfl rfl rfl rfl) ?_ | refine g_yd rfl rfl (yd_build_arr hT rfl rfl rfl rfl rfl rfl) ?_ | (refine g_mv rfl ?_; first | (refine mv_box rfl rfl rfl rfl ?_; intro _) | (refine mv_alloc rfl hT rfl rfl ?_; intro _) | refine mv_store hT rfl rfl rfl rfl rfl rfl sO rfl ?_ | (refine mv_buildSlice rfl hT rfl rfl rfl rfl rfl rfl rfl rfl ?_; intro _)) | refine g_yd rfl rfl (Ys.yd (ys_str_eql hT rfl rfl rfl rfl)) ?_ | refine g_yd rfl rfl (Ys.yd (ys_str_neq hT rfl rfl rfl rfl)) ?_))
          refine gk_again_sel rfl (j + 1, v', Ml ++ [(num ((L.drop (17 + n + 2 * j)).take 2))]) ⟨by omega, by rw [decM_snoc, hMl, List.drop_drop]⟩ (by dsimp only; omega) (by repeat (first | exact trivial | refine ⟨rfl, ?_⟩)) sA sS
      · have hjm : j = m := by omega
        subst hjm
        refine gk_freeze _ (by intro _; repeat (first | exact Upd.here _ | apply Upd.there)) (fun A3 c3 hA3 hA31 hA32 hA33 => ?_); subst hA3
        have hDl : ([] ++ (L.drop 17).take n).length = n := by rw [List.nil_append, List.length_take, List.length_drop]; omega
        let oD : OpD := ⟨y0, num ((L.drop 1).take 2), num ((L.drop 3).take 2), y5, y6, num ((L.drop 7).take 8), ⟨A2, ([] ++ (L.drop 17).take n).length, c2⟩, [] ++ (L.drop 17).take n, ⟨A3, Ml.length, c3⟩, Ml⟩
        have hok : oD.Ok := ⟨⟨rfl, hA21, hA22, hA23⟩, ⟨rfl, hA31, hA32, hA33⟩⟩
        have hsame : sameP oD (dec L nS nS) := ⟨(at_one hy0).symm, rfl, rfl, (at_one hy5).symm, (at_one hy6).symm, rfl, by show [] ++ (L.drop 17).take n = (L.drop 17).take (dn L); rw [← en]; rfl, by show Ml = decM (L.drop (17 + dn L)) (dm L); rw [← en, ← em]; exact hMl⟩
        have hsk : oD.k = (dec L nS nS).k := hsame.1
        have hD9 : oD.D.length ≤ 100000 := by show ([] ++ (L.drop 17).take n).length ≤ _; omega
        have hM9 : oD.M.length ≤ 100000 := by show Ml.length ≤ _; omega
        have hpp : 0 ≤ oD.p ∧ oD.p ≤ 18446744073709551615 := ⟨q7.1, by have := q7.2; show num ((L.drop 7).take 8) ≤ _; omega⟩
        obtain ⟨p0, hp0⟩ := exists_plain oD (looks oD.k) hD9 hM9
        have key : ∀ b1 b2 b3 b4 b5 bb : Bool, tB (17 + y15 + 2 * y16 < (n0 : Int)) = b1 → tB (y0 < 1) = b2 → tB (14 < y0) = b3 → rrightB oD = b4 → tB (sameP oD p0) = b5 → bb = (b1 || b2 || b3 || !b4 || !b5) → codeL L = (if bb = true then 21 else 0) := by
          intro b1 b2 b3 b4 b5 bb h1 h2 h3 h4 h5 hbb
          by_cases hBig : 17 + n + 2 * j < L.length
          · have : b1 = true := by rw [← h1]; exact tB_true (by omega)
            subst this
            simp only [Bool.true_or] at hbb
            subst hbb
            rw [if_pos rfl]
            exact code_long (by omega) (by rw [← en, ← em]; exact hBig)
          · have hlen : L.length = 17 + dn L + 2 * dm L := by omega
            have hb1 : b1 = false := by rw [← h1]; exact tB_false (by omega)
            subst hb1
            rw [code_full (by omega) hlen]
            have hiff : tB (okP L) = true ↔ bb = false := by
              rw [tB_iff, hbb]
              unfold okP
              rw [← hsk, ← rright_same hsame]
              simp only [Bool.false_or, Bool.or_eq_false_iff, Bool.not_eq_false', ← h2, ← h3, ← h4, ← h5, tB_iff]
              constructor
              · rintro ⟨⟨k1, k2⟩, k3, k4⟩
                have k5 := (ok_same hB hlen hsame hp0 (fits_of (o := oD) k2 k3 hp0 hpp)).1 (by rw [← hsk]; exact k4)
                exact ⟨⟨⟨tB_false (by show ¬ oD.k < 1; omega), tB_false (by show ¬ 14 < oD.k; omega)⟩, k3⟩, k5⟩
              · rintro ⟨⟨⟨k1, k2⟩, k3⟩, k4⟩
                have k1' : ¬ oD.k < 1 := fun h => by rw [tB_true (show y0 < 1 from h)] at k1; cases k1
                have k2' : ¬ 14 < oD.k := fun h => by rw [tB_true (show 14 < y0 from h)] at k2; cases k2
                have k5 := (ok_same hB hlen hsame hp0 (fits_of (o := oD) (by omega) k3 hp0 hpp)).2 k4
                exact ⟨⟨by omega, by omega⟩, k3, by rw [← hsk] at k5; exact k5⟩
            cases bb with
            | true => rw [if_pos (by rw [hiff]; decide), if_pos rfl]
            | false => rw [if_neg (by rw [hiff]; decide), if_neg (by decide)]
        obtain ⟨b1, h1⟩ : ∃ b, tB (17 + y15 + 2 * y16 < (n0 : Int)) = b := ⟨_, rfl⟩
        obtain ⟨b2, h2⟩ : ∃ b, tB (y0 < 1) = b := ⟨_, rfl⟩
        obtain ⟨b3, h3⟩ : ∃ b, tB (14 < y0) = b := ⟨_, rfl⟩
        obtain ⟨b4, h4⟩ : ∃ b, rrightB oD = b := ⟨_, rfl⟩
        obtain ⟨b5, h5⟩ : ∃ b, tB (sameP oD p0) = b := ⟨_, rfl⟩
        obtain ⟨bb, hbb⟩ : ∃ b, b = (b1 || b2 || b3 || !b4 || !b5) := ⟨_, rfl⟩
        have hcode := key b1 b2 b3 b4 b5 bb h1 h2 h3 h4 h5 hbb
        clear key
        (repeat (first | refine g_nil ?_ | refine g_pure true hT rfl rfl rfl sI ?_ | refine g_skip rfl rfl ?_ | refine g_skip0 rfl rfl ?_ | refine gk_region rfl ?_ | refine gk_cond_t rfl rfl ?_ | refine gk_cond_f rfl rfl ?_ | refine g_yd rfl rfl (yd_load_blk hT rfl rfl mE rfl rfl) ?_ | refine g_yd rfl rfl (yd_load_row hT rfl rfl mE rfl rfl) ?_ | refine g_yd rfl rfl (yd_load_row0 hT rfl rfl mE rfl rfl) ?_ | refine g_yd rfl rfl (yd_eql rfl rfl rfl rfl rfl (by kernel_rfl)) ?_ | refine g_yd rfl rfl (yd_neq rfl rfl rfl rfl rfl (by kernel_rfl)) ?_ | refine g_yd rfl rfl (yd_index hT rfl rfl rfl sI rfl) ?_ | refine g_yd rfl rfl (yd_slice_nil hT rfl rfl rfl rfl) ?_ | refine g_yd rfl rfl (yd_build_arr hT rfl rfl rfl rfl rfl rfl) ?_ | (refine g_mv rfl ?_; first | (refine mv_box rfl rfl rfl rfl ?_; intro _) | (refine mv_alloc rfl hT rfl rfl ?_; intro _) | refine mv_store hT rfl rfl rfl rfl rfl rfl sO rfl ?_ | (refine mv_buildSlice rfl hT rfl rfl rfl rfl rfl rfl rfl rfl ?_; intro _)) | refine g_yd rfl rfl (Ys.yd (ys_str_eql hT rfl rfl rfl rfl)) ?_ | refine g_yd rfl rfl (Ys.yd (ys_str_neq hT rfl rfl rfl rfl)) ?_))
        refine gk_any [1] (Cut _ (fun _ : Unit => [(2, .pointer (some ⟨g2, 0, none⟩)), (6, .pointer (some ⟨g6, 0, none⟩)), (112, .bool bb)]) (fun _ => [blk g6 [.int .i64 y0, .int .i64 (num ((L.drop 1).take 2)), .int .i64 (num ((L.drop 3).take 2)), .int .i64 y5, .int .i64 y6, .int .u64 (num ((L.drop 7).take 8)), .slice A2 ([] ++ (L.drop 17).take n).length c2, .slice A3 Ml.length c3] 39, blk g2 [.int .i64 0, .int .i64 0, .int .i64 0, .int .i64 0, .int .i64 0, .int .u64 0, .slice none 0 0, .slice none 0 0] 39, sl A2 1 (IE .u8) ([] ++ (L.drop 17).take n), sl A3 1 (IE .i64) Ml]) (fun _ => [])) rfl rfl (by kernel_rfl) ?_ (cut_k fun _ => ?_)
        · clear hcode
          rcases (show b1 = true ∨ (b1 = false ∧ b2 = true) ∨ (b1 = false ∧ b2 = false ∧ b3 = true) ∨ (b1 = false ∧ b2 = false ∧ b3 = false ∧ b4 = false) ∨ (b1 = false ∧ b2 = false ∧ b3 = false ∧ b4 = true ∧ b5 = false) ∨ (b1 = false ∧ b2 = false ∧ b3 = false ∧ b4 = true ∧ b5 = true) by cases b1 <;> cases b2 <;> cases b3 <;> cases b4 <;> cases b5 <;> simp) with e1 | ⟨e1, e2⟩ | ⟨e1, e2, e3⟩ | ⟨e1, e2, e3, e4⟩ | ⟨e1, e2, e3, e4, e5⟩ | ⟨e1, e2, e3, e4, e5⟩
          all_goals (try rw [e1] at h1 hbb)
          all_goals (try rw [e2] at h2 hbb)
          all_goals (try rw [e3] at h3 hbb)
          all_goals (try rw [e4] at h4 hbb)
          all_goals (try rw [e5] at h5 hbb)
          all_goals (simp only [Bool.true_or, Bool.or_true, Bool.false_or, Bool.or_false, Bool.not_true, Bool.not_false] at hbb)
          all_goals (subst hbb)
          all_goals
            refine gb_take 0 rfl (by decide +kernel) rfl rfl (ys_ev (nw := true) hT rfl sI) sF ?_
            refine gb_take 1 rfl (by decide +kernel) rfl rfl (ys_ev (nw := true) hT rfl sI) sF ?_
            refine gb_take 2 rfl (by decide +kernel) rfl rfl (ys_ev (nw := true) hT rfl sI) sF ?_
            refine gb_take 3 rfl (by decide +kernel) rfl rfl (ys_ev (nw := true) hT rfl sI) sF ?_
            refine gb_take 4 rfl (by decide +kernel) rfl rfl (ys_ev (nw := true) hT rfl sI) sF ?_
            refine gb_take 5 rfl (by decide +kernel) rfl rfl (ys_ev (nw := true) hT rfl sI) sF ?_
            refine gb_take 6 rfl (by decide +kernel) rfl rfl (ys_ev (nw := true) hT rfl sI) sF ?_
            refine gb_take 7 rfl (by decide +kernel) rfl rfl (ys_ev (nw := true) hT rfl sI) sF ?_
            try (refine gb_say 90 _ rfl (congrArg Value.bool h1) ?_)
            refine gb_take 8 rfl (by decide +kernel) rfl rfl (ys_ev (nw := true) hT rfl sI) sF ?_
            first | refine gb_take 9 rfl (by decide +kernel) rfl rfl (ys_ev (nw := true) hT rfl sI) sF ?_ | refine gb_skip 9 rfl (by decide +kernel) rfl rfl sF ?_
            first | refine gb_take 10 rfl (by decide +kernel) rfl rfl (by first | exact ys_blk hT rfl rfl mE rfl rfl | exact ys_row hT rfl rfl mE rfl rfl | exact ys_row0 hT rfl rfl mE rfl rfl) sF ?_ | refine gb_skip 10 rfl (by decide +kernel) rfl rfl sF ?_
            first | refine gb_take 11 rfl (by decide +kernel) rfl rfl (ys_ev (nw := true) hT rfl sI) sF ?_ | refine gb_skip 11 rfl (by decide +kernel) rfl rfl sF ?_
            try (refine gb_say 94 _ rfl (congrArg Value.bool h2) ?_)
            refine gb_take 12 rfl (by decide +kernel) rfl rfl (ys_ev (nw := true) hT rfl sI) sF ?_
            refine gb_take 13 rfl (by decide +kernel) rfl rfl (ys_ev (nw := true) hT rfl sI) sF ?_
            first | refine gb_take 14 rfl (by decide +kernel) rfl rfl (ys_ev (nw := true) hT rfl sI) sF ?_ | refine gb_skip 14 rfl (by decide +kernel) rfl rfl sF ?_
            first | refine gb_take 15 rfl (by decide +kernel) rfl rfl (by first | exact ys_blk hT rfl rfl mE rfl rfl | exact ys_row hT rfl rfl mE rfl rfl | exact ys_row0 hT rfl rfl mE rfl rfl) sF ?_ | refine gb_skip 15 rfl (by decide +kernel) rfl rfl sF ?_
            first | refine gb_take 16 rfl (by decide +kernel) rfl rfl (ys_ev (nw := true) hT rfl sI) sF ?_ | refine gb_skip 16 rfl (by decide +kernel) rfl rfl sF ?_
            try (refine gb_say 99 _ rfl (congrArg Value.bool h3) ?_)
            refine gb_take 17 rfl (by decide +kernel) rfl rfl (ys_ev (nw := true) hT rfl sI) sF ?_
            refine gb_take 18 rfl (by decide +kernel) rfl rfl (ys_ev (nw := true) hT rfl sI) sF ?_
            first | refine gb_take 19 rfl (by decide +kernel) rfl rfl (by first | exact ys_blk hT rfl rfl mE rfl rfl | exact ys_row hT rfl rfl mE rfl rfl | exact ys_row0 hT rfl rfl mE rfl rfl) sF ?_ | refine gb_skip 19 rfl (by decide +kernel) rfl rfl sF ?_
            first | refine gb_skip 20 rfl (by decide +kernel) rfl rfl sF ?_ | (refine gb_only 20 (by decide +kernel) rfl rfl ?_; (refine mv_call_bel (fun w hk => calls_b h4 (rright_any oD w hok ⟨hk.pO (sl A2 1 (IE .u8) ([] ++ (L.drop 17).take n)) mE, hk.pO (sl A3 1 (IE .i64) Ml) mE⟩ (by omega))) rfl rfl rfl rfl rfl (by kernel_rfl) ?_); refine ⟨sF, ?_⟩)
            first | refine gb_take 21 rfl (by decide +kernel) rfl rfl (ys_ev (nw := true) hT rfl sI) sF ?_ | refine gb_skip 21 rfl (by decide +kernel) rfl rfl sF ?_
            refine gb_take 22 rfl (by decide +kernel) rfl rfl (ys_ev (nw := true) hT rfl sI) sF ?_
            refine gb_take 23 rfl (by decide +kernel) rfl rfl (ys_ev (nw := true) hT rfl sI) sF ?_
            first | refine gb_take 24 rfl (by decide +kernel) rfl rfl (by first | exact ys_blk hT rfl rfl mE rfl rfl | exact ys_row hT rfl rfl mE rfl rfl | exact ys_row0 hT rfl rfl mE rfl rfl) sF ?_ | refine gb_skip 24 rfl (by decide +kernel) rfl rfl sF ?_
            first | refine gb_take 25 rfl (by decide +kernel) rfl rfl (by first | exact ys_blk hT rfl rfl mE rfl rfl | exact ys_row hT rfl rfl mE rfl rfl | exact ys_row0 hT rfl rfl mE rfl rfl) sF ?_ | refine gb_skip 25 rfl (by decide +kernel) rfl rfl sF ?_
            first | refine gb_skip 26 rfl (by decide +kernel) rfl rfl sF ?_ | (refine gb_only 26 (by decide +kernel) rfl rfl ?_; (refine mv_call_rt (fun w hk => rplain_any oD w hok ⟨hk.pO (sl A2 1 (IE .u8) ([] ++ (L.drop 17).take n)) mE, hk.pO (sl A3 1 (IE .i64) Ml) mE⟩ (by omega) (by omega)) rfl rfl rfl rfl rfl (by kernel_rfl) (fun _ => rfl) (fun p hp => ?_)); refine ⟨sF, ?_⟩)
            first | refine gb_skip 27 rfl (by decide +kernel) rfl rfl sF ?_ | (refine gb_only 27 (by decide +kernel) rfl rfl ?_; (refine mv_call_bel (fun w hk => calls_b ((tB_congr (same_iff hp hp0)).trans h5) (rsame_any oD p w hok ⟨hk.pO (sl A2 1 (IE .u8) ([] ++ (L.drop 17).take n)) mE, hk.pO (sl A3 1 (IE .i64) Ml) mE⟩ hp.ok ⟨hk.pO (sl p.a.A 1 (IE .u8) p.D) mE, hk.pO (sl p.m.A 1 (IE .i64) p.M) mE⟩ ⟨by omega, by omega⟩)) rfl rfl rfl rfl rfl (by kernel_rfl) ?_); refine ⟨sF, ?_⟩)
            first | refine gb_take 28 rfl (by decide +kernel) rfl rfl (ys_ev (nw := true) hT rfl sI) sF ?_ | refine gb_skip 28 rfl (by decide +kernel) rfl rfl sF ?_
            refine gb_take 29 rfl (by decide +kernel) rfl rfl (ys_ev (nw := true) hT rfl sI) sF ?_
            refine gb_nil (by decide +kernel) ?_
            exact ⟨(), (by repeat (first | exact trivial | refine ⟨rfl, ?_⟩)), sA, List.nil_subset _⟩
        · cases bb with
          | true =>
            (repeat (first | refine g_nil ?_ | refine g_pure true hT rfl rfl rfl sI ?_ | refine g_skip rfl rfl ?_ | refine g_skip0 rfl rfl ?_ | refine gk_region rfl ?_ | refine gk_cond_t rfl rfl ?_ | refine gk_cond_f rfl rfl ?_ | refine g_yd rfl rfl (yd_load_blk hT rfl rfl mE rfl rfl) ?_ | refine g_yd rfl rfl (yd_load_row hT rfl rfl mE rfl rfl) ?_ | refine g_yd rfl rfl (yd_load_row0 hT rfl rfl mE rfl rfl) ?_ | refine g_yd rfl rfl (yd_eql rfl rfl rfl rfl rfl (by kernel_rfl)) ?_ | refine g_yd rfl rfl (yd_neq rfl rfl rfl rfl rfl (by kernel_rfl)) ?_ | refine g_yd rfl rfl (yd_index hT rfl rfl rfl sI rfl) ?_ | refine g_yd rfl rfl (yd_slice_nil hT rfl rfl rfl rfl) ?_ | refine g_yd rfl rfl (yd_build_arr hT rfl rfl rfl rfl rfl rfl) ?_ | (refine g_mv rfl ?_; first | (refine mv_box rfl rfl rfl rfl ?_; intro _) | (refine mv_alloc rfl hT rfl rfl ?_; intro _) | refine mv_store hT rfl rfl rfl rfl rfl rfl sO rfl ?_ | (refine mv_buildSlice rfl hT rfl rfl rfl rfl rfl rfl rfl rfl ?_; intro _)) | refine g_yd rfl rfl (Ys.yd (ys_str_eql hT rfl rfl rfl rfl)) ?_ | refine g_yd rfl rfl (Ys.yd (ys_str_neq hT rfl rfl rfl rfl)) ?_))
            refine gk_nilsl none 1 (IE .u8) ?_
            refine gk_nilsl none 1 (IE .i64) ?_
            refine gk_ret hT rfl rfl (.cell rfl mE rfl rfl (.tmp rfl .nil)) (fun w' hk => ?_)
            exact Ret.mk (kindO 0, 21) ⟨kind_ok 0, hcode.symm, (fun h => by rw [hcode] at h; simp at h), fun _ => ⟨rfl, rfl, rfl, rfl, rfl, rfl, rfl, rfl⟩⟩ rfl hk sA
          | false =>
            have hcode0 : codeL L = 0 := hcode
            (repeat (first | refine g_nil ?_ | refine g_pure true hT rfl rfl rfl sI ?_ | refine g_skip rfl rfl ?_ | refine g_skip0 rfl rfl ?_ | refine gk_region rfl ?_ | refine gk_cond_t rfl rfl ?_ | refine gk_cond_f rfl rfl ?_ | refine g_yd rfl rfl (yd_load_blk hT rfl rfl mE rfl rfl) ?_ | refine g_yd rfl rfl (yd_load_row hT rfl rfl mE rfl rfl) ?_ | refine g_yd rfl rfl (yd_load_row0 hT rfl rfl mE rfl rfl) ?_ | refine g_yd rfl rfl (yd_eql rfl rfl rfl rfl rfl (by kernel_rfl)) ?_ | refine g_yd rfl rfl (yd_neq rfl rfl rfl rfl rfl (by kernel_rfl)) ?_ | refine g_yd rfl rfl (yd_index hT rfl rfl rfl sI rfl) ?_ | refine g_yd rfl rfl (yd_slice_nil hT rfl rfl rfl rfl) ?_ | refine g_yd rfl rfl (yd_build_arr hT rfl rfl rfl rfl rfl rfl) ?_ | (refine g_mv rfl ?_; first | (refine mv_box rfl rfl rfl rfl ?_; intro _) | (refine mv_alloc rfl hT rfl rfl ?_; intro _) | refine mv_store hT rfl rfl rfl rfl rfl rfl sO rfl ?_ | (refine mv_buildSlice rfl hT rfl rfl rfl rfl rfl rfl rfl rfl ?_; intro _)) | refine g_yd rfl rfl (Ys.yd (ys_str_eql hT rfl rfl rfl rfl)) ?_ | refine g_yd rfl rfl (Ys.yd (ys_str_neq hT rfl rfl rfl rfl)) ?_))
            refine gk_ret hT rfl rfl (.cell rfl mE rfl rfl (.tmp rfl .nil)) (fun w' hk => ?_)
            exact Ret.mk (oD, 0) ⟨hok, hcode0.symm, fun _ => hsame, fun h => absurd hcode0 h⟩ rfl hk sA
theorem rget13_any (s0 : SlV) (L : List Int) (w : World) (hs0 : s0.Ok L.length) (hL : Sl w s0.A 1 (IE .u8) L) (hB : IsB L) (h9 : L.length ≤ 10000) :
    Calls Try.prog 31 [s0.v].toArray w (Ret (GetI L) (fun s => .tuple #[s.1.val, .int .i64 s.2]) (fun s => s.1.fs) w) := rget13_sl s0.A s0.n s0.c L w hs0.n hs0.c hL hB h9
end Go.Proofs.Ytkdphoacniigjaa.OpA
