/- slices.Delete at volumes, groups, books. -/
import Derived.Test.YtbcdcjiibalnnaaCtB
namespace Go.Proofs.Ytbcdcjiibalnnaa.Ct
open Go.RowKit Mem Gx
set_option linter.unusedVariables false
set_option linter.unusedSimpArgs false
set_option maxRecDepth 100000
set_option maxHeartbeats 2000000
theorem oneV : ∀ (x : VolD) (j : Nat), (VE x j).oneCell' = true := by intro x j; rcases j with _ | _ | j <;> rfl
theorem zero_V : ∃ u, (∀ w, (zeroValue 60).run Try.prog w = .ok u w) ∧ u.cells.size = 3 ∧ ∀ v ∈ u.cells, v.oneCell' = true := by
  have h : (Try.prog.info? 60).map (fun i => i.zero) = some (some (.agg #[.int .i64 0, .int .u64 0, .slice none 0 0])) := by kernel_rfl
  refine ⟨.agg #[.int .i64 0, .int .u64 0, .slice none 0 0], fun w => ?_, rfl, ?_⟩
  · cases hi : Try.prog.info? 60 with
    | none => rw [hi] at h; cases h
    | some i =>
      rw [hi] at h
      have hz : i.zero = some (.agg #[.int .i64 0, .int .u64 0, .slice none 0 0]) := by simpa using h
      simp [zeroValue, typeInfo, hi, hz]
  · intro v hv
    simp [Value.cells] at hv
    rcases hv with h | h | h <;> (subst h; rfl)
theorem deleteV_any (base g n c : Nat) (L : List VolD) (i : Nat) (w : World) (h : OwnL w base 60 3 (.slice (some ⟨g, 0, none⟩) n c) VE L) (h9 : L.length ≤ 100000) (hi : i < L.length) :
    Calls Try.prog 37 [.slice (some ⟨g, 0, none⟩) n c, .int .i64 i, .int .i64 ((i : Int) + 1)].toArray w fun e w' => ∃ v', e = .returned v' ∧ OwnL w' base 60 3 v' VE (L.take i ++ L.drop (i + 1)) ∧ Grew w w' (.slice (some ⟨g, 0, none⟩) n c) v' := by
  have hnl : n = L.length ∧ n ≤ c := by
    obtain ⟨A', c', hv, _, h1, _⟩ := OwnL.sl h
    injection hv with e1 e2 e3
    exact ⟨e2, by omega⟩
  obtain ⟨hn, hnc⟩ := hnl
  refine g_enter0 T (ownE (.slice (some ⟨g, 0, none⟩) n c)) [own base 60 3 (.slice (some ⟨g, 0, none⟩) n c) VE L] [] Try.func37 rfl Try.ntmps37 rfl (Kn.startG h) ?_
  have e4 : flatF 3 VE L = flatF 3 VE (L.take i) ++ flatF 3 VE (L.drop i) := by rw [← flatF_append, List.take_append_drop]
  have lT : (flatF 3 VE (L.take i)).length = i * 3 := by rw [flatF_length, List.length_take, Nat.min_eq_left (by omega)]
  have lD : (flatF 3 VE (L.drop (i + 1))).length = (n - (i + 1)) * 3 := by rw [flatF_length, List.length_drop, hn]
  have eN : i + (n - (i + 1)) = n - 1 := by omega
  (repeat (first | refine g_nil ?_ | refine g_pure true hT rfl rfl rfl sI ?_ | refine g_skip rfl rfl ?_ | refine g_skip0 rfl rfl ?_ | refine gk_region rfl ?_ | refine gk_cond_t rfl rfl ?_ | refine gk_cond_f rfl rfl ?_ | refine g_yd rfl rfl (yd_load_blk hT rfl rfl mE rfl rfl) ?_ | refine g_yd rfl rfl (yd_load_row hT rfl rfl mE rfl rfl) ?_ | refine g_yd rfl rfl (yd_load_row0 hT rfl rfl mE rfl rfl) ?_ | refine g_yd rfl rfl (yd_eql rfl rfl rfl rfl rfl (by kernel_rfl)) ?_ | refine g_yd rfl rfl (yd_neq rfl rfl rfl rfl rfl (by kernel_rfl)) ?_ | refine g_yd rfl rfl (yd_index hT rfl rfl rfl sI rfl) ?_ | refine g_yd rfl rfl (yd_slice_nil hT rfl rfl rfl rfl) ?_ | refine g_yd rfl rfl (yd_build_arr hT rfl rfl rfl rfl rfl rfl) ?_ | (refine g_mv rfl ?_; first | (refine mv_box rfl rfl rfl rfl ?_; intro _) | (refine mv_alloc rfl hT rfl rfl ?_; intro _) | refine mv_store hT rfl rfl rfl rfl rfl rfl sO rfl ?_ | (refine mv_buildSlice rfl hT rfl rfl rfl rfl rfl rfl rfl rfl ?_; intro _)) | refine g_yd rfl rfl (Ys.yd (ys_str_eql hT rfl rfl rfl rfl)) ?_ | refine g_yd rfl rfl (Ys.yd (ys_str_neq hT rfl rfl rfl rfl)) ?_))
  refine g_yd rfl rfl (Ys.yd (ys_slice_lhm hT i (i + 1) n rfl rfl rfl rfl rfl rfl rfl (by push_cast; rfl) rfl (by omega) (by omega) hnc)) ?_
  (repeat' (first | (first | refine g_nil ?_ | refine g_pure true hT rfl rfl rfl sI ?_ | refine g_skip rfl rfl ?_ | refine g_skip0 rfl rfl ?_ | refine gk_region rfl ?_ | refine gk_cond_t rfl rfl ?_ | refine gk_cond_f rfl rfl ?_ | refine g_yd rfl rfl (yd_load_blk hT rfl rfl mE rfl rfl) ?_ | refine g_yd rfl rfl (yd_load_row hT rfl rfl mE rfl rfl) ?_ | refine g_yd rfl rfl (yd_load_row0 hT rfl rfl mE rfl rfl) ?_ | refine g_yd rfl rfl (yd_eql rfl rfl rfl rfl rfl (by kernel_rfl)) ?_ | refine g_yd rfl rfl (yd_neq rfl rfl rfl rfl rfl (by kernel_rfl)) ?_ | refine g_yd rfl rfl (yd_index hT rfl rfl rfl sI rfl) ?_ | refine g_yd rfl rfl (yd_slice_nil hT rfl rfl rfl rfl) ?_ | refine g_yd rfl rfl (yd_build_arr hT rfl rfl rfl rfl rfl rfl) ?_ | (refine g_mv rfl ?_; first | (refine mv_box rfl rfl rfl rfl ?_; intro _) | (refine mv_alloc rfl hT rfl rfl ?_; intro _) | refine mv_store hT rfl rfl rfl rfl rfl rfl sO rfl ?_ | (refine mv_buildSlice rfl hT rfl rfl rfl rfl rfl rfl rfl rfl ?_; intro _)) | refine g_yd rfl rfl (Ys.yd (ys_str_eql hT rfl rfl rfl rfl)) ?_ | refine g_yd rfl rfl (Ys.yd (ys_str_neq hT rfl rfl rfl rfl)) ?_) | ((first | refine g_split rfl rfl tE (fun _ => ?_) (fun _ => ?_) | refine gk_cond rfl rfl tE (fun _ => ?_) (fun _ => ?_)) <;> (try first | (exfalso; omega; done) | (rename_i hx; exact absurd rfl hx) | (rename_i hx; cases hx; done)))))
  refine gk_own_blk (α := VolD) (sz := 3) (enc := VE) (L := L) (by decide) (by intro _; repeat (first | exact Upd.here _ | apply Upd.there)) (fun rest hl0 _ _ hcm hbg => ?_)
  obtain ⟨o', ho', ho2⟩ := shA_any (g := g) (l := i + 1) (m := c) (s := 3)
  have hsrc : flatF 3 VE (L.drop (i + 1)) = ((flatF 3 VE L ++ rest).drop ((i + 1) * 3)).take ((n - (i + 1)) * 3) := by
    rw [List.drop_append_of_le_length (by rw [flatF_length]; omega), flatF_drop 3 VE L (i + 1) (by omega), List.take_left' lD]
  refine gk_any [] (Cut _ (fun _ : Unit => [(0, .slice (some ⟨g, 0, none⟩) (n - 1) c), (7, .int .i64 n)]) (fun _ => [blk g (lay (flatF 3 VE L ++ rest) (i * 3) (flatF 3 VE (L.drop (i + 1)))) 60]) (fun _ => [])) rfl rfl (by kernel_rfl) ?_ (cut_k fun _ => ?_)
  · skip
    refine gb_take 0 rfl (by decide +kernel) rfl rfl (ys_ev (nw := true) hT rfl sI) sF ?_
    refine gb_take 1 rfl (by decide +kernel) rfl rfl (ys_ev (nw := true) hT rfl sI) sF ?_
    refine gb_take 2 rfl (by decide +kernel) rfl rfl (ys_slice_h hT i rfl rfl rfl rfl rfl (by omega)) sF ?_
    try (refine gb_say 22 (.slice (some ⟨g, 0, none⟩) i c) rfl (by rw [shA_0]) ?_)
    refine gb_take 3 rfl (by decide +kernel) rfl rfl (ys_ev (nw := true) hT rfl sI) sF ?_
    refine gb_take 4 rfl (by decide +kernel) rfl rfl (ys_ev (nw := true) hT rfl sI) sF ?_
    refine gb_take 5 rfl (by decide +kernel) rfl rfl (ys_slice_l hT (i + 1) rfl rfl rfl rfl (by push_cast; rfl) (by omega)) sF ?_
    try (refine gb_say 25 (.slice (some ⟨g, o', none⟩) (n - (i + 1)) (c - (i + 1))) rfl (by rw [ho']) ?_)
    refine gb_only 6 (by decide +kernel) rfl rfl ?_
    refine mv_room rfl (flatF 3 VE (L.drop (i + 1))) rfl rfl rfl rfl elt_V (by repeat (first | exact Upd.here _ | apply Upd.there)) (by
        by_cases hc1 : c = i + 1
        · rw [show L.drop (i + 1) = [] from List.drop_of_length_le (by omega)]; exact srcc_nil
        · rw [ho2 hc1]; exact srcc_blk mE _ hsrc) lD (by omega) (by rw [lD, hl0]; omega) (flatF_one 3 VE oneV _) ?_
    refine ⟨sF, ?_⟩
    try (refine gb_say 26 (.slice (some ⟨g, 0, none⟩) (n - 1) c) rfl (by rw [eN]) ?_)
    refine gb_take 7 rfl (by decide +kernel) rfl rfl (ys_ev (nw := true) hT rfl sI) sF ?_
    refine gb_nil (by decide +kernel) ?_
    exact ⟨(), (by repeat (first | exact trivial | refine ⟨rfl, ?_⟩)), sA, sS⟩
  · (repeat (first | refine g_nil ?_ | refine g_pure true hT rfl rfl rfl sI ?_ | refine g_skip rfl rfl ?_ | refine g_skip0 rfl rfl ?_ | refine gk_region rfl ?_ | refine gk_cond_t rfl rfl ?_ | refine gk_cond_f rfl rfl ?_ | refine g_yd rfl rfl (yd_load_blk hT rfl rfl mE rfl rfl) ?_ | refine g_yd rfl rfl (yd_load_row hT rfl rfl mE rfl rfl) ?_ | refine g_yd rfl rfl (yd_load_row0 hT rfl rfl mE rfl rfl) ?_ | refine g_yd rfl rfl (yd_eql rfl rfl rfl rfl rfl (by kernel_rfl)) ?_ | refine g_yd rfl rfl (yd_neq rfl rfl rfl rfl rfl (by kernel_rfl)) ?_ | refine g_yd rfl rfl (yd_index hT rfl rfl rfl sI rfl) ?_ | refine g_yd rfl rfl (yd_slice_nil hT rfl rfl rfl rfl) ?_ | refine g_yd rfl rfl (yd_build_arr hT rfl rfl rfl rfl rfl rfl) ?_ | (refine g_mv rfl ?_; first | (refine mv_box rfl rfl rfl rfl ?_; intro _) | (refine mv_alloc rfl hT rfl rfl ?_; intro _) | refine mv_store hT rfl rfl rfl rfl rfl rfl sO rfl ?_ | (refine mv_buildSlice rfl hT rfl rfl rfl rfl rfl rfl rfl rfl ?_; intro _)) | refine g_yd rfl rfl (Ys.yd (ys_str_eql hT rfl rfl rfl rfl)) ?_ | refine g_yd rfl rfl (Ys.yd (ys_str_neq hT rfl rfl rfl rfl)) ?_))
    refine g_yd rfl rfl (Ys.yd (ys_slice_lh hT (n - 1) n rfl rfl rfl rfl rfl rfl rfl (by omega) hnc)) ?_
    refine g_say 31 (.slice (some ⟨g, (n - 1) * 3, none⟩) (n - (n - 1)) (c - (n - 1))) rfl (by rw [shA_at (by omega)]) ?_
    (repeat (first | refine g_nil ?_ | refine g_pure true hT rfl rfl rfl sI ?_ | refine g_skip rfl rfl ?_ | refine g_skip0 rfl rfl ?_ | refine gk_region rfl ?_ | refine gk_cond_t rfl rfl ?_ | refine gk_cond_f rfl rfl ?_ | refine g_yd rfl rfl (yd_load_blk hT rfl rfl mE rfl rfl) ?_ | refine g_yd rfl rfl (yd_load_row hT rfl rfl mE rfl rfl) ?_ | refine g_yd rfl rfl (yd_load_row0 hT rfl rfl mE rfl rfl) ?_ | refine g_yd rfl rfl (yd_eql rfl rfl rfl rfl rfl (by kernel_rfl)) ?_ | refine g_yd rfl rfl (yd_neq rfl rfl rfl rfl rfl (by kernel_rfl)) ?_ | refine g_yd rfl rfl (yd_index hT rfl rfl rfl sI rfl) ?_ | refine g_yd rfl rfl (yd_slice_nil hT rfl rfl rfl rfl) ?_ | refine g_yd rfl rfl (yd_build_arr hT rfl rfl rfl rfl rfl rfl) ?_ | (refine g_mv rfl ?_; first | (refine mv_box rfl rfl rfl rfl ?_; intro _) | (refine mv_alloc rfl hT rfl rfl ?_; intro _) | refine mv_store hT rfl rfl rfl rfl rfl rfl sO rfl ?_ | (refine mv_buildSlice rfl hT rfl rfl rfl rfl rfl rfl rfl rfl ?_; intro _)) | refine g_yd rfl rfl (Ys.yd (ys_str_eql hT rfl rfl rfl rfl)) ?_ | refine g_yd rfl rfl (Ys.yd (ys_str_neq hT rfl rfl rfl rfl)) ?_))
    have hll : (lay (flatF 3 VE L ++ rest) (i * 3) (flatF 3 VE (L.drop (i + 1)))).length = c * 3 := by rw [lay_len (by rw [lD, hl0]; omega), hl0]
    refine g_mv rfl (mv_clear rfl hT rfl rfl rfl rfl rfl zero_V (by intro _; repeat (first | exact Upd.here _ | apply Upd.there)) (by rw [hll]; omega) (fun vs hvs => ?_))
    (repeat (first | refine g_nil ?_ | refine g_pure true hT rfl rfl rfl sI ?_ | refine g_skip rfl rfl ?_ | refine g_skip0 rfl rfl ?_ | refine gk_region rfl ?_ | refine gk_cond_t rfl rfl ?_ | refine gk_cond_f rfl rfl ?_ | refine g_yd rfl rfl (yd_load_blk hT rfl rfl mE rfl rfl) ?_ | refine g_yd rfl rfl (yd_load_row hT rfl rfl mE rfl rfl) ?_ | refine g_yd rfl rfl (yd_load_row0 hT rfl rfl mE rfl rfl) ?_ | refine g_yd rfl rfl (yd_eql rfl rfl rfl rfl rfl (by kernel_rfl)) ?_ | refine g_yd rfl rfl (yd_neq rfl rfl rfl rfl rfl (by kernel_rfl)) ?_ | refine g_yd rfl rfl (yd_index hT rfl rfl rfl sI rfl) ?_ | refine g_yd rfl rfl (yd_slice_nil hT rfl rfl rfl rfl) ?_ | refine g_yd rfl rfl (yd_build_arr hT rfl rfl rfl rfl rfl rfl) ?_ | (refine g_mv rfl ?_; first | (refine mv_box rfl rfl rfl rfl ?_; intro _) | (refine mv_alloc rfl hT rfl rfl ?_; intro _) | refine mv_store hT rfl rfl rfl rfl rfl rfl sO rfl ?_ | (refine mv_buildSlice rfl hT rfl rfl rfl rfl rfl rfl rfl rfl ?_; intro _)) | refine g_yd rfl rfl (Ys.yd (ys_str_eql hT rfl rfl rfl rfl)) ?_ | refine g_yd rfl rfl (Ys.yd (ys_str_neq hT rfl rfl rfl rfl)) ?_))
    refine gk_blk_own (sz := 3) (enc := VE) (n := n - 1) (c := c) (base := base) (L.take i ++ L.drop (i + 1)) (by decide) (by repeat (first | exact Upd.here _ | apply Upd.there)) (by rw [lay_len (by rw [hvs, hll]; omega), hll]) (by rw [List.length_append, List.length_take, List.length_drop]; omega) (by omega) hcm hbg ?_ ?_
    · rw [e4, List.append_assoc, lay_app _ _ _ lT.symm, lay_app _ _ _ (by rw [List.length_append, lT, lD]; omega), flatF_append, List.append_assoc (flatF 3 VE (L.take i) ++ flatF 3 VE (L.drop (i + 1)))]
      exact List.take_left' (by rw [List.length_append, lT, lD]; omega)
    · refine gk_ret hT rfl rfl (.tmp rfl .nil) (fun w' hk => ?_)
      obtain ⟨q1, q2⟩ := Kn.outG' (L := L.take i ++ L.drop (i + 1)) (base := base) (e := 60) (sz := 3) (enc := VE) (v := .slice (some ⟨g, 0, none⟩) n c) hk mE
      exact ⟨_, rfl, q1, q2⟩
theorem oneG : ∀ (x : GrpD) (j : Nat), (GE x j).oneCell' = true := by intro x j; rcases j with _ | j <;> rfl
theorem zero_G : ∃ u, (∀ w, (zeroValue 70).run Try.prog w = .ok u w) ∧ u.cells.size = 2 ∧ ∀ v ∈ u.cells, v.oneCell' = true := by
  have h : (Try.prog.info? 70).map (fun i => i.zero) = some (some (.agg #[.int .i64 0, .slice none 0 0])) := by kernel_rfl
  refine ⟨.agg #[.int .i64 0, .slice none 0 0], fun w => ?_, rfl, ?_⟩
  · cases hi : Try.prog.info? 70 with
    | none => rw [hi] at h; cases h
    | some i =>
      rw [hi] at h
      have hz : i.zero = some (.agg #[.int .i64 0, .slice none 0 0]) := by simpa using h
      simp [zeroValue, typeInfo, hi, hz]
  · intro v hv
    simp [Value.cells] at hv
    rcases hv with h | h <;> (subst h; rfl)
theorem deleteG_any (base g n c : Nat) (L : List GrpD) (i : Nat) (w : World) (h : OwnL w base 70 2 (.slice (some ⟨g, 0, none⟩) n c) GE L) (h9 : L.length ≤ 100000) (hi : i < L.length) :
    Calls Try.prog 47 [.slice (some ⟨g, 0, none⟩) n c, .int .i64 i, .int .i64 ((i : Int) + 1)].toArray w fun e w' => ∃ v', e = .returned v' ∧ OwnL w' base 70 2 v' GE (L.take i ++ L.drop (i + 1)) ∧ Grew w w' (.slice (some ⟨g, 0, none⟩) n c) v' := by
  have hnl : n = L.length ∧ n ≤ c := by
    obtain ⟨A', c', hv, _, h1, _⟩ := OwnL.sl h
    injection hv with e1 e2 e3
    exact ⟨e2, by omega⟩
  obtain ⟨hn, hnc⟩ := hnl
  refine g_enter0 T (ownE (.slice (some ⟨g, 0, none⟩) n c)) [own base 70 2 (.slice (some ⟨g, 0, none⟩) n c) GE L] [] Try.func47 rfl Try.ntmps47 rfl (Kn.startG h) ?_
  have e4 : flatF 2 GE L = flatF 2 GE (L.take i) ++ flatF 2 GE (L.drop i) := by rw [← flatF_append, List.take_append_drop]
  have lT : (flatF 2 GE (L.take i)).length = i * 2 := by rw [flatF_length, List.length_take, Nat.min_eq_left (by omega)]
  have lD : (flatF 2 GE (L.drop (i + 1))).length = (n - (i + 1)) * 2 := by rw [flatF_length, List.length_drop, hn]
  have eN : i + (n - (i + 1)) = n - 1 := by omega
  (repeat (first | refine g_nil ?_ | refine g_pure true hT rfl rfl rfl sI ?_ | refine g_skip rfl rfl ?_ | refine g_skip0 rfl rfl ?_ | refine gk_region rfl ?_ | refine gk_cond_t rfl rfl ?_ | refine gk_cond_f rfl rfl ?_ | refine g_yd rfl rfl (yd_load_blk hT rfl rfl mE rfl rfl) ?_ | refine g_yd rfl rfl (yd_load_row hT rfl rfl mE rfl rfl) ?_ | refine g_yd rfl rfl (yd_load_row0 hT rfl rfl mE rfl rfl) ?_ | refine g_yd rfl rfl (yd_eql rfl rfl rfl rfl rfl (by kernel_rfl)) ?_ | refine g_yd rfl rfl (yd_neq rfl rfl rfl rfl rfl (by kernel_rfl)) ?_ | refine g_yd rfl rfl (yd_index hT rfl rfl rfl sI rfl) ?_ | refine g_yd rfl rfl (yd_slice_nil hT rfl rfl rfl rfl) ?_ | refine g_yd rfl rfl (yd_build_arr hT rfl rfl rfl rfl rfl rfl) ?_ | (refine g_mv rfl ?_; first | (refine mv_box rfl rfl rfl rfl ?_; intro _) | (refine mv_alloc rfl hT rfl rfl ?_; intro _) | refine mv_store hT rfl rfl rfl rfl rfl rfl sO rfl ?_ | (refine mv_buildSlice rfl hT rfl rfl rfl rfl rfl rfl rfl rfl ?_; intro _)) | refine g_yd rfl rfl (Ys.yd (ys_str_eql hT rfl rfl rfl rfl)) ?_ | refine g_yd rfl rfl (Ys.yd (ys_str_neq hT rfl rfl rfl rfl)) ?_))
  refine g_yd rfl rfl (Ys.yd (ys_slice_lhm hT i (i + 1) n rfl rfl rfl rfl rfl rfl rfl (by push_cast; rfl) rfl (by omega) (by omega) hnc)) ?_
  (repeat' (first | (first | refine g_nil ?_ | refine g_pure true hT rfl rfl rfl sI ?_ | refine g_skip rfl rfl ?_ | refine g_skip0 rfl rfl ?_ | refine gk_region rfl ?_ | refine gk_cond_t rfl rfl ?_ | refine gk_cond_f rfl rfl ?_ | refine g_yd rfl rfl (yd_load_blk hT rfl rfl mE rfl rfl) ?_ | refine g_yd rfl rfl (yd_load_row hT rfl rfl mE rfl rfl) ?_ | refine g_yd rfl rfl (yd_load_row0 hT rfl rfl mE rfl rfl) ?_ | refine g_yd rfl rfl (yd_eql rfl rfl rfl rfl rfl (by kernel_rfl)) ?_ | refine g_yd rfl rfl (yd_neq rfl rfl rfl rfl rfl (by kernel_rfl)) ?_ | refine g_yd rfl rfl (yd_index hT rfl rfl rfl sI rfl) ?_ | refine g_yd rfl rfl (yd_slice_nil hT rfl rfl rfl rfl) ?_ | refine g_yd rfl rfl (yd_build_arr hT rfl rfl rfl rfl rfl rfl) ?_ | (refine g_mv rfl ?_; first | (refine mv_box rfl rfl rfl rfl ?_; intro _) | (refine mv_alloc rfl hT rfl rfl ?_; intro _) | refine mv_store hT rfl rfl rfl rfl rfl rfl sO rfl ?_ | (refine mv_buildSlice rfl hT rfl rfl rfl rfl rfl rfl rfl rfl ?_; intro _)) | refine g_yd rfl rfl (Ys.yd (ys_str_eql hT rfl rfl rfl rfl)) ?_ | refine g_yd rfl rfl (Ys.yd (ys_str_neq hT rfl rfl rfl rfl)) ?_) | ((first | refine g_split rfl rfl tE (fun _ => ?_) (fun _ => ?_) | refine gk_cond rfl rfl tE (fun _ => ?_) (fun _ => ?_)) <;> (try first | (exfalso; omega; done) | (rename_i hx; exact absurd rfl hx) | (rename_i hx; cases hx; done)))))
  refine gk_own_blk (α := GrpD) (sz := 2) (enc := GE) (L := L) (by decide) (by intro _; repeat (first | exact Upd.here _ | apply Upd.there)) (fun rest hl0 _ _ hcm hbg => ?_)
  obtain ⟨o', ho', ho2⟩ := shA_any (g := g) (l := i + 1) (m := c) (s := 2)
  have hsrc : flatF 2 GE (L.drop (i + 1)) = ((flatF 2 GE L ++ rest).drop ((i + 1) * 2)).take ((n - (i + 1)) * 2) := by
    rw [List.drop_append_of_le_length (by rw [flatF_length]; omega), flatF_drop 2 GE L (i + 1) (by omega), List.take_left' lD]
  refine gk_any [] (Cut _ (fun _ : Unit => [(0, .slice (some ⟨g, 0, none⟩) (n - 1) c), (7, .int .i64 n)]) (fun _ => [blk g (lay (flatF 2 GE L ++ rest) (i * 2) (flatF 2 GE (L.drop (i + 1)))) 70]) (fun _ => [])) rfl rfl (by kernel_rfl) ?_ (cut_k fun _ => ?_)
  · skip
    refine gb_take 0 rfl (by decide +kernel) rfl rfl (ys_ev (nw := true) hT rfl sI) sF ?_
    refine gb_take 1 rfl (by decide +kernel) rfl rfl (ys_ev (nw := true) hT rfl sI) sF ?_
    refine gb_take 2 rfl (by decide +kernel) rfl rfl (ys_slice_h hT i rfl rfl rfl rfl rfl (by omega)) sF ?_
    try (refine gb_say 22 (.slice (some ⟨g, 0, none⟩) i c) rfl (by rw [shA_0]) ?_)
    refine gb_take 3 rfl (by decide +kernel) rfl rfl (ys_ev (nw := true) hT rfl sI) sF ?_
    refine gb_take 4 rfl (by decide +kernel) rfl rfl (ys_ev (nw := true) hT rfl sI) sF ?_
    refine gb_take 5 rfl (by decide +kernel) rfl rfl (ys_slice_l hT (i + 1) rfl rfl rfl rfl (by push_cast; rfl) (by omega)) sF ?_
    try (refine gb_say 25 (.slice (some ⟨g, o', none⟩) (n - (i + 1)) (c - (i + 1))) rfl (by rw [ho']) ?_)
    refine gb_only 6 (by decide +kernel) rfl rfl ?_
    refine mv_room rfl (flatF 2 GE (L.drop (i + 1))) rfl rfl rfl rfl elt_G (by repeat (first | exact Upd.here _ | apply Upd.there)) (by
        by_cases hc1 : c = i + 1
        · rw [show L.drop (i + 1) = [] from List.drop_of_length_le (by omega)]; exact srcc_nil
        · rw [ho2 hc1]; exact srcc_blk mE _ hsrc) lD (by omega) (by rw [lD, hl0]; omega) (flatF_one 2 GE oneG _) ?_
    refine ⟨sF, ?_⟩
    try (refine gb_say 26 (.slice (some ⟨g, 0, none⟩) (n - 1) c) rfl (by rw [eN]) ?_)
    refine gb_take 7 rfl (by decide +kernel) rfl rfl (ys_ev (nw := true) hT rfl sI) sF ?_
    refine gb_nil (by decide +kernel) ?_
    exact ⟨(), (by repeat (first | exact trivial | refine ⟨rfl, ?_⟩)), sA, sS⟩
  · (repeat (first | refine g_nil ?_ | refine g_pure true hT rfl rfl rfl sI ?_ | refine g_skip rfl rfl ?_ | refine g_skip0 rfl rfl ?_ | refine gk_region rfl ?_ | refine gk_cond_t rfl rfl ?_ | refine gk_cond_f rfl rfl ?_ | refine g_yd rfl rfl (yd_load_blk hT rfl rfl mE rfl rfl) ?_ | refine g_yd rfl rfl (yd_load_row hT rfl rfl mE rfl rfl) ?_ | refine g_yd rfl rfl (yd_load_row0 hT rfl rfl mE rfl rfl) ?_ | refine g_yd rfl rfl (yd_eql rfl rfl rfl rfl rfl (by kernel_rfl)) ?_ | refine g_yd rfl rfl (yd_neq rfl rfl rfl rfl rfl (by kernel_rfl)) ?_ | refine g_yd rfl rfl (yd_index hT rfl rfl rfl sI rfl) ?_ | refine g_yd rfl rfl (yd_slice_nil hT rfl rfl rfl rfl) ?_ | refine g_yd rfl rfl (yd_build_arr hT rfl rfl rfl rfl rfl rfl) ?_ | (refine g_mv rfl ?_; first | (refine mv_box rfl rfl rfl rfl ?_; intro _) | (refine mv_alloc rfl hT rfl rfl ?_; intro _) | refine mv_store hT rfl rfl rfl rfl rfl rfl sO rfl ?_ | (refine mv_buildSlice rfl hT rfl rfl rfl rfl rfl rfl rfl rfl ?_; intro _)) | refine g_yd rfl rfl (Ys.yd (ys_str_eql hT rfl rfl rfl rfl)) ?_ | refine g_yd rfl rfl (Ys.yd (ys_str_neq hT rfl rfl rfl rfl)) ?_))
    refine g_yd rfl rfl (Ys.yd (ys_slice_lh hT (n - 1) n rfl rfl rfl rfl rfl rfl rfl (by omega) hnc)) ?_
    refine g_say 31 (.slice (some ⟨g, (n - 1) * 2, none⟩) (n - (n - 1)) (c - (n - 1))) rfl (by rw [shA_at (by omega)]) ?_
    (repeat (first | refine g_nil ?_ | refine g_pure true hT rfl rfl rfl sI ?_ | refine g_skip rfl rfl ?_ | refine g_skip0 rfl rfl ?_ | refine gk_region rfl ?_ | refine gk_cond_t rfl rfl ?_ | refine gk_cond_f rfl rfl ?_ | refine g_yd rfl rfl (yd_load_blk hT rfl rfl mE rfl rfl) ?_ | refine g_yd rfl rfl (yd_load_row hT rfl rfl mE rfl rfl) ?_ | refine g_yd rfl rfl (yd_load_row0 hT rfl rfl mE rfl rfl) ?_ | refine g_yd rfl rfl (yd_eql rfl rfl rfl rfl rfl (by kernel_rfl)) ?_ | refine g_yd rfl rfl (yd_neq rfl rfl rfl rfl rfl (by kernel_rfl)) ?_ | refine g_yd rfl rfl (yd_index hT rfl rfl rfl sI rfl) ?_ | refine g_yd rfl rfl (yd_slice_nil hT rfl rfl rfl rfl) ?_ | refine g_yd rfl rfl (yd_build_arr hT rfl rfl rfl rfl rfl rfl) ?_ | (refine g_mv rfl ?_; first | (refine mv_box rfl rfl rfl rfl ?_; intro _) | (refine mv_alloc rfl hT rfl rfl ?_; intro _) | refine mv_store hT rfl rfl rfl rfl rfl rfl sO rfl ?_ | (refine mv_buildSlice rfl hT rfl rfl rfl rfl rfl rfl rfl rfl ?_; intro _)) | refine g_yd rfl rfl (Ys.yd (ys_str_eql hT rfl rfl rfl rfl)) ?_ | refine g_yd rfl rfl (Ys.yd (ys_str_neq hT rfl rfl rfl rfl)) ?_))
    have hll : (lay (flatF 2 GE L ++ rest) (i * 2) (flatF 2 GE (L.drop (i + 1)))).length = c * 2 := by rw [lay_len (by rw [lD, hl0]; omega), hl0]
    refine g_mv rfl (mv_clear rfl hT rfl rfl rfl rfl rfl zero_G (by intro _; repeat (first | exact Upd.here _ | apply Upd.there)) (by rw [hll]; omega) (fun vs hvs => ?_))
    (repeat (first | refine g_nil ?_ | refine g_pure true hT rfl rfl rfl sI ?_ | refine g_skip rfl rfl ?_ | refine g_skip0 rfl rfl ?_ | refine gk_region rfl ?_ | refine gk_cond_t rfl rfl ?_ | refine gk_cond_f rfl rfl ?_ | refine g_yd rfl rfl (yd_load_blk hT rfl rfl mE rfl rfl) ?_ | refine g_yd rfl rfl (yd_load_row hT rfl rfl mE rfl rfl) ?_ | refine g_yd rfl rfl (yd_load_row0 hT rfl rfl mE rfl rfl) ?_ | refine g_yd rfl rfl (yd_eql rfl rfl rfl rfl rfl (by kernel_rfl)) ?_ | refine g_yd rfl rfl (yd_neq rfl rfl rfl rfl rfl (by kernel_rfl)) ?_ | refine g_yd rfl rfl (yd_index hT rfl rfl rfl sI rfl) ?_ | refine g_yd rfl rfl (yd_slice_nil hT rfl rfl rfl rfl) ?_ | refine g_yd rfl rfl (yd_build_arr hT rfl rfl rfl rfl rfl rfl) ?_ | (refine g_mv rfl ?_; first | (refine mv_box rfl rfl rfl rfl ?_; intro _) | (refine mv_alloc rfl hT rfl rfl ?_; intro _) | refine mv_store hT rfl rfl rfl rfl rfl rfl sO rfl ?_ | (refine mv_buildSlice rfl hT rfl rfl rfl rfl rfl rfl rfl rfl ?_; intro _)) | refine g_yd rfl rfl (Ys.yd (ys_str_eql hT rfl rfl rfl rfl)) ?_ | refine g_yd rfl rfl (Ys.yd (ys_str_neq hT rfl rfl rfl rfl)) ?_))
    refine gk_blk_own (sz := 2) (enc := GE) (n := n - 1) (c := c) (base := base) (L.take i ++ L.drop (i + 1)) (by decide) (by repeat (first | exact Upd.here _ | apply Upd.there)) (by rw [lay_len (by rw [hvs, hll]; omega), hll]) (by rw [List.length_append, List.length_take, List.length_drop]; omega) (by omega) hcm hbg ?_ ?_
    · rw [e4, List.append_assoc, lay_app _ _ _ lT.symm, lay_app _ _ _ (by rw [List.length_append, lT, lD]; omega), flatF_append, List.append_assoc (flatF 2 GE (L.take i) ++ flatF 2 GE (L.drop (i + 1)))]
      exact List.take_left' (by rw [List.length_append, lT, lD]; omega)
    · refine gk_ret hT rfl rfl (.tmp rfl .nil) (fun w' hk => ?_)
      obtain ⟨q1, q2⟩ := Kn.outG' (L := L.take i ++ L.drop (i + 1)) (base := base) (e := 70) (sz := 2) (enc := GE) (v := .slice (some ⟨g, 0, none⟩) n c) hk mE
      exact ⟨_, rfl, q1, q2⟩
theorem oneB : ∀ (x : BokD) (j : Nat), (BE x j).oneCell' = true := by intro x j; rcases j with _ | _ | j <;> rfl
theorem zero_B : ∃ u, (∀ w, (zeroValue 51).run Try.prog w = .ok u w) ∧ u.cells.size = 3 ∧ ∀ v ∈ u.cells, v.oneCell' = true := by
  have h : (Try.prog.info? 51).map (fun i => i.zero) = some (some (.agg #[.int .i64 0, .int .u64 0, .slice none 0 0])) := by kernel_rfl
  refine ⟨.agg #[.int .i64 0, .int .u64 0, .slice none 0 0], fun w => ?_, rfl, ?_⟩
  · cases hi : Try.prog.info? 51 with
    | none => rw [hi] at h; cases h
    | some i =>
      rw [hi] at h
      have hz : i.zero = some (.agg #[.int .i64 0, .int .u64 0, .slice none 0 0]) := by simpa using h
      simp [zeroValue, typeInfo, hi, hz]
  · intro v hv
    simp [Value.cells] at hv
    rcases hv with h | h | h <;> (subst h; rfl)
theorem deleteB_any (base g n c : Nat) (L : List BokD) (i : Nat) (w : World) (h : OwnL w base 51 3 (.slice (some ⟨g, 0, none⟩) n c) BE L) (h9 : L.length ≤ 100000) (hi : i < L.length) :
    Calls Try.prog 49 [.slice (some ⟨g, 0, none⟩) n c, .int .i64 i, .int .i64 ((i : Int) + 1)].toArray w fun e w' => ∃ v', e = .returned v' ∧ OwnL w' base 51 3 v' BE (L.take i ++ L.drop (i + 1)) ∧ Grew w w' (.slice (some ⟨g, 0, none⟩) n c) v' := by
  have hnl : n = L.length ∧ n ≤ c := by
    obtain ⟨A', c', hv, _, h1, _⟩ := OwnL.sl h
    injection hv with e1 e2 e3
    exact ⟨e2, by omega⟩
  obtain ⟨hn, hnc⟩ := hnl
  refine g_enter0 T (ownE (.slice (some ⟨g, 0, none⟩) n c)) [own base 51 3 (.slice (some ⟨g, 0, none⟩) n c) BE L] [] Try.func49 rfl Try.ntmps49 rfl (Kn.startG h) ?_
  have e4 : flatF 3 BE L = flatF 3 BE (L.take i) ++ flatF 3 BE (L.drop i) := by rw [← flatF_append, List.take_append_drop]
  have lT : (flatF 3 BE (L.take i)).length = i * 3 := by rw [flatF_length, List.length_take, Nat.min_eq_left (by omega)]
  have lD : (flatF 3 BE (L.drop (i + 1))).length = (n - (i + 1)) * 3 := by rw [flatF_length, List.length_drop, hn]
  have eN : i + (n - (i + 1)) = n - 1 := by omega
  (repeat (first | refine g_nil ?_ | refine g_pure true hT rfl rfl rfl sI ?_ | refine g_skip rfl rfl ?_ | refine g_skip0 rfl rfl ?_ | refine gk_region rfl ?_ | refine gk_cond_t rfl rfl ?_ | refine gk_cond_f rfl rfl ?_ | refine g_yd rfl rfl (yd_load_blk hT rfl rfl mE rfl rfl) ?_ | refine g_yd rfl rfl (yd_load_row hT rfl rfl mE rfl rfl) ?_ | refine g_yd rfl rfl (yd_load_row0 hT rfl rfl mE rfl rfl) ?_ | refine g_yd rfl rfl (yd_eql rfl rfl rfl rfl rfl (by kernel_rfl)) ?_ | refine g_yd rfl rfl (yd_neq rfl rfl rfl rfl rfl (by kernel_rfl)) ?_ | refine g_yd rfl rfl (yd_index hT rfl rfl rfl sI rfl) ?_ | refine g_yd rfl rfl (yd_slice_nil hT rfl rfl rfl rfl) ?_ | refine g_yd rfl rfl (yd_build_arr hT rfl rfl rfl rfl rfl rfl) ?_ | (refine g_mv rfl ?_; first | (refine mv_box rfl rfl rfl rfl ?_; intro _) | (refine mv_alloc rfl hT rfl rfl ?_; intro _) | refine mv_store hT rfl rfl rfl rfl rfl rfl sO rfl ?_ | (refine mv_buildSlice rfl hT rfl rfl rfl rfl rfl rfl rfl rfl ?_; intro _)) | refine g_yd rfl rfl (Ys.yd (ys_str_eql hT rfl rfl rfl rfl)) ?_ | refine g_yd rfl rfl (Ys.yd (ys_str_neq hT rfl rfl rfl rfl)) ?_))
  refine g_yd rfl rfl (Ys.yd (ys_slice_lhm hT i (i + 1) n rfl rfl rfl rfl rfl rfl rfl (by push_cast; rfl) rfl (by omega) (by omega) hnc)) ?_
  (repeat' (first | (first | refine g_nil ?_ | refine g_pure true hT rfl rfl rfl sI ?_ | refine g_skip rfl rfl ?_ | refine g_skip0 rfl rfl ?_ | refine gk_region rfl ?_ | refine gk_cond_t rfl rfl ?_ | refine gk_cond_f rfl rfl ?_ | refine g_yd rfl rfl (yd_load_blk hT rfl rfl mE rfl rfl) ?_ | refine g_yd rfl rfl (yd_load_row hT rfl rfl mE rfl rfl) ?_ | refine g_yd rfl rfl (yd_load_row0 hT rfl rfl mE rfl rfl) ?_ | refine g_yd rfl rfl (yd_eql rfl rfl rfl rfl rfl (by kernel_rfl)) ?_ | refine g_yd rfl rfl (yd_neq rfl rfl rfl rfl rfl (by kernel_rfl)) ?_ | refine g_yd rfl rfl (yd_index hT rfl rfl rfl sI rfl) ?_ | refine g_yd rfl rfl (yd_slice_nil hT rfl rfl rfl rfl) ?_ | refine g_yd rfl rfl (yd_build_arr hT rfl rfl rfl rfl rfl rfl) ?_ | (refine g_mv rfl ?_; first | (refine mv_box rfl rfl rfl rfl ?_; intro _) | (refine mv_alloc rfl hT rfl rfl ?_; intro _) | refine mv_store hT rfl rfl rfl rfl rfl rfl sO rfl ?_ | (refine mv_buildSlice rfl hT rfl rfl rfl rfl rfl rfl rfl rfl ?_; intro _)) | refine g_yd rfl rfl (Ys.yd (ys_str_eql hT rfl rfl rfl rfl)) ?_ | refine g_yd rfl rfl (Ys.yd (ys_str_neq hT rfl rfl rfl rfl)) ?_) | ((first | refine g_split rfl rfl tE (fun _ => ?_) (fun _ => ?_) | refine gk_cond rfl rfl tE (fun _ => ?_) (fun _ => ?_)) <;> (try first | (exfalso; omega; done) | (rename_i hx; exact absurd rfl hx) | (rename_i hx; cases hx; done)))))
  refine gk_own_blk (α := BokD) (sz := 3) (enc := BE) (L := L) (by decide) (by intro _; repeat (first | exact Upd.here _ | apply Upd.there)) (fun rest hl0 _ _ hcm hbg => ?_)
  obtain ⟨o', ho', ho2⟩ := shA_any (g := g) (l := i + 1) (m := c) (s := 3)
  have hsrc : flatF 3 BE (L.drop (i + 1)) = ((flatF 3 BE L ++ rest).drop ((i + 1) * 3)).take ((n - (i + 1)) * 3) := by
    rw [List.drop_append_of_le_length (by rw [flatF_length]; omega), flatF_drop 3 BE L (i + 1) (by omega), List.take_left' lD]
  refine gk_any [] (Cut _ (fun _ : Unit => [(0, .slice (some ⟨g, 0, none⟩) (n - 1) c), (7, .int .i64 n)]) (fun _ => [blk g (lay (flatF 3 BE L ++ rest) (i * 3) (flatF 3 BE (L.drop (i + 1)))) 51]) (fun _ => [])) rfl rfl (by kernel_rfl) ?_ (cut_k fun _ => ?_)
  · skip
    refine gb_take 0 rfl (by decide +kernel) rfl rfl (ys_ev (nw := true) hT rfl sI) sF ?_
    refine gb_take 1 rfl (by decide +kernel) rfl rfl (ys_ev (nw := true) hT rfl sI) sF ?_
    refine gb_take 2 rfl (by decide +kernel) rfl rfl (ys_slice_h hT i rfl rfl rfl rfl rfl (by omega)) sF ?_
    try (refine gb_say 22 (.slice (some ⟨g, 0, none⟩) i c) rfl (by rw [shA_0]) ?_)
    refine gb_take 3 rfl (by decide +kernel) rfl rfl (ys_ev (nw := true) hT rfl sI) sF ?_
    refine gb_take 4 rfl (by decide +kernel) rfl rfl (ys_ev (nw := true) hT rfl sI) sF ?_
    refine gb_take 5 rfl (by decide +kernel) rfl rfl (ys_slice_l hT (i + 1) rfl rfl rfl rfl (by push_cast; rfl) (by omega)) sF ?_
    try (refine gb_say 25 (.slice (some ⟨g, o', none⟩) (n - (i + 1)) (c - (i + 1))) rfl (by rw [ho']) ?_)
    refine gb_only 6 (by decide +kernel) rfl rfl ?_
    refine mv_room rfl (flatF 3 BE (L.drop (i + 1))) rfl rfl rfl rfl elt_B (by repeat (first | exact Upd.here _ | apply Upd.there)) (by
        by_cases hc1 : c = i + 1
        · rw [show L.drop (i + 1) = [] from List.drop_of_length_le (by omega)]; exact srcc_nil
        · rw [ho2 hc1]; exact srcc_blk mE _ hsrc) lD (by omega) (by rw [lD, hl0]; omega) (flatF_one 3 BE oneB _) ?_
    refine ⟨sF, ?_⟩
    try (refine gb_say 26 (.slice (some ⟨g, 0, none⟩) (n - 1) c) rfl (by rw [eN]) ?_)
    refine gb_take 7 rfl (by decide +kernel) rfl rfl (ys_ev (nw := true) hT rfl sI) sF ?_
    refine gb_nil (by decide +kernel) ?_
    exact ⟨(), (by repeat (first | exact trivial | refine ⟨rfl, ?_⟩)), sA, sS⟩
  · (repeat (first | refine g_nil ?_ | refine g_pure true hT rfl rfl rfl sI ?_ | refine g_skip rfl rfl ?_ | refine g_skip0 rfl rfl ?_ | refine gk_region rfl ?_ | refine gk_cond_t rfl rfl ?_ | refine gk_cond_f rfl rfl ?_ | refine g_yd rfl rfl (yd_load_blk hT rfl rfl mE rfl rfl) ?_ | refine g_yd rfl rfl (yd_load_row hT rfl rfl mE rfl rfl) ?_ | refine g_yd rfl rfl (yd_load_row0 hT rfl rfl mE rfl rfl) ?_ | refine g_yd rfl rfl (yd_eql rfl rfl rfl rfl rfl (by kernel_rfl)) ?_ | refine g_yd rfl rfl (yd_neq rfl rfl rfl rfl rfl (by kernel_rfl)) ?_ | refine g_yd rfl rfl (yd_index hT rfl rfl rfl sI rfl) ?_ | refine g_yd rfl rfl (yd_slice_nil hT rfl rfl rfl rfl) ?_ | refine g_yd rfl rfl (yd_build_arr hT rfl rfl rfl rfl rfl rfl) ?_ | (refine g_mv rfl ?_; first | (refine mv_box rfl rfl rfl rfl ?_; intro _) | (refine mv_alloc rfl hT rfl rfl ?_; intro _) | refine mv_store hT rfl rfl rfl rfl rfl rfl sO rfl ?_ | (refine mv_buildSlice rfl hT rfl rfl rfl rfl rfl rfl rfl rfl ?_; intro _)) | refine g_yd rfl rfl (Ys.yd (ys_str_eql hT rfl rfl rfl rfl)) ?_ | refine g_yd rfl rfl (Ys.yd (ys_str_neq hT rfl rfl rfl rfl)) ?_))
    refine g_yd rfl rfl (Ys.yd (ys_slice_lh hT (n - 1) n rfl rfl rfl rfl rfl rfl rfl (by omega) hnc)) ?_
    refine g_say 31 (.slice (some ⟨g, (n - 1) * 3, none⟩) (n - (n - 1)) (c - (n - 1))) rfl (by rw [shA_at (by omega)]) ?_
    (repeat (first | refine g_nil ?_ | refine g_pure true hT rfl rfl rfl sI ?_ | refine g_skip rfl rfl ?_ | refine g_skip0 rfl rfl ?_ | refine gk_region rfl ?_ | refine gk_cond_t rfl rfl ?_ | refine gk_cond_f rfl rfl ?_ | refine g_yd rfl rfl (yd_load_blk hT rfl rfl mE rfl rfl) ?_ | refine g_yd rfl rfl (yd_load_row hT rfl rfl mE rfl rfl) ?_ | refine g_yd rfl rfl (yd_load_row0 hT rfl rfl mE rfl rfl) ?_ | refine g_yd rfl rfl (yd_eql rfl rfl rfl rfl rfl (by kernel_rfl)) ?_ | refine g_yd rfl rfl (yd_neq rfl rfl rfl rfl rfl (by kernel_rfl)) ?_ | refine g_yd rfl rfl (yd_index hT rfl rfl rfl sI rfl) ?_ | refine g_yd rfl rfl (yd_slice_nil hT rfl rfl rfl rfl) ?_ | refine g_yd rfl rfl (yd_build_arr hT rfl rfl rfl rfl rfl rfl) ?_ | (refine g_mv rfl ?_; first | (refine mv_box rfl rfl rfl rfl ?_; intro _) | (refine mv_alloc rfl hT rfl rfl ?_; intro _) | refine mv_store hT rfl rfl rfl rfl rfl rfl sO rfl ?_ | (refine mv_buildSlice rfl hT rfl rfl rfl rfl rfl rfl rfl rfl ?_; intro _)) | refine g_yd rfl rfl (Ys.yd (ys_str_eql hT rfl rfl rfl rfl)) ?_ | refine g_yd rfl rfl (Ys.yd (ys_str_neq hT rfl rfl rfl rfl)) ?_))
    have hll : (lay (flatF 3 BE L ++ rest) (i * 3) (flatF 3 BE (L.drop (i + 1)))).length = c * 3 := by rw [lay_len (by rw [lD, hl0]; omega), hl0]
    refine g_mv rfl (mv_clear rfl hT rfl rfl rfl rfl rfl zero_B (by intro _; repeat (first | exact Upd.here _ | apply Upd.there)) (by rw [hll]; omega) (fun vs hvs => ?_))
    (repeat (first | refine g_nil ?_ | refine g_pure true hT rfl rfl rfl sI ?_ | refine g_skip rfl rfl ?_ | refine g_skip0 rfl rfl ?_ | refine gk_region rfl ?_ | refine gk_cond_t rfl rfl ?_ | refine gk_cond_f rfl rfl ?_ | refine g_yd rfl rfl (yd_load_blk hT rfl rfl mE rfl rfl) ?_ | refine g_yd rfl rfl (yd_load_row hT rfl rfl mE rfl rfl) ?_ | refine g_yd rfl rfl (yd_load_row0 hT rfl rfl mE rfl rfl) ?_ | refine g_yd rfl rfl (yd_eql rfl rfl rfl rfl rfl (by kernel_rfl)) ?_ | refine g_yd rfl rfl (yd_neq rfl rfl rfl rfl rfl (by kernel_rfl)) ?_ | refine g_yd rfl rfl (yd_index hT rfl rfl rfl sI rfl) ?_ | refine g_yd rfl rfl (yd_slice_nil hT rfl rfl rfl rfl) ?_ | refine g_yd rfl rfl (yd_build_arr hT rfl rfl rfl rfl rfl rfl) ?_ | (refine g_mv rfl ?_; first | (refine mv_box rfl rfl rfl rfl ?_; intro _) | (refine mv_alloc rfl hT rfl rfl ?_; intro _) | refine mv_store hT rfl rfl rfl rfl rfl rfl sO rfl ?_ | (refine mv_buildSlice rfl hT rfl rfl rfl rfl rfl rfl rfl rfl ?_; intro _)) | refine g_yd rfl rfl (Ys.yd (ys_str_eql hT rfl rfl rfl rfl)) ?_ | refine g_yd rfl rfl (Ys.yd (ys_str_neq hT rfl rfl rfl rfl)) ?_))
    refine gk_blk_own (sz := 3) (enc := BE) (n := n - 1) (c := c) (base := base) (L.take i ++ L.drop (i + 1)) (by decide) (by repeat (first | exact Upd.here _ | apply Upd.there)) (by rw [lay_len (by rw [hvs, hll]; omega), hll]) (by rw [List.length_append, List.length_take, List.length_drop]; omega) (by omega) hcm hbg ?_ ?_
    · rw [e4, List.append_assoc, lay_app _ _ _ lT.symm, lay_app _ _ _ (by rw [List.length_append, lT, lD]; omega), flatF_append, List.append_assoc (flatF 3 BE (L.take i) ++ flatF 3 BE (L.drop (i + 1)))]
      exact List.take_left' (by rw [List.length_append, lT, lD]; omega)
    · refine gk_ret hT rfl rfl (.tmp rfl .nil) (fun w' hk => ?_)
      obtain ⟨q1, q2⟩ := Kn.outG' (L := L.take i ++ L.drop (i + 1)) (base := base) (e := 51) (sz := 3) (enc := BE) (v := .slice (some ⟨g, 0, none⟩) n c) hk mE
      exact ⟨_, rfl, q1, q2⟩
end Go.Proofs.Ytbcdcjiibalnnaa.Ct

