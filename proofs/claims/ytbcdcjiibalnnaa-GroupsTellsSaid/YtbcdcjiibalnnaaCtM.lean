/- The reference's Create of a volume. -/
import Derived.Test.YtbcdcjiibalnnaaCtL
namespace Go.Proofs.Ytbcdcjiibalnnaa.Ct
open Go.RowKit Mem Gx
set_option linter.unusedVariables false
set_option linter.unusedSimpArgs false
set_option maxRecDepth 100000
set_option maxHeartbeats 400000
theorem ok_one {g : Nat} : (SlV.mk (some ⟨g, 0, none⟩) 1 1).Ok 1 := ⟨rfl, Nat.le_refl _, by show 1 ≤ maxLen; unfold maxLen; omega, fun h => by cases h⟩
theorem sl_of_blk {α : Type} [Inhabited α] {w : World} {g T : Nat} {cs : List Value} {sz : Nat} {enc : α → Nat → Value} {M : List α} (hb : w.heap[g]? = some (.cells cs.toArray T (0, 0))) (he : cs = flatF sz enc M) : Sl w (some ⟨g, 0, none⟩) sz enc M := fun hn => by
  refine ⟨g, 0, rfl, fun i hi j hj => ?_⟩
  have hy : M[i]? = some M[i] := List.getElem?_eq_getElem hi
  rw [Nat.zero_add, cell_of_row w g _ cs.toArray T (0, 0) hb, LF_at hy, he]
  simpa using flatF_get sz enc M i j _ hy hj
theorem rs_lit {w w' : World} {O R RA : List Fact} {α : Type} [Inhabited α] {g T : Nat} {cs : List Value} {sz : Nat} {enc : α → Nat → Value} {M : List α} (hk : Kn [] w w' O R) (hm : blk g cs T ∈ O) (he : cs = flatF sz enc M) : RS1 w w' RA (sl (some ⟨g, 0, none⟩) sz enc M) := by
  refine ⟨sl_of_blk (hk.pO _ hm) he, fun b hb => ?_⟩
  · obtain ⟨_, a, ha, hab⟩ := hb
    injection ha with ha
    rw [← hab, ← ha]
    exact ⟨hk.ltO _ hm g rfl, .inl (by
      rcases hk.ownS _ hm g rfl with h | h
      · exact h
      · cases h)⟩
theorem rcreate_any (c : CatD) (m q : Int) (w : World) (hc : c.Ok) (h20 : c.V.length ≤ 20) (h : Rd1 w (catF c)) :
    Calls Try.prog 8 [c.val, .int .i64 m, .int .u64 q].toArray w (RetC3 c (creP c m q) w) := by
  obtain ⟨nv, ng, nb, fl, ⟨vA, vm, vc⟩, V, ⟨gA, gm, gc⟩, G, ⟨bA, bm, bc⟩, B, ⟨kA, km, kd⟩, K, ⟨tA, tm, tc⟩, M⟩ := c
  have hn : vm = V.length := hc.v.n
  replace h20 : V.length ≤ 20 := h20
  have hnv : -9223372036854775808 ≤ nv ∧ nv ≤ 9223372036854775807 := hc.nv
  by_cases hm : m < 1 ∨ 32 < m
  · rw [cre_bad hm]
    dsimp only [CatD.val]
    refine g_enter0 T [] [] [catF (⟨nv, ng, nb, fl, ⟨vA, vm, vc⟩, V, ⟨gA, gm, gc⟩, G, ⟨bA, bm, bc⟩, B, ⟨kA, km, kd⟩, K, ⟨tA, tm, tc⟩, M⟩ : CatD)] Try.func8 rfl Try.ntmps8 rfl (Rds.cons h .nil).kn ?_
    (repeat' (first | (first | refine g_nil ?_ | refine g_pure true hT rfl rfl rfl sI ?_ | refine g_skip rfl rfl ?_ | refine g_skip0 rfl rfl ?_ | refine gk_region rfl ?_ | refine gk_cond_t rfl rfl ?_ | refine gk_cond_f rfl rfl ?_ | refine g_yd rfl rfl (yd_load_blk hT rfl rfl mE rfl rfl) ?_ | refine g_yd rfl rfl (yd_load_row hT rfl rfl mE rfl rfl) ?_ | refine g_yd rfl rfl (yd_load_row0 hT rfl rfl mE rfl rfl) ?_ | refine g_yd rfl rfl (yd_eql rfl rfl rfl rfl rfl (by kernel_rfl)) ?_ | refine g_yd rfl rfl (yd_neq rfl rfl rfl rfl rfl (by kernel_rfl)) ?_ | refine g_yd rfl rfl (yd_index hT rfl rfl rfl sI rfl) ?_ | refine g_yd rfl rfl (yd_slice_nil hT rfl rfl rfl rfl) ?_ | refine g_yd rfl rfl (yd_build_arr hT rfl rfl rfl rfl rfl rfl) ?_ | (refine g_mv rfl ?_; first | (refine mv_box rfl rfl rfl rfl ?_; intro _) | (refine mv_alloc rfl hT rfl rfl ?_; intro _) | refine mv_store hT rfl rfl rfl rfl rfl rfl sO rfl ?_ | (refine mv_buildSlice rfl hT rfl rfl rfl rfl rfl rfl rfl rfl ?_; intro _)) | refine g_yd rfl rfl (Ys.yd (ys_str_eql hT rfl rfl rfl rfl)) ?_ | refine g_yd rfl rfl (Ys.yd (ys_str_neq hT rfl rfl rfl rfl)) ?_) | ((first | refine g_split rfl rfl tE (fun _ => ?_) (fun _ => ?_) | refine gk_cond rfl rfl tE (fun _ => ?_) (fun _ => ?_)) <;> (try first | (exfalso; omega; done) | (rename_i hx; exact absurd rfl hx) | (rename_i hx; cases hx; done)))))
    all_goals refine gk_ret hT rfl rfl (.cell (cs := [.int .i64 0, .int .i64 0, .int .i64 0, .int .u64 0, .slice none 0 0, .slice none 0 0, .slice none 0 0, .slice none 0 0, .slice none 0 0]) (Tg := 29) rfl mE rfl rfl (.tmp rfl (.tmp rfl .nil))) (fun w' hk => ?_)
    all_goals exact RetS.mk (CatD.z, 0, 10) ⟨z_ok, rfl⟩ rfl hk (.cons rs_z .nil)
  · by_cases h8 : 7 < V.length ∨ 65534 < nv
    · rw [cre_many hm h8]
      dsimp only [CatD.val]
      refine g_enter0 T [] [] [catF (⟨nv, ng, nb, fl, ⟨vA, vm, vc⟩, V, ⟨gA, gm, gc⟩, G, ⟨bA, bm, bc⟩, B, ⟨kA, km, kd⟩, K, ⟨tA, tm, tc⟩, M⟩ : CatD)] Try.func8 rfl Try.ntmps8 rfl (Rds.cons h .nil).kn ?_
      (repeat' (first | (first | refine g_nil ?_ | refine g_pure true hT rfl rfl rfl sI ?_ | refine g_skip rfl rfl ?_ | refine g_skip0 rfl rfl ?_ | refine gk_region rfl ?_ | refine gk_cond_t rfl rfl ?_ | refine gk_cond_f rfl rfl ?_ | refine g_yd rfl rfl (yd_load_blk hT rfl rfl mE rfl rfl) ?_ | refine g_yd rfl rfl (yd_load_row hT rfl rfl mE rfl rfl) ?_ | refine g_yd rfl rfl (yd_load_row0 hT rfl rfl mE rfl rfl) ?_ | refine g_yd rfl rfl (yd_eql rfl rfl rfl rfl rfl (by kernel_rfl)) ?_ | refine g_yd rfl rfl (yd_neq rfl rfl rfl rfl rfl (by kernel_rfl)) ?_ | refine g_yd rfl rfl (yd_index hT rfl rfl rfl sI rfl) ?_ | refine g_yd rfl rfl (yd_slice_nil hT rfl rfl rfl rfl) ?_ | refine g_yd rfl rfl (yd_build_arr hT rfl rfl rfl rfl rfl rfl) ?_ | (refine g_mv rfl ?_; first | (refine mv_box rfl rfl rfl rfl ?_; intro _) | (refine mv_alloc rfl hT rfl rfl ?_; intro _) | refine mv_store hT rfl rfl rfl rfl rfl rfl sO rfl ?_ | (refine mv_buildSlice rfl hT rfl rfl rfl rfl rfl rfl rfl rfl ?_; intro _)) | refine g_yd rfl rfl (Ys.yd (ys_str_eql hT rfl rfl rfl rfl)) ?_ | refine g_yd rfl rfl (Ys.yd (ys_str_neq hT rfl rfl rfl rfl)) ?_) | ((first | refine g_split rfl rfl tE (fun _ => ?_) (fun _ => ?_) | refine gk_cond rfl rfl tE (fun _ => ?_) (fun _ => ?_)) <;> (try first | (exfalso; omega; done) | (rename_i hx; exact absurd rfl hx) | (rename_i hx; cases hx; done)))))
      all_goals refine gk_ret hT rfl rfl (.cell (cs := [.int .i64 0, .int .i64 0, .int .i64 0, .int .u64 0, .slice none 0 0, .slice none 0 0, .slice none 0 0, .slice none 0 0, .slice none 0 0]) (Tg := 29) rfl mE rfl rfl (.tmp rfl (.tmp rfl .nil))) (fun w' hk => ?_)
      all_goals exact RetS.mk (CatD.z, 0, 32) ⟨z_ok, rfl⟩ rfl hk (.cons rs_z .nil)
    · rw [cre_new hm h8]
      dsimp only [CatD.val]
      refine g_enter0 T [] [] [catF (⟨nv, ng, nb, fl, ⟨vA, vm, vc⟩, V, ⟨gA, gm, gc⟩, G, ⟨bA, bm, bc⟩, B, ⟨kA, km, kd⟩, K, ⟨tA, tm, tc⟩, M⟩ : CatD)] Try.func8 rfl Try.ntmps8 rfl (Rds.cons h .nil).kn ?_
      refine gk_der [catF (⟨nv, ng, nb, fl, ⟨vA, vm, vc⟩, V, ⟨gA, gm, gc⟩, G, ⟨bA, bm, bc⟩, B, ⟨kA, km, kd⟩, K, ⟨tA, tm, tc⟩, M⟩ : CatD)] (φ := sl vA 3 VE V) d_v sS ?_
      (repeat' (first | (first | refine g_nil ?_ | refine g_pure true hT rfl rfl rfl sI ?_ | refine g_skip rfl rfl ?_ | refine g_skip0 rfl rfl ?_ | refine gk_region rfl ?_ | refine gk_cond_t rfl rfl ?_ | refine gk_cond_f rfl rfl ?_ | refine g_yd rfl rfl (yd_load_blk hT rfl rfl mE rfl rfl) ?_ | refine g_yd rfl rfl (yd_load_row hT rfl rfl mE rfl rfl) ?_ | refine g_yd rfl rfl (yd_load_row0 hT rfl rfl mE rfl rfl) ?_ | refine g_yd rfl rfl (yd_eql rfl rfl rfl rfl rfl (by kernel_rfl)) ?_ | refine g_yd rfl rfl (yd_neq rfl rfl rfl rfl rfl (by kernel_rfl)) ?_ | refine g_yd rfl rfl (yd_index hT rfl rfl rfl sI rfl) ?_ | refine g_yd rfl rfl (yd_slice_nil hT rfl rfl rfl rfl) ?_ | refine g_yd rfl rfl (yd_build_arr hT rfl rfl rfl rfl rfl rfl) ?_ | (refine g_mv rfl ?_; first | (refine mv_box rfl rfl rfl rfl ?_; intro _) | (refine mv_alloc rfl hT rfl rfl ?_; intro _) | refine mv_store hT rfl rfl rfl rfl rfl rfl sO rfl ?_ | (refine mv_buildSlice rfl hT rfl rfl rfl rfl rfl rfl rfl rfl ?_; intro _)) | refine g_yd rfl rfl (Ys.yd (ys_str_eql hT rfl rfl rfl rfl)) ?_ | refine g_yd rfl rfl (Ys.yd (ys_str_neq hT rfl rfl rfl rfl)) ?_) | ((first | refine g_split rfl rfl tE (fun _ => ?_) (fun _ => ?_) | refine gk_cond rfl rfl tE (fun _ => ?_) (fun _ => ?_)) <;> (try first | (exfalso; omega; done) | (rename_i hx; exact absurd rfl hx) | (rename_i hx; cases hx; done)))))
      rename_i g3 g6 _ _ _ _ g9 g10
      refine gk_any [0] (Cut _ (fun v : Value => [(3, .pointer (some ⟨g3, 0, none⟩)), (6, .pointer (some ⟨g6, 0, none⟩)), (9, .int .i64 (nv + 1))]) (fun v => [own 0 60 3 v VE (V ++ [(⟨nv + 1, q, ⟨some ⟨g9, 0, none⟩, 1, 1⟩, [⟨q, m⟩]⟩ : VolD)]), blk g3 [.int .i64 (nv + 1), .int .i64 ng, .int .i64 nb, .int .u64 fl, v, .slice gA gm gc, .slice bA bm bc, .slice kA km kd, .slice tA tm tc] 29, blk g6 [.int .i64 0, .int .i64 0, .int .i64 0, .int .u64 0, .slice none 0 0, .slice none 0 0, .slice none 0 0, .slice none 0 0, .slice none 0 0] 29, blk g9 [.int .u64 q, .int .u64 m] 66]) (fun _ => [catF (⟨nv, ng, nb, fl, ⟨vA, vm, vc⟩, V, ⟨gA, gm, gc⟩, G, ⟨bA, bm, bc⟩, B, ⟨kA, km, kd⟩, K, ⟨tA, tm, tc⟩, M⟩ : CatD)])) rfl rfl (by kernel_rfl) ?_ (cut_k fun v => ?_)
      · skip
        refine gb_take 1 rfl (by decide +kernel) rfl rfl (ys_ev (nw := true) hT rfl sI) sF ?_
        refine gb_take 4 rfl (by decide +kernel) rfl rfl (by first | exact ys_blk hT rfl rfl mE rfl rfl | exact ys_row hT rfl rfl mE rfl rfl | exact ys_row0 hT rfl rfl mE rfl rfl) sF ?_
        refine gb_all (by decide +kernel) ?_
        refine gball_yes rfl rfl ?_ ?_
        · refine mv_empty 3 VE rfl hT rfl rfl rfl rfl rfl (fun g => ?_)
          refine ⟨sF, ?_⟩
          refine gb_all (by decide +kernel) ?_
          refine gball_not (by decide +kernel) ?_
          refine gball_not (by decide +kernel) ?_
          refine gball_yes rfl rfl ?_ ?_
          · refine mv_yd rfl (yd_load_blk hT rfl rfl mE rfl rfl) ?_
            refine ⟨sF, ?_⟩
            refine gb_all (by decide +kernel) ?_
            refine gball_not (by decide +kernel) ?_
            refine gball_not (by decide +kernel) ?_
            refine gball_not (by decide +kernel) ?_
            refine gball_yes rfl rfl ?_ ?_
            · refine mv_append (L := []) rfl V rfl rfl rfl rfl elt_V (by intro _; first | ((repeat (first | with_reducible exact Upd.here _ | with_reducible apply Upd.there)); done) | ((repeat (first | exact Upd.here _ | apply Upd.there)); done) | fail) (src_R mE) hn oneV (by simp only [maxLen, List.length_cons, List.length_nil]; omega) (by simp only [List.length_cons, List.length_nil]; omega) (Nat.zero_le _) (fun v1 => ?_)
              refine ⟨sF, ?_⟩
              refine gb_only 5 (by decide +kernel) rfl rfl ?_
              (refine mv_buildSlice (len := 1) rfl hT rfl rfl rfl rfl rfl rfl rfl rfl ?_; intro g7)
              refine ⟨sF, ?_⟩
              refine gb_only 6 (by decide +kernel) rfl rfl ?_
              refine mv_append (L := [] ++ V) rfl [(⟨nv + 1, q, ⟨some ⟨g9, 0, none⟩, 1, 1⟩, [⟨q, m⟩]⟩ : VolD)] rfl rfl rfl rfl elt_V (by intro _; first | ((repeat (first | with_reducible exact Upd.here _ | with_reducible apply Upd.there)); done) | ((repeat (first | exact Upd.here _ | apply Upd.there)); done) | fail) (src_blk mE rfl) rfl oneV (by simp only [maxLen, List.length_cons, List.length_nil, List.nil_append]; omega) (by simp only [List.length_cons, List.length_nil, List.nil_append]; omega) (Nat.zero_le _) (fun v2 => ?_)
              refine ⟨sF, ?_⟩
              (rw [List.nil_append]; refine gb_ownv v2 mE (fun A2 c2 hv2 _ _ _ => ?_); subst hv2)
              refine gb_take 7 rfl (by decide +kernel) rfl rfl (ys_ev (nw := true) hT rfl sI) sF ?_
              refine gb_only 8 (by decide +kernel) rfl rfl ?_
              first | (refine mv_box rfl rfl rfl rfl ?_; intro _) | (refine mv_alloc rfl hT rfl rfl ?_; intro _) | refine mv_store hT rfl rfl rfl rfl rfl rfl sO rfl ?_ | (refine mv_buildSlice rfl hT rfl rfl rfl rfl rfl rfl rfl rfl ?_; intro _)
              refine ⟨sF, ?_⟩
              refine gb_nil (by decide +kernel) ?_
              exact ⟨_, (by repeat (first | exact trivial | refine ⟨rfl, ?_⟩)), sA, sS⟩
            refine gball_not (by decide +kernel) ?_
            refine gball_yes rfl rfl ?_ ?_
            · (refine mv_buildSlice (len := 1) rfl hT rfl rfl rfl rfl rfl rfl rfl rfl ?_; intro g7)
              refine ⟨sF, ?_⟩
              refine gb_only 3 (by decide +kernel) rfl rfl ?_
              refine mv_append (L := []) rfl V rfl rfl rfl rfl elt_V (by intro _; first | ((repeat (first | with_reducible exact Upd.here _ | with_reducible apply Upd.there)); done) | ((repeat (first | exact Upd.here _ | apply Upd.there)); done) | fail) (src_R mE) hn oneV (by simp only [maxLen, List.length_cons, List.length_nil]; omega) (by simp only [List.length_cons, List.length_nil]; omega) (Nat.zero_le _) (fun v1 => ?_)
              refine ⟨sF, ?_⟩
              refine gb_only 6 (by decide +kernel) rfl rfl ?_
              refine mv_append (L := [] ++ V) rfl [(⟨nv + 1, q, ⟨some ⟨g9, 0, none⟩, 1, 1⟩, [⟨q, m⟩]⟩ : VolD)] rfl rfl rfl rfl elt_V (by intro _; first | ((repeat (first | with_reducible exact Upd.here _ | with_reducible apply Upd.there)); done) | ((repeat (first | exact Upd.here _ | apply Upd.there)); done) | fail) (src_blk mE rfl) rfl oneV (by simp only [maxLen, List.length_cons, List.length_nil, List.nil_append]; omega) (by simp only [List.length_cons, List.length_nil, List.nil_append]; omega) (Nat.zero_le _) (fun v2 => ?_)
              refine ⟨sF, ?_⟩
              (rw [List.nil_append]; refine gb_ownv v2 mE (fun A2 c2 hv2 _ _ _ => ?_); subst hv2)
              refine gb_take 7 rfl (by decide +kernel) rfl rfl (ys_ev (nw := true) hT rfl sI) sF ?_
              refine gb_only 8 (by decide +kernel) rfl rfl ?_
              first | (refine mv_box rfl rfl rfl rfl ?_; intro _) | (refine mv_alloc rfl hT rfl rfl ?_; intro _) | refine mv_store hT rfl rfl rfl rfl rfl rfl sO rfl ?_ | (refine mv_buildSlice rfl hT rfl rfl rfl rfl rfl rfl rfl rfl ?_; intro _)
              refine ⟨sF, ?_⟩
              refine gb_nil (by decide +kernel) ?_
              exact ⟨_, (by repeat (first | exact trivial | refine ⟨rfl, ?_⟩)), sA, sS⟩
            refine gball_not (by decide +kernel) ?_
            refine gball_not (by decide +kernel) ?_
            refine gball_not (by decide +kernel) ?_
            exact gball_end (by decide +kernel)
          refine gball_not (by decide +kernel) ?_
          refine gball_not (by decide +kernel) ?_
          refine gball_yes rfl rfl ?_ ?_
          · (refine mv_buildSlice (len := 1) rfl hT rfl rfl rfl rfl rfl rfl rfl rfl ?_; intro g7)
            refine ⟨sF, ?_⟩
            refine gb_only 2 (by decide +kernel) rfl rfl ?_
            refine mv_yd rfl (yd_load_blk hT rfl rfl mE rfl rfl) ?_
            refine ⟨sF, ?_⟩
            refine gb_only 3 (by decide +kernel) rfl rfl ?_
            refine mv_append (L := []) rfl V rfl rfl rfl rfl elt_V (by intro _; first | ((repeat (first | with_reducible exact Upd.here _ | with_reducible apply Upd.there)); done) | ((repeat (first | exact Upd.here _ | apply Upd.there)); done) | fail) (src_R mE) hn oneV (by simp only [maxLen, List.length_cons, List.length_nil]; omega) (by simp only [List.length_cons, List.length_nil]; omega) (Nat.zero_le _) (fun v1 => ?_)
            refine ⟨sF, ?_⟩
            refine gb_only 6 (by decide +kernel) rfl rfl ?_
            refine mv_append (L := [] ++ V) rfl [(⟨nv + 1, q, ⟨some ⟨g9, 0, none⟩, 1, 1⟩, [⟨q, m⟩]⟩ : VolD)] rfl rfl rfl rfl elt_V (by intro _; first | ((repeat (first | with_reducible exact Upd.here _ | with_reducible apply Upd.there)); done) | ((repeat (first | exact Upd.here _ | apply Upd.there)); done) | fail) (src_blk mE rfl) rfl oneV (by simp only [maxLen, List.length_cons, List.length_nil, List.nil_append]; omega) (by simp only [List.length_cons, List.length_nil, List.nil_append]; omega) (Nat.zero_le _) (fun v2 => ?_)
            refine ⟨sF, ?_⟩
            (rw [List.nil_append]; refine gb_ownv v2 mE (fun A2 c2 hv2 _ _ _ => ?_); subst hv2)
            refine gb_take 7 rfl (by decide +kernel) rfl rfl (ys_ev (nw := true) hT rfl sI) sF ?_
            refine gb_only 8 (by decide +kernel) rfl rfl ?_
            first | (refine mv_box rfl rfl rfl rfl ?_; intro _) | (refine mv_alloc rfl hT rfl rfl ?_; intro _) | refine mv_store hT rfl rfl rfl rfl rfl rfl sO rfl ?_ | (refine mv_buildSlice rfl hT rfl rfl rfl rfl rfl rfl rfl rfl ?_; intro _)
            refine ⟨sF, ?_⟩
            refine gb_nil (by decide +kernel) ?_
            exact ⟨_, (by repeat (first | exact trivial | refine ⟨rfl, ?_⟩)), sA, sS⟩
          refine gball_not (by decide +kernel) ?_
          refine gball_not (by decide +kernel) ?_
          refine gball_not (by decide +kernel) ?_
          exact gball_end (by decide +kernel)
        refine gball_not (by decide +kernel) ?_
        refine gball_yes rfl rfl ?_ ?_
        · refine mv_yd rfl (yd_load_blk hT rfl rfl mE rfl rfl) ?_
          refine ⟨sF, ?_⟩
          refine gb_all (by decide +kernel) ?_
          refine gball_yes rfl rfl ?_ ?_
          · refine mv_empty 3 VE rfl hT rfl rfl rfl rfl rfl (fun g => ?_)
            refine ⟨sF, ?_⟩
            refine gb_all (by decide +kernel) ?_
            refine gball_not (by decide +kernel) ?_
            refine gball_not (by decide +kernel) ?_
            refine gball_not (by decide +kernel) ?_
            refine gball_yes rfl rfl ?_ ?_
            · refine mv_append (L := []) rfl V rfl rfl rfl rfl elt_V (by intro _; first | ((repeat (first | with_reducible exact Upd.here _ | with_reducible apply Upd.there)); done) | ((repeat (first | exact Upd.here _ | apply Upd.there)); done) | fail) (src_R mE) hn oneV (by simp only [maxLen, List.length_cons, List.length_nil]; omega) (by simp only [List.length_cons, List.length_nil]; omega) (Nat.zero_le _) (fun v1 => ?_)
              refine ⟨sF, ?_⟩
              refine gb_only 5 (by decide +kernel) rfl rfl ?_
              (refine mv_buildSlice (len := 1) rfl hT rfl rfl rfl rfl rfl rfl rfl rfl ?_; intro g7)
              refine ⟨sF, ?_⟩
              refine gb_only 6 (by decide +kernel) rfl rfl ?_
              refine mv_append (L := [] ++ V) rfl [(⟨nv + 1, q, ⟨some ⟨g9, 0, none⟩, 1, 1⟩, [⟨q, m⟩]⟩ : VolD)] rfl rfl rfl rfl elt_V (by intro _; first | ((repeat (first | with_reducible exact Upd.here _ | with_reducible apply Upd.there)); done) | ((repeat (first | exact Upd.here _ | apply Upd.there)); done) | fail) (src_blk mE rfl) rfl oneV (by simp only [maxLen, List.length_cons, List.length_nil, List.nil_append]; omega) (by simp only [List.length_cons, List.length_nil, List.nil_append]; omega) (Nat.zero_le _) (fun v2 => ?_)
              refine ⟨sF, ?_⟩
              (rw [List.nil_append]; refine gb_ownv v2 mE (fun A2 c2 hv2 _ _ _ => ?_); subst hv2)
              refine gb_take 7 rfl (by decide +kernel) rfl rfl (ys_ev (nw := true) hT rfl sI) sF ?_
              refine gb_only 8 (by decide +kernel) rfl rfl ?_
              first | (refine mv_box rfl rfl rfl rfl ?_; intro _) | (refine mv_alloc rfl hT rfl rfl ?_; intro _) | refine mv_store hT rfl rfl rfl rfl rfl rfl sO rfl ?_ | (refine mv_buildSlice rfl hT rfl rfl rfl rfl rfl rfl rfl rfl ?_; intro _)
              refine ⟨sF, ?_⟩
              refine gb_nil (by decide +kernel) ?_
              exact ⟨_, (by repeat (first | exact trivial | refine ⟨rfl, ?_⟩)), sA, sS⟩
            refine gball_not (by decide +kernel) ?_
            refine gball_yes rfl rfl ?_ ?_
            · (refine mv_buildSlice (len := 1) rfl hT rfl rfl rfl rfl rfl rfl rfl rfl ?_; intro g7)
              refine ⟨sF, ?_⟩
              refine gb_only 3 (by decide +kernel) rfl rfl ?_
              refine mv_append (L := []) rfl V rfl rfl rfl rfl elt_V (by intro _; first | ((repeat (first | with_reducible exact Upd.here _ | with_reducible apply Upd.there)); done) | ((repeat (first | exact Upd.here _ | apply Upd.there)); done) | fail) (src_R mE) hn oneV (by simp only [maxLen, List.length_cons, List.length_nil]; omega) (by simp only [List.length_cons, List.length_nil]; omega) (Nat.zero_le _) (fun v1 => ?_)
              refine ⟨sF, ?_⟩
              refine gb_only 6 (by decide +kernel) rfl rfl ?_
              refine mv_append (L := [] ++ V) rfl [(⟨nv + 1, q, ⟨some ⟨g9, 0, none⟩, 1, 1⟩, [⟨q, m⟩]⟩ : VolD)] rfl rfl rfl rfl elt_V (by intro _; first | ((repeat (first | with_reducible exact Upd.here _ | with_reducible apply Upd.there)); done) | ((repeat (first | exact Upd.here _ | apply Upd.there)); done) | fail) (src_blk mE rfl) rfl oneV (by simp only [maxLen, List.length_cons, List.length_nil, List.nil_append]; omega) (by simp only [List.length_cons, List.length_nil, List.nil_append]; omega) (Nat.zero_le _) (fun v2 => ?_)
              refine ⟨sF, ?_⟩
              (rw [List.nil_append]; refine gb_ownv v2 mE (fun A2 c2 hv2 _ _ _ => ?_); subst hv2)
              refine gb_take 7 rfl (by decide +kernel) rfl rfl (ys_ev (nw := true) hT rfl sI) sF ?_
              refine gb_only 8 (by decide +kernel) rfl rfl ?_
              first | (refine mv_box rfl rfl rfl rfl ?_; intro _) | (refine mv_alloc rfl hT rfl rfl ?_; intro _) | refine mv_store hT rfl rfl rfl rfl rfl rfl sO rfl ?_ | (refine mv_buildSlice rfl hT rfl rfl rfl rfl rfl rfl rfl rfl ?_; intro _)
              refine ⟨sF, ?_⟩
              refine gb_nil (by decide +kernel) ?_
              exact ⟨_, (by repeat (first | exact trivial | refine ⟨rfl, ?_⟩)), sA, sS⟩
            refine gball_not (by decide +kernel) ?_
            refine gball_not (by decide +kernel) ?_
            refine gball_not (by decide +kernel) ?_
            exact gball_end (by decide +kernel)
          refine gball_not (by decide +kernel) ?_
          refine gball_not (by decide +kernel) ?_
          refine gball_not (by decide +kernel) ?_
          refine gball_not (by decide +kernel) ?_
          refine gball_yes rfl rfl ?_ ?_
          · (refine mv_buildSlice (len := 1) rfl hT rfl rfl rfl rfl rfl rfl rfl rfl ?_; intro g7)
            refine ⟨sF, ?_⟩
            refine gb_only 0 (by decide +kernel) rfl rfl ?_
            refine mv_empty 3 VE rfl hT rfl rfl rfl rfl rfl (fun g => ?_)
            refine ⟨sF, ?_⟩
            refine gb_only 3 (by decide +kernel) rfl rfl ?_
            refine mv_append (L := []) rfl V rfl rfl rfl rfl elt_V (by intro _; first | ((repeat (first | with_reducible exact Upd.here _ | with_reducible apply Upd.there)); done) | ((repeat (first | exact Upd.here _ | apply Upd.there)); done) | fail) (src_R mE) hn oneV (by simp only [maxLen, List.length_cons, List.length_nil]; omega) (by simp only [List.length_cons, List.length_nil]; omega) (Nat.zero_le _) (fun v1 => ?_)
            refine ⟨sF, ?_⟩
            refine gb_only 6 (by decide +kernel) rfl rfl ?_
            refine mv_append (L := [] ++ V) rfl [(⟨nv + 1, q, ⟨some ⟨g9, 0, none⟩, 1, 1⟩, [⟨q, m⟩]⟩ : VolD)] rfl rfl rfl rfl elt_V (by intro _; first | ((repeat (first | with_reducible exact Upd.here _ | with_reducible apply Upd.there)); done) | ((repeat (first | exact Upd.here _ | apply Upd.there)); done) | fail) (src_blk mE rfl) rfl oneV (by simp only [maxLen, List.length_cons, List.length_nil, List.nil_append]; omega) (by simp only [List.length_cons, List.length_nil, List.nil_append]; omega) (Nat.zero_le _) (fun v2 => ?_)
            refine ⟨sF, ?_⟩
            (rw [List.nil_append]; refine gb_ownv v2 mE (fun A2 c2 hv2 _ _ _ => ?_); subst hv2)
            refine gb_take 7 rfl (by decide +kernel) rfl rfl (ys_ev (nw := true) hT rfl sI) sF ?_
            refine gb_only 8 (by decide +kernel) rfl rfl ?_
            first | (refine mv_box rfl rfl rfl rfl ?_; intro _) | (refine mv_alloc rfl hT rfl rfl ?_; intro _) | refine mv_store hT rfl rfl rfl rfl rfl rfl sO rfl ?_ | (refine mv_buildSlice rfl hT rfl rfl rfl rfl rfl rfl rfl rfl ?_; intro _)
            refine ⟨sF, ?_⟩
            refine gb_nil (by decide +kernel) ?_
            exact ⟨_, (by repeat (first | exact trivial | refine ⟨rfl, ?_⟩)), sA, sS⟩
          refine gball_not (by decide +kernel) ?_
          refine gball_not (by decide +kernel) ?_
          refine gball_not (by decide +kernel) ?_
          exact gball_end (by decide +kernel)
        refine gball_not (by decide +kernel) ?_
        refine gball_not (by decide +kernel) ?_
        refine gball_yes rfl rfl ?_ ?_
        · (refine mv_buildSlice (len := 1) rfl hT rfl rfl rfl rfl rfl rfl rfl rfl ?_; intro g7)
          refine ⟨sF, ?_⟩
          refine gb_all (by decide +kernel) ?_
          refine gball_yes rfl rfl ?_ ?_
          · refine mv_empty 3 VE rfl hT rfl rfl rfl rfl rfl (fun g => ?_)
            refine ⟨sF, ?_⟩
            refine gb_only 2 (by decide +kernel) rfl rfl ?_
            refine mv_yd rfl (yd_load_blk hT rfl rfl mE rfl rfl) ?_
            refine ⟨sF, ?_⟩
            refine gb_only 3 (by decide +kernel) rfl rfl ?_
            refine mv_append (L := []) rfl V rfl rfl rfl rfl elt_V (by intro _; first | ((repeat (first | with_reducible exact Upd.here _ | with_reducible apply Upd.there)); done) | ((repeat (first | exact Upd.here _ | apply Upd.there)); done) | fail) (src_R mE) hn oneV (by simp only [maxLen, List.length_cons, List.length_nil]; omega) (by simp only [List.length_cons, List.length_nil]; omega) (Nat.zero_le _) (fun v1 => ?_)
            refine ⟨sF, ?_⟩
            refine gb_only 6 (by decide +kernel) rfl rfl ?_
            refine mv_append (L := [] ++ V) rfl [(⟨nv + 1, q, ⟨some ⟨g9, 0, none⟩, 1, 1⟩, [⟨q, m⟩]⟩ : VolD)] rfl rfl rfl rfl elt_V (by intro _; first | ((repeat (first | with_reducible exact Upd.here _ | with_reducible apply Upd.there)); done) | ((repeat (first | exact Upd.here _ | apply Upd.there)); done) | fail) (src_blk mE rfl) rfl oneV (by simp only [maxLen, List.length_cons, List.length_nil, List.nil_append]; omega) (by simp only [List.length_cons, List.length_nil, List.nil_append]; omega) (Nat.zero_le _) (fun v2 => ?_)
            refine ⟨sF, ?_⟩
            (rw [List.nil_append]; refine gb_ownv v2 mE (fun A2 c2 hv2 _ _ _ => ?_); subst hv2)
            refine gb_take 7 rfl (by decide +kernel) rfl rfl (ys_ev (nw := true) hT rfl sI) sF ?_
            refine gb_only 8 (by decide +kernel) rfl rfl ?_
            first | (refine mv_box rfl rfl rfl rfl ?_; intro _) | (refine mv_alloc rfl hT rfl rfl ?_; intro _) | refine mv_store hT rfl rfl rfl rfl rfl rfl sO rfl ?_ | (refine mv_buildSlice rfl hT rfl rfl rfl rfl rfl rfl rfl rfl ?_; intro _)
            refine ⟨sF, ?_⟩
            refine gb_nil (by decide +kernel) ?_
            exact ⟨_, (by repeat (first | exact trivial | refine ⟨rfl, ?_⟩)), sA, sS⟩
          refine gball_not (by decide +kernel) ?_
          refine gball_yes rfl rfl ?_ ?_
          · refine mv_yd rfl (yd_load_blk hT rfl rfl mE rfl rfl) ?_
            refine ⟨sF, ?_⟩
            refine gb_only 0 (by decide +kernel) rfl rfl ?_
            refine mv_empty 3 VE rfl hT rfl rfl rfl rfl rfl (fun g => ?_)
            refine ⟨sF, ?_⟩
            refine gb_only 3 (by decide +kernel) rfl rfl ?_
            refine mv_append (L := []) rfl V rfl rfl rfl rfl elt_V (by intro _; first | ((repeat (first | with_reducible exact Upd.here _ | with_reducible apply Upd.there)); done) | ((repeat (first | exact Upd.here _ | apply Upd.there)); done) | fail) (src_R mE) hn oneV (by simp only [maxLen, List.length_cons, List.length_nil]; omega) (by simp only [List.length_cons, List.length_nil]; omega) (Nat.zero_le _) (fun v1 => ?_)
            refine ⟨sF, ?_⟩
            refine gb_only 6 (by decide +kernel) rfl rfl ?_
            refine mv_append (L := [] ++ V) rfl [(⟨nv + 1, q, ⟨some ⟨g9, 0, none⟩, 1, 1⟩, [⟨q, m⟩]⟩ : VolD)] rfl rfl rfl rfl elt_V (by intro _; first | ((repeat (first | with_reducible exact Upd.here _ | with_reducible apply Upd.there)); done) | ((repeat (first | exact Upd.here _ | apply Upd.there)); done) | fail) (src_blk mE rfl) rfl oneV (by simp only [maxLen, List.length_cons, List.length_nil, List.nil_append]; omega) (by simp only [List.length_cons, List.length_nil, List.nil_append]; omega) (Nat.zero_le _) (fun v2 => ?_)
            refine ⟨sF, ?_⟩
            (rw [List.nil_append]; refine gb_ownv v2 mE (fun A2 c2 hv2 _ _ _ => ?_); subst hv2)
            refine gb_take 7 rfl (by decide +kernel) rfl rfl (ys_ev (nw := true) hT rfl sI) sF ?_
            refine gb_only 8 (by decide +kernel) rfl rfl ?_
            first | (refine mv_box rfl rfl rfl rfl ?_; intro _) | (refine mv_alloc rfl hT rfl rfl ?_; intro _) | refine mv_store hT rfl rfl rfl rfl rfl rfl sO rfl ?_ | (refine mv_buildSlice rfl hT rfl rfl rfl rfl rfl rfl rfl rfl ?_; intro _)
            refine ⟨sF, ?_⟩
            refine gb_nil (by decide +kernel) ?_
            exact ⟨_, (by repeat (first | exact trivial | refine ⟨rfl, ?_⟩)), sA, sS⟩
          refine gball_not (by decide +kernel) ?_
          refine gball_not (by decide +kernel) ?_
          refine gball_not (by decide +kernel) ?_
          refine gball_not (by decide +kernel) ?_
          refine gball_not (by decide +kernel) ?_
          refine gball_not (by decide +kernel) ?_
          exact gball_end (by decide +kernel)
        refine gball_not (by decide +kernel) ?_
        refine gball_not (by decide +kernel) ?_
        refine gball_not (by decide +kernel) ?_
        exact gball_end (by decide +kernel)
      · refine gk_freeze _ (by intro _; first | ((repeat (first | with_reducible exact Upd.here _ | with_reducible apply Upd.there)); done) | ((repeat (first | exact Upd.here _ | apply Upd.there)); done) | fail) (fun A2 c2 hA2 hA21 hA22 hA23 => ?_); subst hA2
        (repeat (first | refine g_nil ?_ | refine g_pure true hT rfl rfl rfl sI ?_ | refine g_skip rfl rfl ?_ | refine g_skip0 rfl rfl ?_ | refine gk_region rfl ?_ | refine gk_cond_t rfl rfl ?_ | refine gk_cond_f rfl rfl ?_ | refine g_yd rfl rfl (yd_load_blk hT rfl rfl mE rfl rfl) ?_ | refine g_yd rfl rfl (yd_load_row hT rfl rfl mE rfl rfl) ?_ | refine g_yd rfl rfl (yd_load_row0 hT rfl rfl mE rfl rfl) ?_ | refine g_yd rfl rfl (yd_eql rfl rfl rfl rfl rfl (by kernel_rfl)) ?_ | refine g_yd rfl rfl (yd_neq rfl rfl rfl rfl rfl (by kernel_rfl)) ?_ | refine g_yd rfl rfl (yd_index hT rfl rfl rfl sI rfl) ?_ | refine g_yd rfl rfl (yd_slice_nil hT rfl rfl rfl rfl) ?_ | refine g_yd rfl rfl (yd_build_arr hT rfl rfl rfl rfl rfl rfl) ?_ | (refine g_mv rfl ?_; first | (refine mv_box rfl rfl rfl rfl ?_; intro _) | (refine mv_alloc rfl hT rfl rfl ?_; intro _) | refine mv_store hT rfl rfl rfl rfl rfl rfl sO rfl ?_ | (refine mv_buildSlice rfl hT rfl rfl rfl rfl rfl rfl rfl rfl ?_; intro _)) | refine g_yd rfl rfl (Ys.yd (ys_str_eql hT rfl rfl rfl rfl)) ?_ | refine g_yd rfl rfl (Ys.yd (ys_str_neq hT rfl rfl rfl rfl)) ?_))
        refine gk_ret hT rfl rfl (.cell (cs := [.int .i64 (nv + 1), .int .i64 ng, .int .i64 nb, .int .u64 fl, .slice A2 (V ++ [(⟨nv + 1, q, ⟨some ⟨g9, 0, none⟩, 1, 1⟩, [⟨q, m⟩]⟩ : VolD)]).length c2, .slice gA gm gc, .slice bA bm bc, .slice kA km kd, .slice tA tm tc]) (Tg := 29) rfl mE rfl rfl (.tmp rfl (.tmp rfl .nil))) (fun w' hk => ?_)
        exact RetS.mk ((⟨nv + 1, ng, nb, fl, ⟨A2, _, c2⟩, V ++ [(⟨nv + 1, q, ⟨some ⟨g9, 0, none⟩, 1, 1⟩, [⟨q, m⟩]⟩ : VolD)], ⟨gA, gm, gc⟩, G, ⟨bA, bm, bc⟩, B, ⟨kA, km, kd⟩, K, ⟨tA, tm, tc⟩, M⟩ : CatD), nv + 1, 0) ⟨⟨⟨rfl, hA21, hA22, hA23⟩, hc.g, hc.b, hc.k, hc.t, all_snoc hc.V ok_one, hc.G, hc.B, all_snoc hc.m (fun y hy => by obtain rfl := List.mem_singleton.1 hy; show 0 ≤ m; omega), by dsimp only; omega, hc.ng, hc.nb⟩, by rw [CatD.p, List.map_append]; rfl⟩ rfl hk (.cons (catF_rs (RS1.own hk mE) (RS1.all (all_snoc (fun x hx => part_rs hk mE (Der.elem d_V hx)) (rs_lit hk (g := g9) (M := [(⟨q, m⟩ : MarkD)]) mE rfl))) (part_rs hk mE d_g) (part_rs hk mE d_G) (part_rs hk mE d_b) (part_rs hk mE d_B) (part_rs hk mE d_k) (part_rs hk mE d_t)) .nil)
end Go.Proofs.Ytbcdcjiibalnnaa.Ct

