/- A bookmark more. -/
import Derived.Test.YtbcdcjiibalnnaaGr4
import Derived.Test.YtbcdcjiibalnnaaCtL
namespace Go.Proofs.Ytbcdcjiibalnnaa.Ct
open Go.RowKit Mem Gx
set_option linter.unusedVariables false
set_option linter.unusedSimpArgs false
set_option maxRecDepth 100000
set_option maxHeartbeats 1000000
noncomputable def markP (c : CatD) (id q : Int) : CatP × Int × Int := match pos (c.G.map GrpD.id) id with
  | some i => if 7 < c.B.length ∨ 65534 < c.nb then (CatD.z.p, 0, 32) else (⟨c.nv, c.ng, c.nb + 1, c.fl, c.V.map VolD.d, c.G.map GrpD.d, c.B.map BokD.d ++ [(c.nb + 1, q, (c.G.getD i default).L)], c.K, c.T⟩, c.nb + 1, 0)
  | none => (CatD.z.p, 0, 42)
theorem mark_none {c : CatD} {id q : Int} (h : pos (c.G.map GrpD.id) id = none) : markP c id q = (CatD.z.p, 0, 42) := by unfold markP; rw [h]
theorem mark_many {c : CatD} {id q : Int} {i : Nat} (h : pos (c.G.map GrpD.id) id = some i) (h2 : 7 < c.B.length ∨ 65534 < c.nb) : markP c id q = (CatD.z.p, 0, 32) := by
  unfold markP
  rw [h]
  exact if_pos h2
theorem mark_new {c : CatD} {id q : Int} {i : Nat} {x : GrpD} (h : pos (c.G.map GrpD.id) id = some i) (hx : c.G[i]? = some x) (h2 : ¬ (7 < c.B.length ∨ 65534 < c.nb)) : markP c id q = (⟨c.nv, c.ng, c.nb + 1, c.fl, c.V.map VolD.d, c.G.map GrpD.d, c.B.map BokD.d ++ [(c.nb + 1, q, x.L)], c.K, c.T⟩, c.nb + 1, 0) := by
  have : c.G.getD i default = x := by rw [List.getD_eq_getElem?_getD, hx]; rfl
  unfold markP
  rw [h]
  simp only [this]
  exact if_neg h2
theorem mark_any (c : CatD) (id q : Int) (w : World) (hc : c.Ok) (h20 : c.B.length ≤ 20) (h30 : ∀ x, x ∈ c.G → x.L.length ≤ 30) (h : Rd1 w (catF c)) :
    Calls Try.prog 18 [c.val, .int .i64 id, .int .u64 q].toArray w (RetC3 c (markP c id q) w) := by
  obtain ⟨nv, ng, nb, fl, ⟨vA, vm, vc⟩, V, ⟨gA, gm, gc⟩, G, ⟨bA, bm, bc⟩, B, ⟨kA, km, kd⟩, K, ⟨tA, tm, tc⟩, M⟩ := c
  have hn : gm = G.length := hc.g.n
  have hnb' : bm = B.length := hc.b.n
  replace h20 : B.length ≤ 20 := h20
  replace h30 : ∀ x, x ∈ G → x.L.length ≤ 30 := h30
  have hnb : -9223372036854775808 ≤ nb ∧ nb ≤ 9223372036854775807 := hc.nb
  have hpl : ∀ w, Rd1 w (catF (⟨nv, ng, nb, fl, ⟨vA, vm, vc⟩, V, ⟨gA, gm, gc⟩, G, ⟨bA, bm, bc⟩, B, ⟨kA, km, kd⟩, K, ⟨tA, tm, tc⟩, M⟩ : CatD)) → Calls Try.prog 44 [.agg #[.int .i64 nv, .int .i64 ng, .int .i64 nb, .int .u64 fl, .slice vA vm vc, .slice gA gm gc, .slice bA bm bc, .slice kA km kd, .slice tA tm tc], .int .i64 id].toArray w fun e w' => e = .returned (.int .i64 (posV (G.map GrpD.id) id)) ∧ Below w.heap.size w w' := fun w h => placeG_any (⟨nv, ng, nb, fl, ⟨vA, vm, vc⟩, V, ⟨gA, gm, gc⟩, G, ⟨bA, bm, bc⟩, B, ⟨kA, km, kd⟩, K, ⟨tA, tm, tc⟩, M⟩ : CatD) id w hc h
  cases hp : pos (G.map GrpD.id) id with
  | none =>
    have e1 : posV (G.map GrpD.id) id = -1 := by unfold posV; rw [hp]
    rw [e1] at hpl
    rw [mark_none hp]
    dsimp only [CatD.val]
    refine g_enter0 T [] [] [catF (⟨nv, ng, nb, fl, ⟨vA, vm, vc⟩, V, ⟨gA, gm, gc⟩, G, ⟨bA, bm, bc⟩, B, ⟨kA, km, kd⟩, K, ⟨tA, tm, tc⟩, M⟩ : CatD)] Try.func18 rfl Try.ntmps18 rfl (Rds.cons h .nil).kn ?_
    (repeat' (first | (first | refine g_nil ?_ | refine g_pure true hT rfl rfl rfl sI ?_ | refine g_skip rfl rfl ?_ | refine g_skip0 rfl rfl ?_ | refine gk_region rfl ?_ | refine gk_cond_t rfl rfl ?_ | refine gk_cond_f rfl rfl ?_ | refine g_yd rfl rfl (yd_load_blk hT rfl rfl mE rfl rfl) ?_ | refine g_yd rfl rfl (yd_load_row hT rfl rfl mE rfl rfl) ?_ | refine g_yd rfl rfl (yd_load_row0 hT rfl rfl mE rfl rfl) ?_ | refine g_yd rfl rfl (yd_eql rfl rfl rfl rfl rfl (by kernel_rfl)) ?_ | refine g_yd rfl rfl (yd_neq rfl rfl rfl rfl rfl (by kernel_rfl)) ?_ | refine g_yd rfl rfl (yd_index hT rfl rfl rfl sI rfl) ?_ | refine g_yd rfl rfl (yd_slice_nil hT rfl rfl rfl rfl) ?_ | refine g_yd rfl rfl (yd_build_arr hT rfl rfl rfl rfl rfl rfl) ?_ | (refine g_mv rfl ?_; first | (refine mv_box rfl rfl rfl rfl ?_; intro _) | (refine mv_alloc rfl hT rfl rfl ?_; intro _) | refine mv_store hT rfl rfl rfl rfl rfl rfl sO rfl ?_ | (refine mv_buildSlice rfl hT rfl rfl rfl rfl rfl rfl rfl rfl ?_; intro _)) | refine g_yd rfl rfl (Ys.yd (ys_str_eql hT rfl rfl rfl rfl)) ?_ | refine g_yd rfl rfl (Ys.yd (ys_str_neq hT rfl rfl rfl rfl)) ?_) | (refine g_mv rfl ?_; first | refine mv_call_bel (fun w hk => hpl w (hk.rR mE)) rfl rfl rfl rfl rfl (by kernel_rfl) ?_) | ((first | refine g_split rfl rfl tE (fun _ => ?_) (fun _ => ?_) | refine gk_cond rfl rfl tE (fun _ => ?_) (fun _ => ?_)) <;> (try first | (exfalso; omega; done) | (rename_i hx; exact absurd rfl hx) | (rename_i hx; cases hx; done)))))
    refine gk_ret hT rfl rfl (.cell (cs := [.int .i64 0, .int .i64 0, .int .i64 0, .int .u64 0, .slice none 0 0, .slice none 0 0, .slice none 0 0, .slice none 0 0, .slice none 0 0]) (Tg := 29) rfl mE rfl rfl (.tmp rfl (.tmp rfl .nil))) (fun w' hk => ?_)
    exact RetS.mk (CatD.z, 0, 42) ⟨z_ok, rfl⟩ rfl hk (.cons rs_z .nil)
  | some i =>
    have e1 : posV (G.map GrpD.id) id = (i : Int) := by unfold posV; rw [hp]
    rw [e1] at hpl
    obtain ⟨x, hx, hxi, hi⟩ := pos_get hp
    have hxm := List.mem_of_getElem? hx
    have hxs : x.s.n = x.L.length := (hc.G x hxm).n
    have hxl := h30 x hxm
    by_cases h8 : 7 < B.length ∨ 65534 < nb
    · rw [mark_many hp h8]
      dsimp only [CatD.val]
      refine g_enter0 T [] [] [catF (⟨nv, ng, nb, fl, ⟨vA, vm, vc⟩, V, ⟨gA, gm, gc⟩, G, ⟨bA, bm, bc⟩, B, ⟨kA, km, kd⟩, K, ⟨tA, tm, tc⟩, M⟩ : CatD)] Try.func18 rfl Try.ntmps18 rfl (Rds.cons h .nil).kn ?_
      (repeat' (first | (first | refine g_nil ?_ | refine g_pure true hT rfl rfl rfl sI ?_ | refine g_skip rfl rfl ?_ | refine g_skip0 rfl rfl ?_ | refine gk_region rfl ?_ | refine gk_cond_t rfl rfl ?_ | refine gk_cond_f rfl rfl ?_ | refine g_yd rfl rfl (yd_load_blk hT rfl rfl mE rfl rfl) ?_ | refine g_yd rfl rfl (yd_load_row hT rfl rfl mE rfl rfl) ?_ | refine g_yd rfl rfl (yd_load_row0 hT rfl rfl mE rfl rfl) ?_ | refine g_yd rfl rfl (yd_eql rfl rfl rfl rfl rfl (by kernel_rfl)) ?_ | refine g_yd rfl rfl (yd_neq rfl rfl rfl rfl rfl (by kernel_rfl)) ?_ | refine g_yd rfl rfl (yd_index hT rfl rfl rfl sI rfl) ?_ | refine g_yd rfl rfl (yd_slice_nil hT rfl rfl rfl rfl) ?_ | refine g_yd rfl rfl (yd_build_arr hT rfl rfl rfl rfl rfl rfl) ?_ | (refine g_mv rfl ?_; first | (refine mv_box rfl rfl rfl rfl ?_; intro _) | (refine mv_alloc rfl hT rfl rfl ?_; intro _) | refine mv_store hT rfl rfl rfl rfl rfl rfl sO rfl ?_ | (refine mv_buildSlice rfl hT rfl rfl rfl rfl rfl rfl rfl rfl ?_; intro _)) | refine g_yd rfl rfl (Ys.yd (ys_str_eql hT rfl rfl rfl rfl)) ?_ | refine g_yd rfl rfl (Ys.yd (ys_str_neq hT rfl rfl rfl rfl)) ?_) | (refine g_mv rfl ?_; first | refine mv_call_bel (fun w hk => hpl w (hk.rR mE)) rfl rfl rfl rfl rfl (by kernel_rfl) ?_) | ((first | refine g_split rfl rfl tE (fun _ => ?_) (fun _ => ?_) | refine gk_cond rfl rfl tE (fun _ => ?_) (fun _ => ?_)) <;> (try first | (exfalso; omega; done) | (rename_i hx; exact absurd rfl hx) | (rename_i hx; cases hx; done)))))
      all_goals refine gk_ret hT rfl rfl (.cell (cs := [.int .i64 0, .int .i64 0, .int .i64 0, .int .u64 0, .slice none 0 0, .slice none 0 0, .slice none 0 0, .slice none 0 0, .slice none 0 0]) (Tg := 29) rfl mE rfl rfl (.tmp rfl (.tmp rfl .nil))) (fun w' hk => ?_)
      all_goals exact RetS.mk (CatD.z, 0, 32) ⟨z_ok, rfl⟩ rfl hk (.cons rs_z .nil)
    · rw [mark_new hp hx h8]
      dsimp only [CatD.val]
      refine g_enter0 T [] [] [catF (⟨nv, ng, nb, fl, ⟨vA, vm, vc⟩, V, ⟨gA, gm, gc⟩, G, ⟨bA, bm, bc⟩, B, ⟨kA, km, kd⟩, K, ⟨tA, tm, tc⟩, M⟩ : CatD)] Try.func18 rfl Try.ntmps18 rfl (Rds.cons h .nil).kn ?_
      refine gk_der [catF (⟨nv, ng, nb, fl, ⟨vA, vm, vc⟩, V, ⟨gA, gm, gc⟩, G, ⟨bA, bm, bc⟩, B, ⟨kA, km, kd⟩, K, ⟨tA, tm, tc⟩, M⟩ : CatD)] (φ := sl bA 3 BE B) d_b sS ?_
      refine gk_der [catF (⟨nv, ng, nb, fl, ⟨vA, vm, vc⟩, V, ⟨gA, gm, gc⟩, G, ⟨bA, bm, bc⟩, B, ⟨kA, km, kd⟩, K, ⟨tA, tm, tc⟩, M⟩ : CatD)] (φ := sl gA 2 GE G) d_g sS ?_
      refine gk_der [catF (⟨nv, ng, nb, fl, ⟨vA, vm, vc⟩, V, ⟨gA, gm, gc⟩, G, ⟨bA, bm, bc⟩, B, ⟨kA, km, kd⟩, K, ⟨tA, tm, tc⟩, M⟩ : CatD)] (φ := sl x.s.A 1 (IE .i64) x.L) (Der.elem (F := GrpD.f) d_G hxm) sS ?_
      refine gk_elem (enc := GE) (L := G) i mE hi (by decide) (fun b o y eA hy => ?_)
      obtain rfl : x = y := by rw [hx] at hy; exact Option.some.inj hy
      (repeat' (first | (first | refine g_nil ?_ | refine g_pure true hT rfl rfl rfl sI ?_ | refine g_skip rfl rfl ?_ | refine g_skip0 rfl rfl ?_ | refine gk_region rfl ?_ | refine gk_cond_t rfl rfl ?_ | refine gk_cond_f rfl rfl ?_ | refine g_yd rfl rfl (yd_load_blk hT rfl rfl mE rfl rfl) ?_ | refine g_yd rfl rfl (yd_load_row hT rfl rfl mE rfl rfl) ?_ | refine g_yd rfl rfl (yd_load_row0 hT rfl rfl mE rfl rfl) ?_ | refine g_yd rfl rfl (yd_eql rfl rfl rfl rfl rfl (by kernel_rfl)) ?_ | refine g_yd rfl rfl (yd_neq rfl rfl rfl rfl rfl (by kernel_rfl)) ?_ | refine g_yd rfl rfl (yd_index hT rfl rfl rfl sI rfl) ?_ | refine g_yd rfl rfl (yd_slice_nil hT rfl rfl rfl rfl) ?_ | refine g_yd rfl rfl (yd_build_arr hT rfl rfl rfl rfl rfl rfl) ?_ | (refine g_mv rfl ?_; first | (refine mv_box rfl rfl rfl rfl ?_; intro _) | (refine mv_alloc rfl hT rfl rfl ?_; intro _) | refine mv_store hT rfl rfl rfl rfl rfl rfl sO rfl ?_ | (refine mv_buildSlice rfl hT rfl rfl rfl rfl rfl rfl rfl rfl ?_; intro _)) | refine g_yd rfl rfl (Ys.yd (ys_str_eql hT rfl rfl rfl rfl)) ?_ | refine g_yd rfl rfl (Ys.yd (ys_str_neq hT rfl rfl rfl rfl)) ?_) | (refine g_mv rfl ?_; first | refine mv_call_bel (fun w hk => hpl w (hk.rR mE)) rfl rfl rfl rfl rfl (by kernel_rfl) ?_) | ((first | refine g_split rfl rfl tE (fun _ => ?_) (fun _ => ?_) | refine gk_cond rfl rfl tE (fun _ => ?_) (fun _ => ?_)) <;> (try first | (exfalso; omega; done) | (rename_i hx; exact absurd rfl hx) | (rename_i hx; cases hx; done)))))
      rename_i g3 g6 _ _ _
      refine gk_any [2] (Cut _ (fun (p : { p : Value × SlV // p.2.Ok x.L.length }) => [(3, .pointer (some ⟨g3, 0, none⟩)), (6, .pointer (some ⟨g6, 0, none⟩))]) (fun p => [own 0 51 3 p.1.1 BE (B ++ [(⟨nb + 1, q, p.1.2, x.L⟩ : BokD)]), blk g3 [.int .i64 nv, .int .i64 ng, .int .i64 (nb + 1), .int .u64 fl, .slice vA vm vc, .slice gA gm gc, p.1.1, .slice kA km kd, .slice tA tm tc] 29, blk g6 [.int .i64 0, .int .i64 0, .int .i64 0, .int .u64 0, .slice none 0 0, .slice none 0 0, .slice none 0 0, .slice none 0 0, .slice none 0 0] 29, sl p.1.2.A 1 (IE .i64) x.L]) (fun _ => [catF (⟨nv, ng, nb, fl, ⟨vA, vm, vc⟩, V, ⟨gA, gm, gc⟩, G, ⟨bA, bm, bc⟩, B, ⟨kA, km, kd⟩, K, ⟨tA, tm, tc⟩, M⟩ : CatD)])) rfl rfl (by kernel_rfl) ?_ (cut_k fun p => ?_)
      · skip
        refine gb_take 0 rfl (by decide +kernel) rfl rfl (ys_ev (nw := true) hT rfl sI) sF ?_
        refine gb_take 3 rfl (by decide +kernel) rfl rfl (ys_ev (nw := true) hT rfl sI) sF ?_
        refine gb_take 5 rfl (by decide +kernel) rfl rfl (ys_ev (nw := true) hT rfl sI) sF ?_
        refine gb_take 6 rfl (by decide +kernel) rfl rfl (ys_ev (nw := true) hT rfl sI) sF ?_
        refine gb_take 8 rfl (by decide +kernel) rfl rfl (ys_ev (nw := true) hT rfl sI) sF ?_
        refine gb_all (by decide +kernel) ?_
        refine gball_not (by decide +kernel) ?_
        refine gball_yes rfl rfl ?_ ?_
        · refine mv_yd rfl (yd_load_blk hT rfl rfl mE rfl rfl) ?_
          refine ⟨sF, ?_⟩
          refine gb_all (by decide +kernel) ?_
          refine gball_not (by decide +kernel) ?_
          refine gball_not (by decide +kernel) ?_
          refine gball_yes rfl rfl ?_ ?_
          · refine mv_call_rt (fun w hk => cloneB_own bA bm bc B w hnb' (by omega) (hk.pR (sl bA 3 BE B) mE)) rfl rfl rfl rfl rfl (by kernel_rfl) (fun _ => rfl) (fun v1 _ => ?_)
            refine ⟨sF, ?_⟩
            refine gb_all (by decide +kernel) ?_
            refine gball_not (by decide +kernel) ?_
            refine gball_not (by decide +kernel) ?_
            refine gball_not (by decide +kernel) ?_
            refine gball_not (by decide +kernel) ?_
            refine gball_yes rfl rfl ?_ ?_
            · refine mv_yd rfl (yd_load_blk hT rfl rfl mE rfl rfl) ?_
              refine ⟨sF, ?_⟩
              refine gb_only 7 (by decide +kernel) rfl rfl ?_
              refine mv_yd rfl (yd_load_blk hT rfl rfl mE rfl rfl) ?_
              refine ⟨sF, ?_⟩
              try (refine gb_say 37 (.slice (some ⟨b, o, none⟩) gm gc) rfl (by rw [eA]) ?_)
              refine gb_take 9 rfl (by decide +kernel) rfl rfl (ys_ev (nw := true) hT rfl sI) sF ?_
              refine gb_take 10 rfl (by decide +kernel) rfl rfl (ys_ev (nw := true) hT rfl sI) sF ?_
              refine gb_take 11 rfl (by decide +kernel) rfl rfl (by first | exact ys_blk hT rfl rfl mE rfl rfl | exact ys_row hT rfl rfl mE rfl rfl | exact ys_row0 hT rfl rfl mE rfl rfl) sF ?_
              refine gb_only 12 (by decide +kernel) rfl rfl ?_
              refine mv_call_rt (fun w hk => clone_I x.s.A x.s.n x.s.c x.L w hxs (by omega) (hk.pR (sl x.s.A 1 (IE .i64) x.L) mE)) rfl rfl rfl rfl rfl (by kernel_rfl) (fun _ => rfl) (fun s hs => ?_)
              refine ⟨sF, ?_⟩
              refine gb_take 13 rfl (by decide +kernel) rfl rfl (ys_ev (nw := true) hT rfl sI) sF ?_
              refine gb_only 14 (by decide +kernel) rfl rfl ?_
              (refine mv_buildSlice (len := 1) rfl hT rfl rfl rfl rfl rfl rfl rfl rfl ?_; intro g7)
              refine ⟨sF, ?_⟩
              refine gb_only 15 (by decide +kernel) rfl rfl ?_
              refine mv_append (L := B) rfl [(⟨nb + 1, q, s, x.L⟩ : BokD)] rfl rfl rfl rfl elt_B (by intro _; first | ((repeat (first | with_reducible exact Upd.here _ | with_reducible apply Upd.there)); done) | ((repeat (first | exact Upd.here _ | apply Upd.there)); done) | fail) (src_blk mE rfl) rfl oneB (by simp only [maxLen, List.length_cons, List.length_nil]; omega) (by simp only [List.length_cons, List.length_nil]; omega) (Nat.zero_le _) (fun v2 => ?_)
              refine ⟨sF, ?_⟩
              (refine gb_ownv v2 mE (fun A2 c2 hv2 _ _ _ => ?_); subst hv2)
              refine gb_take 16 rfl (by decide +kernel) rfl rfl (ys_ev (nw := true) hT rfl sI) sF ?_
              refine gb_only 17 (by decide +kernel) rfl rfl ?_
              first | (refine mv_box rfl rfl rfl rfl ?_; intro _) | (refine mv_alloc rfl hT rfl rfl ?_; intro _) | refine mv_store hT rfl rfl rfl rfl rfl rfl sO rfl ?_ | (refine mv_buildSlice rfl hT rfl rfl rfl rfl rfl rfl rfl rfl ?_; intro _)
              refine ⟨sF, ?_⟩
              refine gb_nil (by decide +kernel) ?_
              exact ⟨⟨(.slice A2 (B ++ [(⟨nb + 1, q, s, x.L⟩ : BokD)]).length c2, s), hs⟩, (by repeat (first | exact trivial | refine ⟨rfl, ?_⟩)), sA, sS⟩
            refine gball_not (by decide +kernel) ?_
            refine gball_not (by decide +kernel) ?_
            refine gball_yes rfl rfl ?_ ?_
            · refine mv_yd rfl (yd_load_blk hT rfl rfl mE rfl rfl) ?_
              refine ⟨sF, ?_⟩
              try (refine gb_say 37 (.slice (some ⟨b, o, none⟩) gm gc) rfl (by rw [eA]) ?_)
              refine gb_take 9 rfl (by decide +kernel) rfl rfl (ys_ev (nw := true) hT rfl sI) sF ?_
              refine gb_take 10 rfl (by decide +kernel) rfl rfl (ys_ev (nw := true) hT rfl sI) sF ?_
              refine gb_take 11 rfl (by decide +kernel) rfl rfl (by first | exact ys_blk hT rfl rfl mE rfl rfl | exact ys_row hT rfl rfl mE rfl rfl | exact ys_row0 hT rfl rfl mE rfl rfl) sF ?_
              refine gb_all (by decide +kernel) ?_
              refine gball_not (by decide +kernel) ?_
              refine gball_not (by decide +kernel) ?_
              refine gball_not (by decide +kernel) ?_
              refine gball_not (by decide +kernel) ?_
              refine gball_yes rfl rfl ?_ ?_
              · refine mv_yd rfl (yd_load_blk hT rfl rfl mE rfl rfl) ?_
                refine ⟨sF, ?_⟩
                refine gb_only 12 (by decide +kernel) rfl rfl ?_
                refine mv_call_rt (fun w hk => clone_I x.s.A x.s.n x.s.c x.L w hxs (by omega) (hk.pR (sl x.s.A 1 (IE .i64) x.L) mE)) rfl rfl rfl rfl rfl (by kernel_rfl) (fun _ => rfl) (fun s hs => ?_)
                refine ⟨sF, ?_⟩
                refine gb_take 13 rfl (by decide +kernel) rfl rfl (ys_ev (nw := true) hT rfl sI) sF ?_
                refine gb_only 14 (by decide +kernel) rfl rfl ?_
                (refine mv_buildSlice (len := 1) rfl hT rfl rfl rfl rfl rfl rfl rfl rfl ?_; intro g7)
                refine ⟨sF, ?_⟩
                refine gb_only 15 (by decide +kernel) rfl rfl ?_
                refine mv_append (L := B) rfl [(⟨nb + 1, q, s, x.L⟩ : BokD)] rfl rfl rfl rfl elt_B (by intro _; first | ((repeat (first | with_reducible exact Upd.here _ | with_reducible apply Upd.there)); done) | ((repeat (first | exact Upd.here _ | apply Upd.there)); done) | fail) (src_blk mE rfl) rfl oneB (by simp only [maxLen, List.length_cons, List.length_nil]; omega) (by simp only [List.length_cons, List.length_nil]; omega) (Nat.zero_le _) (fun v2 => ?_)
                refine ⟨sF, ?_⟩
                (refine gb_ownv v2 mE (fun A2 c2 hv2 _ _ _ => ?_); subst hv2)
                refine gb_take 16 rfl (by decide +kernel) rfl rfl (ys_ev (nw := true) hT rfl sI) sF ?_
                refine gb_only 17 (by decide +kernel) rfl rfl ?_
                first | (refine mv_box rfl rfl rfl rfl ?_; intro _) | (refine mv_alloc rfl hT rfl rfl ?_; intro _) | refine mv_store hT rfl rfl rfl rfl rfl rfl sO rfl ?_ | (refine mv_buildSlice rfl hT rfl rfl rfl rfl rfl rfl rfl rfl ?_; intro _)
                refine ⟨sF, ?_⟩
                refine gb_nil (by decide +kernel) ?_
                exact ⟨⟨(.slice A2 (B ++ [(⟨nb + 1, q, s, x.L⟩ : BokD)]).length c2, s), hs⟩, (by repeat (first | exact trivial | refine ⟨rfl, ?_⟩)), sA, sS⟩
              refine gball_not (by decide +kernel) ?_
              refine gball_not (by decide +kernel) ?_
              refine gball_not (by decide +kernel) ?_
              refine gball_not (by decide +kernel) ?_
              refine gball_not (by decide +kernel) ?_
              refine gball_not (by decide +kernel) ?_
              refine gball_not (by decide +kernel) ?_
              refine gball_yes rfl rfl ?_ ?_
              · refine mv_call_rt (fun w hk => clone_I x.s.A x.s.n x.s.c x.L w hxs (by omega) (hk.pR (sl x.s.A 1 (IE .i64) x.L) mE)) rfl rfl rfl rfl rfl (by kernel_rfl) (fun _ => rfl) (fun s hs => ?_)
                refine ⟨sF, ?_⟩
                refine gb_only 4 (by decide +kernel) rfl rfl ?_
                refine mv_yd rfl (yd_load_blk hT rfl rfl mE rfl rfl) ?_
                refine ⟨sF, ?_⟩
                refine gb_take 13 rfl (by decide +kernel) rfl rfl (ys_ev (nw := true) hT rfl sI) sF ?_
                refine gb_only 14 (by decide +kernel) rfl rfl ?_
                (refine mv_buildSlice (len := 1) rfl hT rfl rfl rfl rfl rfl rfl rfl rfl ?_; intro g7)
                refine ⟨sF, ?_⟩
                refine gb_only 15 (by decide +kernel) rfl rfl ?_
                refine mv_append (L := B) rfl [(⟨nb + 1, q, s, x.L⟩ : BokD)] rfl rfl rfl rfl elt_B (by intro _; first | ((repeat (first | with_reducible exact Upd.here _ | with_reducible apply Upd.there)); done) | ((repeat (first | exact Upd.here _ | apply Upd.there)); done) | fail) (src_blk mE rfl) rfl oneB (by simp only [maxLen, List.length_cons, List.length_nil]; omega) (by simp only [List.length_cons, List.length_nil]; omega) (Nat.zero_le _) (fun v2 => ?_)
                refine ⟨sF, ?_⟩
                (refine gb_ownv v2 mE (fun A2 c2 hv2 _ _ _ => ?_); subst hv2)
                refine gb_take 16 rfl (by decide +kernel) rfl rfl (ys_ev (nw := true) hT rfl sI) sF ?_
                refine gb_only 17 (by decide +kernel) rfl rfl ?_
                first | (refine mv_box rfl rfl rfl rfl ?_; intro _) | (refine mv_alloc rfl hT rfl rfl ?_; intro _) | refine mv_store hT rfl rfl rfl rfl rfl rfl sO rfl ?_ | (refine mv_buildSlice rfl hT rfl rfl rfl rfl rfl rfl rfl rfl ?_; intro _)
                refine ⟨sF, ?_⟩
                refine gb_nil (by decide +kernel) ?_
                exact ⟨⟨(.slice A2 (B ++ [(⟨nb + 1, q, s, x.L⟩ : BokD)]).length c2, s), hs⟩, (by repeat (first | exact trivial | refine ⟨rfl, ?_⟩)), sA, sS⟩
              refine gball_not (by decide +kernel) ?_
              refine gball_not (by decide +kernel) ?_
              refine gball_not (by decide +kernel) ?_
              refine gball_not (by decide +kernel) ?_
              refine gball_not (by decide +kernel) ?_
              exact gball_end (by decide +kernel)
            refine gball_not (by decide +kernel) ?_
            refine gball_not (by decide +kernel) ?_
            refine gball_not (by decide +kernel) ?_
            refine gball_not (by decide +kernel) ?_
            refine gball_not (by decide +kernel) ?_
            refine gball_not (by decide +kernel) ?_
            refine gball_not (by decide +kernel) ?_
            refine gball_not (by decide +kernel) ?_
            refine gball_not (by decide +kernel) ?_
            refine gball_not (by decide +kernel) ?_
            exact gball_end (by decide +kernel)
          refine gball_not (by decide +kernel) ?_
          refine gball_yes rfl rfl ?_ ?_
          · refine mv_yd rfl (yd_load_blk hT rfl rfl mE rfl rfl) ?_
            refine ⟨sF, ?_⟩
            refine gb_all (by decide +kernel) ?_
            refine gball_not (by decide +kernel) ?_
            refine gball_not (by decide +kernel) ?_
            refine gball_yes rfl rfl ?_ ?_
            · refine mv_call_rt (fun w hk => cloneB_own bA bm bc B w hnb' (by omega) (hk.pR (sl bA 3 BE B) mE)) rfl rfl rfl rfl rfl (by kernel_rfl) (fun _ => rfl) (fun v1 _ => ?_)
              refine ⟨sF, ?_⟩
              refine gb_only 7 (by decide +kernel) rfl rfl ?_
              refine mv_yd rfl (yd_load_blk hT rfl rfl mE rfl rfl) ?_
              refine ⟨sF, ?_⟩
              try (refine gb_say 37 (.slice (some ⟨b, o, none⟩) gm gc) rfl (by rw [eA]) ?_)
              refine gb_take 9 rfl (by decide +kernel) rfl rfl (ys_ev (nw := true) hT rfl sI) sF ?_
              refine gb_take 10 rfl (by decide +kernel) rfl rfl (ys_ev (nw := true) hT rfl sI) sF ?_
              refine gb_take 11 rfl (by decide +kernel) rfl rfl (by first | exact ys_blk hT rfl rfl mE rfl rfl | exact ys_row hT rfl rfl mE rfl rfl | exact ys_row0 hT rfl rfl mE rfl rfl) sF ?_
              refine gb_only 12 (by decide +kernel) rfl rfl ?_
              refine mv_call_rt (fun w hk => clone_I x.s.A x.s.n x.s.c x.L w hxs (by omega) (hk.pR (sl x.s.A 1 (IE .i64) x.L) mE)) rfl rfl rfl rfl rfl (by kernel_rfl) (fun _ => rfl) (fun s hs => ?_)
              refine ⟨sF, ?_⟩
              refine gb_take 13 rfl (by decide +kernel) rfl rfl (ys_ev (nw := true) hT rfl sI) sF ?_
              refine gb_only 14 (by decide +kernel) rfl rfl ?_
              (refine mv_buildSlice (len := 1) rfl hT rfl rfl rfl rfl rfl rfl rfl rfl ?_; intro g7)
              refine ⟨sF, ?_⟩
              refine gb_only 15 (by decide +kernel) rfl rfl ?_
              refine mv_append (L := B) rfl [(⟨nb + 1, q, s, x.L⟩ : BokD)] rfl rfl rfl rfl elt_B (by intro _; first | ((repeat (first | with_reducible exact Upd.here _ | with_reducible apply Upd.there)); done) | ((repeat (first | exact Upd.here _ | apply Upd.there)); done) | fail) (src_blk mE rfl) rfl oneB (by simp only [maxLen, List.length_cons, List.length_nil]; omega) (by simp only [List.length_cons, List.length_nil]; omega) (Nat.zero_le _) (fun v2 => ?_)
              refine ⟨sF, ?_⟩
              (refine gb_ownv v2 mE (fun A2 c2 hv2 _ _ _ => ?_); subst hv2)
              refine gb_take 16 rfl (by decide +kernel) rfl rfl (ys_ev (nw := true) hT rfl sI) sF ?_
              refine gb_only 17 (by decide +kernel) rfl rfl ?_
              first | (refine mv_box rfl rfl rfl rfl ?_; intro _) | (refine mv_alloc rfl hT rfl rfl ?_; intro _) | refine mv_store hT rfl rfl rfl rfl rfl rfl sO rfl ?_ | (refine mv_buildSlice rfl hT rfl rfl rfl rfl rfl rfl rfl rfl ?_; intro _)
              refine ⟨sF, ?_⟩
              refine gb_nil (by decide +kernel) ?_
              exact ⟨⟨(.slice A2 (B ++ [(⟨nb + 1, q, s, x.L⟩ : BokD)]).length c2, s), hs⟩, (by repeat (first | exact trivial | refine ⟨rfl, ?_⟩)), sA, sS⟩
            refine gball_not (by decide +kernel) ?_
            refine gball_not (by decide +kernel) ?_
            refine gball_not (by decide +kernel) ?_
            refine gball_not (by decide +kernel) ?_
            refine gball_yes rfl rfl ?_ ?_
            · refine mv_yd rfl (yd_load_blk hT rfl rfl mE rfl rfl) ?_
              refine ⟨sF, ?_⟩
              try (refine gb_say 37 (.slice (some ⟨b, o, none⟩) gm gc) rfl (by rw [eA]) ?_)
              refine gb_take 9 rfl (by decide +kernel) rfl rfl (ys_ev (nw := true) hT rfl sI) sF ?_
              refine gb_take 10 rfl (by decide +kernel) rfl rfl (ys_ev (nw := true) hT rfl sI) sF ?_
              refine gb_take 11 rfl (by decide +kernel) rfl rfl (by first | exact ys_blk hT rfl rfl mE rfl rfl | exact ys_row hT rfl rfl mE rfl rfl | exact ys_row0 hT rfl rfl mE rfl rfl) sF ?_
              refine gb_only 2 (by decide +kernel) rfl rfl ?_
              refine mv_call_rt (fun w hk => cloneB_own bA bm bc B w hnb' (by omega) (hk.pR (sl bA 3 BE B) mE)) rfl rfl rfl rfl rfl (by kernel_rfl) (fun _ => rfl) (fun v1 _ => ?_)
              refine ⟨sF, ?_⟩
              refine gb_only 12 (by decide +kernel) rfl rfl ?_
              refine mv_call_rt (fun w hk => clone_I x.s.A x.s.n x.s.c x.L w hxs (by omega) (hk.pR (sl x.s.A 1 (IE .i64) x.L) mE)) rfl rfl rfl rfl rfl (by kernel_rfl) (fun _ => rfl) (fun s hs => ?_)
              refine ⟨sF, ?_⟩
              refine gb_take 13 rfl (by decide +kernel) rfl rfl (ys_ev (nw := true) hT rfl sI) sF ?_
              refine gb_only 14 (by decide +kernel) rfl rfl ?_
              (refine mv_buildSlice (len := 1) rfl hT rfl rfl rfl rfl rfl rfl rfl rfl ?_; intro g7)
              refine ⟨sF, ?_⟩
              refine gb_only 15 (by decide +kernel) rfl rfl ?_
              refine mv_append (L := B) rfl [(⟨nb + 1, q, s, x.L⟩ : BokD)] rfl rfl rfl rfl elt_B (by intro _; first | ((repeat (first | with_reducible exact Upd.here _ | with_reducible apply Upd.there)); done) | ((repeat (first | exact Upd.here _ | apply Upd.there)); done) | fail) (src_blk mE rfl) rfl oneB (by simp only [maxLen, List.length_cons, List.length_nil]; omega) (by simp only [List.length_cons, List.length_nil]; omega) (Nat.zero_le _) (fun v2 => ?_)
              refine ⟨sF, ?_⟩
              (refine gb_ownv v2 mE (fun A2 c2 hv2 _ _ _ => ?_); subst hv2)
              refine gb_take 16 rfl (by decide +kernel) rfl rfl (ys_ev (nw := true) hT rfl sI) sF ?_
              refine gb_only 17 (by decide +kernel) rfl rfl ?_
              first | (refine mv_box rfl rfl rfl rfl ?_; intro _) | (refine mv_alloc rfl hT rfl rfl ?_; intro _) | refine mv_store hT rfl rfl rfl rfl rfl rfl sO rfl ?_ | (refine mv_buildSlice rfl hT rfl rfl rfl rfl rfl rfl rfl rfl ?_; intro _)
              refine ⟨sF, ?_⟩
              refine gb_nil (by decide +kernel) ?_
              exact ⟨⟨(.slice A2 (B ++ [(⟨nb + 1, q, s, x.L⟩ : BokD)]).length c2, s), hs⟩, (by repeat (first | exact trivial | refine ⟨rfl, ?_⟩)), sA, sS⟩
            refine gball_not (by decide +kernel) ?_
            refine gball_not (by decide +kernel) ?_
            refine gball_not (by decide +kernel) ?_
            refine gball_not (by decide +kernel) ?_
            refine gball_not (by decide +kernel) ?_
            refine gball_not (by decide +kernel) ?_
            refine gball_not (by decide +kernel) ?_
            refine gball_not (by decide +kernel) ?_
            refine gball_not (by decide +kernel) ?_
            refine gball_not (by decide +kernel) ?_
            exact gball_end (by decide +kernel)
          refine gball_not (by decide +kernel) ?_
          refine gball_not (by decide +kernel) ?_
          refine gball_yes rfl rfl ?_ ?_
          · refine mv_yd rfl (yd_load_blk hT rfl rfl mE rfl rfl) ?_
            refine ⟨sF, ?_⟩
            try (refine gb_say 37 (.slice (some ⟨b, o, none⟩) gm gc) rfl (by rw [eA]) ?_)
            refine gb_take 9 rfl (by decide +kernel) rfl rfl (ys_ev (nw := true) hT rfl sI) sF ?_
            refine gb_take 10 rfl (by decide +kernel) rfl rfl (ys_ev (nw := true) hT rfl sI) sF ?_
            refine gb_take 11 rfl (by decide +kernel) rfl rfl (by first | exact ys_blk hT rfl rfl mE rfl rfl | exact ys_row hT rfl rfl mE rfl rfl | exact ys_row0 hT rfl rfl mE rfl rfl) sF ?_
            refine gb_all (by decide +kernel) ?_
            refine gball_not (by decide +kernel) ?_
            refine gball_not (by decide +kernel) ?_
            refine gball_yes rfl rfl ?_ ?_
            · refine mv_call_rt (fun w hk => cloneB_own bA bm bc B w hnb' (by omega) (hk.pR (sl bA 3 BE B) mE)) rfl rfl rfl rfl rfl (by kernel_rfl) (fun _ => rfl) (fun v1 _ => ?_)
              refine ⟨sF, ?_⟩
              refine gb_all (by decide +kernel) ?_
              refine gball_not (by decide +kernel) ?_
              refine gball_not (by decide +kernel) ?_
              refine gball_not (by decide +kernel) ?_
              refine gball_not (by decide +kernel) ?_
              refine gball_yes rfl rfl ?_ ?_
              · refine mv_yd rfl (yd_load_blk hT rfl rfl mE rfl rfl) ?_
                refine ⟨sF, ?_⟩
                refine gb_only 12 (by decide +kernel) rfl rfl ?_
                refine mv_call_rt (fun w hk => clone_I x.s.A x.s.n x.s.c x.L w hxs (by omega) (hk.pR (sl x.s.A 1 (IE .i64) x.L) mE)) rfl rfl rfl rfl rfl (by kernel_rfl) (fun _ => rfl) (fun s hs => ?_)
                refine ⟨sF, ?_⟩
                refine gb_take 13 rfl (by decide +kernel) rfl rfl (ys_ev (nw := true) hT rfl sI) sF ?_
                refine gb_only 14 (by decide +kernel) rfl rfl ?_
                (refine mv_buildSlice (len := 1) rfl hT rfl rfl rfl rfl rfl rfl rfl rfl ?_; intro g7)
                refine ⟨sF, ?_⟩
                refine gb_only 15 (by decide +kernel) rfl rfl ?_
                refine mv_append (L := B) rfl [(⟨nb + 1, q, s, x.L⟩ : BokD)] rfl rfl rfl rfl elt_B (by intro _; first | ((repeat (first | with_reducible exact Upd.here _ | with_reducible apply Upd.there)); done) | ((repeat (first | exact Upd.here _ | apply Upd.there)); done) | fail) (src_blk mE rfl) rfl oneB (by simp only [maxLen, List.length_cons, List.length_nil]; omega) (by simp only [List.length_cons, List.length_nil]; omega) (Nat.zero_le _) (fun v2 => ?_)
                refine ⟨sF, ?_⟩
                (refine gb_ownv v2 mE (fun A2 c2 hv2 _ _ _ => ?_); subst hv2)
                refine gb_take 16 rfl (by decide +kernel) rfl rfl (ys_ev (nw := true) hT rfl sI) sF ?_
                refine gb_only 17 (by decide +kernel) rfl rfl ?_
                first | (refine mv_box rfl rfl rfl rfl ?_; intro _) | (refine mv_alloc rfl hT rfl rfl ?_; intro _) | refine mv_store hT rfl rfl rfl rfl rfl rfl sO rfl ?_ | (refine mv_buildSlice rfl hT rfl rfl rfl rfl rfl rfl rfl rfl ?_; intro _)
                refine ⟨sF, ?_⟩
                refine gb_nil (by decide +kernel) ?_
                exact ⟨⟨(.slice A2 (B ++ [(⟨nb + 1, q, s, x.L⟩ : BokD)]).length c2, s), hs⟩, (by repeat (first | exact trivial | refine ⟨rfl, ?_⟩)), sA, sS⟩
              refine gball_not (by decide +kernel) ?_
              refine gball_not (by decide +kernel) ?_
              refine gball_not (by decide +kernel) ?_
              refine gball_not (by decide +kernel) ?_
              refine gball_not (by decide +kernel) ?_
              refine gball_not (by decide +kernel) ?_
              refine gball_not (by decide +kernel) ?_
              refine gball_yes rfl rfl ?_ ?_
              · refine mv_call_rt (fun w hk => clone_I x.s.A x.s.n x.s.c x.L w hxs (by omega) (hk.pR (sl x.s.A 1 (IE .i64) x.L) mE)) rfl rfl rfl rfl rfl (by kernel_rfl) (fun _ => rfl) (fun s hs => ?_)
                refine ⟨sF, ?_⟩
                refine gb_only 4 (by decide +kernel) rfl rfl ?_
                refine mv_yd rfl (yd_load_blk hT rfl rfl mE rfl rfl) ?_
                refine ⟨sF, ?_⟩
                refine gb_take 13 rfl (by decide +kernel) rfl rfl (ys_ev (nw := true) hT rfl sI) sF ?_
                refine gb_only 14 (by decide +kernel) rfl rfl ?_
                (refine mv_buildSlice (len := 1) rfl hT rfl rfl rfl rfl rfl rfl rfl rfl ?_; intro g7)
                refine ⟨sF, ?_⟩
                refine gb_only 15 (by decide +kernel) rfl rfl ?_
                refine mv_append (L := B) rfl [(⟨nb + 1, q, s, x.L⟩ : BokD)] rfl rfl rfl rfl elt_B (by intro _; first | ((repeat (first | with_reducible exact Upd.here _ | with_reducible apply Upd.there)); done) | ((repeat (first | exact Upd.here _ | apply Upd.there)); done) | fail) (src_blk mE rfl) rfl oneB (by simp only [maxLen, List.length_cons, List.length_nil]; omega) (by simp only [List.length_cons, List.length_nil]; omega) (Nat.zero_le _) (fun v2 => ?_)
                refine ⟨sF, ?_⟩
                (refine gb_ownv v2 mE (fun A2 c2 hv2 _ _ _ => ?_); subst hv2)
                refine gb_take 16 rfl (by decide +kernel) rfl rfl (ys_ev (nw := true) hT rfl sI) sF ?_
                refine gb_only 17 (by decide +kernel) rfl rfl ?_
                first | (refine mv_box rfl rfl rfl rfl ?_; intro _) | (refine mv_alloc rfl hT rfl rfl ?_; intro _) | refine mv_store hT rfl rfl rfl rfl rfl rfl sO rfl ?_ | (refine mv_buildSlice rfl hT rfl rfl rfl rfl rfl rfl rfl rfl ?_; intro _)
                refine ⟨sF, ?_⟩
                refine gb_nil (by decide +kernel) ?_
                exact ⟨⟨(.slice A2 (B ++ [(⟨nb + 1, q, s, x.L⟩ : BokD)]).length c2, s), hs⟩, (by repeat (first | exact trivial | refine ⟨rfl, ?_⟩)), sA, sS⟩
              refine gball_not (by decide +kernel) ?_
              refine gball_not (by decide +kernel) ?_
              refine gball_not (by decide +kernel) ?_
              refine gball_not (by decide +kernel) ?_
              refine gball_not (by decide +kernel) ?_
              exact gball_end (by decide +kernel)
            refine gball_not (by decide +kernel) ?_
            refine gball_yes rfl rfl ?_ ?_
            · refine mv_yd rfl (yd_load_blk hT rfl rfl mE rfl rfl) ?_
              refine ⟨sF, ?_⟩
              refine gb_only 2 (by decide +kernel) rfl rfl ?_
              refine mv_call_rt (fun w hk => cloneB_own bA bm bc B w hnb' (by omega) (hk.pR (sl bA 3 BE B) mE)) rfl rfl rfl rfl rfl (by kernel_rfl) (fun _ => rfl) (fun v1 _ => ?_)
              refine ⟨sF, ?_⟩
              refine gb_only 12 (by decide +kernel) rfl rfl ?_
              refine mv_call_rt (fun w hk => clone_I x.s.A x.s.n x.s.c x.L w hxs (by omega) (hk.pR (sl x.s.A 1 (IE .i64) x.L) mE)) rfl rfl rfl rfl rfl (by kernel_rfl) (fun _ => rfl) (fun s hs => ?_)
              refine ⟨sF, ?_⟩
              refine gb_take 13 rfl (by decide +kernel) rfl rfl (ys_ev (nw := true) hT rfl sI) sF ?_
              refine gb_only 14 (by decide +kernel) rfl rfl ?_
              (refine mv_buildSlice (len := 1) rfl hT rfl rfl rfl rfl rfl rfl rfl rfl ?_; intro g7)
              refine ⟨sF, ?_⟩
              refine gb_only 15 (by decide +kernel) rfl rfl ?_
              refine mv_append (L := B) rfl [(⟨nb + 1, q, s, x.L⟩ : BokD)] rfl rfl rfl rfl elt_B (by intro _; first | ((repeat (first | with_reducible exact Upd.here _ | with_reducible apply Upd.there)); done) | ((repeat (first | exact Upd.here _ | apply Upd.there)); done) | fail) (src_blk mE rfl) rfl oneB (by simp only [maxLen, List.length_cons, List.length_nil]; omega) (by simp only [List.length_cons, List.length_nil]; omega) (Nat.zero_le _) (fun v2 => ?_)
              refine ⟨sF, ?_⟩
              (refine gb_ownv v2 mE (fun A2 c2 hv2 _ _ _ => ?_); subst hv2)
              refine gb_take 16 rfl (by decide +kernel) rfl rfl (ys_ev (nw := true) hT rfl sI) sF ?_
              refine gb_only 17 (by decide +kernel) rfl rfl ?_
              first | (refine mv_box rfl rfl rfl rfl ?_; intro _) | (refine mv_alloc rfl hT rfl rfl ?_; intro _) | refine mv_store hT rfl rfl rfl rfl rfl rfl sO rfl ?_ | (refine mv_buildSlice rfl hT rfl rfl rfl rfl rfl rfl rfl rfl ?_; intro _)
              refine ⟨sF, ?_⟩
              refine gb_nil (by decide +kernel) ?_
              exact ⟨⟨(.slice A2 (B ++ [(⟨nb + 1, q, s, x.L⟩ : BokD)]).length c2, s), hs⟩, (by repeat (first | exact trivial | refine ⟨rfl, ?_⟩)), sA, sS⟩
            refine gball_not (by decide +kernel) ?_
            refine gball_not (by decide +kernel) ?_
            refine gball_not (by decide +kernel) ?_
            refine gball_not (by decide +kernel) ?_
            refine gball_not (by decide +kernel) ?_
            refine gball_not (by decide +kernel) ?_
            refine gball_not (by decide +kernel) ?_
            refine gball_not (by decide +kernel) ?_
            refine gball_not (by decide +kernel) ?_
            refine gball_not (by decide +kernel) ?_
            refine gball_not (by decide +kernel) ?_
            refine gball_not (by decide +kernel) ?_
            refine gball_not (by decide +kernel) ?_
            exact gball_end (by decide +kernel)
          refine gball_not (by decide +kernel) ?_
          refine gball_not (by decide +kernel) ?_
          refine gball_not (by decide +kernel) ?_
          refine gball_not (by decide +kernel) ?_
          refine gball_not (by decide +kernel) ?_
          refine gball_not (by decide +kernel) ?_
          refine gball_not (by decide +kernel) ?_
          refine gball_not (by decide +kernel) ?_
          refine gball_not (by decide +kernel) ?_
          refine gball_not (by decide +kernel) ?_
          exact gball_end (by decide +kernel)
        refine gball_not (by decide +kernel) ?_
        refine gball_not (by decide +kernel) ?_
        refine gball_yes rfl rfl ?_ ?_
        · refine mv_yd rfl (yd_load_blk hT rfl rfl mE rfl rfl) ?_
          refine ⟨sF, ?_⟩
          refine gb_all (by decide +kernel) ?_
          refine gball_not (by decide +kernel) ?_
          refine gball_yes rfl rfl ?_ ?_
          · refine mv_yd rfl (yd_load_blk hT rfl rfl mE rfl rfl) ?_
            refine ⟨sF, ?_⟩
            refine gb_all (by decide +kernel) ?_
            refine gball_not (by decide +kernel) ?_
            refine gball_not (by decide +kernel) ?_
            refine gball_yes rfl rfl ?_ ?_
            · refine mv_call_rt (fun w hk => cloneB_own bA bm bc B w hnb' (by omega) (hk.pR (sl bA 3 BE B) mE)) rfl rfl rfl rfl rfl (by kernel_rfl) (fun _ => rfl) (fun v1 _ => ?_)
              refine ⟨sF, ?_⟩
              refine gb_only 7 (by decide +kernel) rfl rfl ?_
              refine mv_yd rfl (yd_load_blk hT rfl rfl mE rfl rfl) ?_
              refine ⟨sF, ?_⟩
              try (refine gb_say 37 (.slice (some ⟨b, o, none⟩) gm gc) rfl (by rw [eA]) ?_)
              refine gb_take 9 rfl (by decide +kernel) rfl rfl (ys_ev (nw := true) hT rfl sI) sF ?_
              refine gb_take 10 rfl (by decide +kernel) rfl rfl (ys_ev (nw := true) hT rfl sI) sF ?_
              refine gb_take 11 rfl (by decide +kernel) rfl rfl (by first | exact ys_blk hT rfl rfl mE rfl rfl | exact ys_row hT rfl rfl mE rfl rfl | exact ys_row0 hT rfl rfl mE rfl rfl) sF ?_
              refine gb_only 12 (by decide +kernel) rfl rfl ?_
              refine mv_call_rt (fun w hk => clone_I x.s.A x.s.n x.s.c x.L w hxs (by omega) (hk.pR (sl x.s.A 1 (IE .i64) x.L) mE)) rfl rfl rfl rfl rfl (by kernel_rfl) (fun _ => rfl) (fun s hs => ?_)
              refine ⟨sF, ?_⟩
              refine gb_take 13 rfl (by decide +kernel) rfl rfl (ys_ev (nw := true) hT rfl sI) sF ?_
              refine gb_only 14 (by decide +kernel) rfl rfl ?_
              (refine mv_buildSlice (len := 1) rfl hT rfl rfl rfl rfl rfl rfl rfl rfl ?_; intro g7)
              refine ⟨sF, ?_⟩
              refine gb_only 15 (by decide +kernel) rfl rfl ?_
              refine mv_append (L := B) rfl [(⟨nb + 1, q, s, x.L⟩ : BokD)] rfl rfl rfl rfl elt_B (by intro _; first | ((repeat (first | with_reducible exact Upd.here _ | with_reducible apply Upd.there)); done) | ((repeat (first | exact Upd.here _ | apply Upd.there)); done) | fail) (src_blk mE rfl) rfl oneB (by simp only [maxLen, List.length_cons, List.length_nil]; omega) (by simp only [List.length_cons, List.length_nil]; omega) (Nat.zero_le _) (fun v2 => ?_)
              refine ⟨sF, ?_⟩
              (refine gb_ownv v2 mE (fun A2 c2 hv2 _ _ _ => ?_); subst hv2)
              refine gb_take 16 rfl (by decide +kernel) rfl rfl (ys_ev (nw := true) hT rfl sI) sF ?_
              refine gb_only 17 (by decide +kernel) rfl rfl ?_
              first | (refine mv_box rfl rfl rfl rfl ?_; intro _) | (refine mv_alloc rfl hT rfl rfl ?_; intro _) | refine mv_store hT rfl rfl rfl rfl rfl rfl sO rfl ?_ | (refine mv_buildSlice rfl hT rfl rfl rfl rfl rfl rfl rfl rfl ?_; intro _)
              refine ⟨sF, ?_⟩
              refine gb_nil (by decide +kernel) ?_
              exact ⟨⟨(.slice A2 (B ++ [(⟨nb + 1, q, s, x.L⟩ : BokD)]).length c2, s), hs⟩, (by repeat (first | exact trivial | refine ⟨rfl, ?_⟩)), sA, sS⟩
            refine gball_not (by decide +kernel) ?_
            refine gball_not (by decide +kernel) ?_
            refine gball_not (by decide +kernel) ?_
            refine gball_not (by decide +kernel) ?_
            refine gball_yes rfl rfl ?_ ?_
            · refine mv_yd rfl (yd_load_blk hT rfl rfl mE rfl rfl) ?_
              refine ⟨sF, ?_⟩
              try (refine gb_say 37 (.slice (some ⟨b, o, none⟩) gm gc) rfl (by rw [eA]) ?_)
              refine gb_take 9 rfl (by decide +kernel) rfl rfl (ys_ev (nw := true) hT rfl sI) sF ?_
              refine gb_take 10 rfl (by decide +kernel) rfl rfl (ys_ev (nw := true) hT rfl sI) sF ?_
              refine gb_take 11 rfl (by decide +kernel) rfl rfl (by first | exact ys_blk hT rfl rfl mE rfl rfl | exact ys_row hT rfl rfl mE rfl rfl | exact ys_row0 hT rfl rfl mE rfl rfl) sF ?_
              refine gb_only 2 (by decide +kernel) rfl rfl ?_
              refine mv_call_rt (fun w hk => cloneB_own bA bm bc B w hnb' (by omega) (hk.pR (sl bA 3 BE B) mE)) rfl rfl rfl rfl rfl (by kernel_rfl) (fun _ => rfl) (fun v1 _ => ?_)
              refine ⟨sF, ?_⟩
              refine gb_only 12 (by decide +kernel) rfl rfl ?_
              refine mv_call_rt (fun w hk => clone_I x.s.A x.s.n x.s.c x.L w hxs (by omega) (hk.pR (sl x.s.A 1 (IE .i64) x.L) mE)) rfl rfl rfl rfl rfl (by kernel_rfl) (fun _ => rfl) (fun s hs => ?_)
              refine ⟨sF, ?_⟩
              refine gb_take 13 rfl (by decide +kernel) rfl rfl (ys_ev (nw := true) hT rfl sI) sF ?_
              refine gb_only 14 (by decide +kernel) rfl rfl ?_
              (refine mv_buildSlice (len := 1) rfl hT rfl rfl rfl rfl rfl rfl rfl rfl ?_; intro g7)
              refine ⟨sF, ?_⟩
              refine gb_only 15 (by decide +kernel) rfl rfl ?_
              refine mv_append (L := B) rfl [(⟨nb + 1, q, s, x.L⟩ : BokD)] rfl rfl rfl rfl elt_B (by intro _; first | ((repeat (first | with_reducible exact Upd.here _ | with_reducible apply Upd.there)); done) | ((repeat (first | exact Upd.here _ | apply Upd.there)); done) | fail) (src_blk mE rfl) rfl oneB (by simp only [maxLen, List.length_cons, List.length_nil]; omega) (by simp only [List.length_cons, List.length_nil]; omega) (Nat.zero_le _) (fun v2 => ?_)
              refine ⟨sF, ?_⟩
              (refine gb_ownv v2 mE (fun A2 c2 hv2 _ _ _ => ?_); subst hv2)
              refine gb_take 16 rfl (by decide +kernel) rfl rfl (ys_ev (nw := true) hT rfl sI) sF ?_
              refine gb_only 17 (by decide +kernel) rfl rfl ?_
              first | (refine mv_box rfl rfl rfl rfl ?_; intro _) | (refine mv_alloc rfl hT rfl rfl ?_; intro _) | refine mv_store hT rfl rfl rfl rfl rfl rfl sO rfl ?_ | (refine mv_buildSlice rfl hT rfl rfl rfl rfl rfl rfl rfl rfl ?_; intro _)
              refine ⟨sF, ?_⟩
              refine gb_nil (by decide +kernel) ?_
              exact ⟨⟨(.slice A2 (B ++ [(⟨nb + 1, q, s, x.L⟩ : BokD)]).length c2, s), hs⟩, (by repeat (first | exact trivial | refine ⟨rfl, ?_⟩)), sA, sS⟩
            refine gball_not (by decide +kernel) ?_
            refine gball_not (by decide +kernel) ?_
            refine gball_not (by decide +kernel) ?_
            refine gball_not (by decide +kernel) ?_
            refine gball_not (by decide +kernel) ?_
            refine gball_not (by decide +kernel) ?_
            refine gball_not (by decide +kernel) ?_
            refine gball_not (by decide +kernel) ?_
            refine gball_not (by decide +kernel) ?_
            refine gball_not (by decide +kernel) ?_
            exact gball_end (by decide +kernel)
          refine gball_not (by decide +kernel) ?_
          refine gball_not (by decide +kernel) ?_
          refine gball_not (by decide +kernel) ?_
          refine gball_not (by decide +kernel) ?_
          refine gball_not (by decide +kernel) ?_
          refine gball_yes rfl rfl ?_ ?_
          · refine mv_yd rfl (yd_load_blk hT rfl rfl mE rfl rfl) ?_
            refine ⟨sF, ?_⟩
            try (refine gb_say 37 (.slice (some ⟨b, o, none⟩) gm gc) rfl (by rw [eA]) ?_)
            refine gb_take 9 rfl (by decide +kernel) rfl rfl (ys_ev (nw := true) hT rfl sI) sF ?_
            refine gb_take 10 rfl (by decide +kernel) rfl rfl (ys_ev (nw := true) hT rfl sI) sF ?_
            refine gb_take 11 rfl (by decide +kernel) rfl rfl (by first | exact ys_blk hT rfl rfl mE rfl rfl | exact ys_row hT rfl rfl mE rfl rfl | exact ys_row0 hT rfl rfl mE rfl rfl) sF ?_
            refine gb_only 1 (by decide +kernel) rfl rfl ?_
            refine mv_yd rfl (yd_load_blk hT rfl rfl mE rfl rfl) ?_
            refine ⟨sF, ?_⟩
            refine gb_only 2 (by decide +kernel) rfl rfl ?_
            refine mv_call_rt (fun w hk => cloneB_own bA bm bc B w hnb' (by omega) (hk.pR (sl bA 3 BE B) mE)) rfl rfl rfl rfl rfl (by kernel_rfl) (fun _ => rfl) (fun v1 _ => ?_)
            refine ⟨sF, ?_⟩
            refine gb_only 12 (by decide +kernel) rfl rfl ?_
            refine mv_call_rt (fun w hk => clone_I x.s.A x.s.n x.s.c x.L w hxs (by omega) (hk.pR (sl x.s.A 1 (IE .i64) x.L) mE)) rfl rfl rfl rfl rfl (by kernel_rfl) (fun _ => rfl) (fun s hs => ?_)
            refine ⟨sF, ?_⟩
            refine gb_take 13 rfl (by decide +kernel) rfl rfl (ys_ev (nw := true) hT rfl sI) sF ?_
            refine gb_only 14 (by decide +kernel) rfl rfl ?_
            (refine mv_buildSlice (len := 1) rfl hT rfl rfl rfl rfl rfl rfl rfl rfl ?_; intro g7)
            refine ⟨sF, ?_⟩
            refine gb_only 15 (by decide +kernel) rfl rfl ?_
            refine mv_append (L := B) rfl [(⟨nb + 1, q, s, x.L⟩ : BokD)] rfl rfl rfl rfl elt_B (by intro _; first | ((repeat (first | with_reducible exact Upd.here _ | with_reducible apply Upd.there)); done) | ((repeat (first | exact Upd.here _ | apply Upd.there)); done) | fail) (src_blk mE rfl) rfl oneB (by simp only [maxLen, List.length_cons, List.length_nil]; omega) (by simp only [List.length_cons, List.length_nil]; omega) (Nat.zero_le _) (fun v2 => ?_)
            refine ⟨sF, ?_⟩
            (refine gb_ownv v2 mE (fun A2 c2 hv2 _ _ _ => ?_); subst hv2)
            refine gb_take 16 rfl (by decide +kernel) rfl rfl (ys_ev (nw := true) hT rfl sI) sF ?_
            refine gb_only 17 (by decide +kernel) rfl rfl ?_
            first | (refine mv_box rfl rfl rfl rfl ?_; intro _) | (refine mv_alloc rfl hT rfl rfl ?_; intro _) | refine mv_store hT rfl rfl rfl rfl rfl rfl sO rfl ?_ | (refine mv_buildSlice rfl hT rfl rfl rfl rfl rfl rfl rfl rfl ?_; intro _)
            refine ⟨sF, ?_⟩
            refine gb_nil (by decide +kernel) ?_
            exact ⟨⟨(.slice A2 (B ++ [(⟨nb + 1, q, s, x.L⟩ : BokD)]).length c2, s), hs⟩, (by repeat (first | exact trivial | refine ⟨rfl, ?_⟩)), sA, sS⟩
          refine gball_not (by decide +kernel) ?_
          refine gball_not (by decide +kernel) ?_
          refine gball_not (by decide +kernel) ?_
          refine gball_not (by decide +kernel) ?_
          refine gball_not (by decide +kernel) ?_
          refine gball_not (by decide +kernel) ?_
          refine gball_not (by decide +kernel) ?_
          refine gball_not (by decide +kernel) ?_
          refine gball_not (by decide +kernel) ?_
          refine gball_not (by decide +kernel) ?_
          exact gball_end (by decide +kernel)
        refine gball_not (by decide +kernel) ?_
        refine gball_not (by decide +kernel) ?_
        refine gball_yes rfl rfl ?_ ?_
        · refine mv_yd rfl (yd_load_blk hT rfl rfl mE rfl rfl) ?_
          refine ⟨sF, ?_⟩
          try (refine gb_say 37 (.slice (some ⟨b, o, none⟩) gm gc) rfl (by rw [eA]) ?_)
          refine gb_take 9 rfl (by decide +kernel) rfl rfl (ys_ev (nw := true) hT rfl sI) sF ?_
          refine gb_take 10 rfl (by decide +kernel) rfl rfl (ys_ev (nw := true) hT rfl sI) sF ?_
          refine gb_take 11 rfl (by decide +kernel) rfl rfl (by first | exact ys_blk hT rfl rfl mE rfl rfl | exact ys_row hT rfl rfl mE rfl rfl | exact ys_row0 hT rfl rfl mE rfl rfl) sF ?_
          refine gb_all (by decide +kernel) ?_
          refine gball_not (by decide +kernel) ?_
          refine gball_yes rfl rfl ?_ ?_
          · refine mv_yd rfl (yd_load_blk hT rfl rfl mE rfl rfl) ?_
            refine ⟨sF, ?_⟩
            refine gb_all (by decide +kernel) ?_
            refine gball_not (by decide +kernel) ?_
            refine gball_not (by decide +kernel) ?_
            refine gball_yes rfl rfl ?_ ?_
            · refine mv_call_rt (fun w hk => cloneB_own bA bm bc B w hnb' (by omega) (hk.pR (sl bA 3 BE B) mE)) rfl rfl rfl rfl rfl (by kernel_rfl) (fun _ => rfl) (fun v1 _ => ?_)
              refine ⟨sF, ?_⟩
              refine gb_all (by decide +kernel) ?_
              refine gball_not (by decide +kernel) ?_
              refine gball_not (by decide +kernel) ?_
              refine gball_not (by decide +kernel) ?_
              refine gball_not (by decide +kernel) ?_
              refine gball_yes rfl rfl ?_ ?_
              · refine mv_yd rfl (yd_load_blk hT rfl rfl mE rfl rfl) ?_
                refine ⟨sF, ?_⟩
                refine gb_only 12 (by decide +kernel) rfl rfl ?_
                refine mv_call_rt (fun w hk => clone_I x.s.A x.s.n x.s.c x.L w hxs (by omega) (hk.pR (sl x.s.A 1 (IE .i64) x.L) mE)) rfl rfl rfl rfl rfl (by kernel_rfl) (fun _ => rfl) (fun s hs => ?_)
                refine ⟨sF, ?_⟩
                refine gb_take 13 rfl (by decide +kernel) rfl rfl (ys_ev (nw := true) hT rfl sI) sF ?_
                refine gb_only 14 (by decide +kernel) rfl rfl ?_
                (refine mv_buildSlice (len := 1) rfl hT rfl rfl rfl rfl rfl rfl rfl rfl ?_; intro g7)
                refine ⟨sF, ?_⟩
                refine gb_only 15 (by decide +kernel) rfl rfl ?_
                refine mv_append (L := B) rfl [(⟨nb + 1, q, s, x.L⟩ : BokD)] rfl rfl rfl rfl elt_B (by intro _; first | ((repeat (first | with_reducible exact Upd.here _ | with_reducible apply Upd.there)); done) | ((repeat (first | exact Upd.here _ | apply Upd.there)); done) | fail) (src_blk mE rfl) rfl oneB (by simp only [maxLen, List.length_cons, List.length_nil]; omega) (by simp only [List.length_cons, List.length_nil]; omega) (Nat.zero_le _) (fun v2 => ?_)
                refine ⟨sF, ?_⟩
                (refine gb_ownv v2 mE (fun A2 c2 hv2 _ _ _ => ?_); subst hv2)
                refine gb_take 16 rfl (by decide +kernel) rfl rfl (ys_ev (nw := true) hT rfl sI) sF ?_
                refine gb_only 17 (by decide +kernel) rfl rfl ?_
                first | (refine mv_box rfl rfl rfl rfl ?_; intro _) | (refine mv_alloc rfl hT rfl rfl ?_; intro _) | refine mv_store hT rfl rfl rfl rfl rfl rfl sO rfl ?_ | (refine mv_buildSlice rfl hT rfl rfl rfl rfl rfl rfl rfl rfl ?_; intro _)
                refine ⟨sF, ?_⟩
                refine gb_nil (by decide +kernel) ?_
                exact ⟨⟨(.slice A2 (B ++ [(⟨nb + 1, q, s, x.L⟩ : BokD)]).length c2, s), hs⟩, (by repeat (first | exact trivial | refine ⟨rfl, ?_⟩)), sA, sS⟩
              refine gball_not (by decide +kernel) ?_
              refine gball_not (by decide +kernel) ?_
              refine gball_not (by decide +kernel) ?_
              refine gball_not (by decide +kernel) ?_
              refine gball_not (by decide +kernel) ?_
              refine gball_not (by decide +kernel) ?_
              refine gball_not (by decide +kernel) ?_
              refine gball_yes rfl rfl ?_ ?_
              · refine mv_call_rt (fun w hk => clone_I x.s.A x.s.n x.s.c x.L w hxs (by omega) (hk.pR (sl x.s.A 1 (IE .i64) x.L) mE)) rfl rfl rfl rfl rfl (by kernel_rfl) (fun _ => rfl) (fun s hs => ?_)
                refine ⟨sF, ?_⟩
                refine gb_only 4 (by decide +kernel) rfl rfl ?_
                refine mv_yd rfl (yd_load_blk hT rfl rfl mE rfl rfl) ?_
                refine ⟨sF, ?_⟩
                refine gb_take 13 rfl (by decide +kernel) rfl rfl (ys_ev (nw := true) hT rfl sI) sF ?_
                refine gb_only 14 (by decide +kernel) rfl rfl ?_
                (refine mv_buildSlice (len := 1) rfl hT rfl rfl rfl rfl rfl rfl rfl rfl ?_; intro g7)
                refine ⟨sF, ?_⟩
                refine gb_only 15 (by decide +kernel) rfl rfl ?_
                refine mv_append (L := B) rfl [(⟨nb + 1, q, s, x.L⟩ : BokD)] rfl rfl rfl rfl elt_B (by intro _; first | ((repeat (first | with_reducible exact Upd.here _ | with_reducible apply Upd.there)); done) | ((repeat (first | exact Upd.here _ | apply Upd.there)); done) | fail) (src_blk mE rfl) rfl oneB (by simp only [maxLen, List.length_cons, List.length_nil]; omega) (by simp only [List.length_cons, List.length_nil]; omega) (Nat.zero_le _) (fun v2 => ?_)
                refine ⟨sF, ?_⟩
                (refine gb_ownv v2 mE (fun A2 c2 hv2 _ _ _ => ?_); subst hv2)
                refine gb_take 16 rfl (by decide +kernel) rfl rfl (ys_ev (nw := true) hT rfl sI) sF ?_
                refine gb_only 17 (by decide +kernel) rfl rfl ?_
                first | (refine mv_box rfl rfl rfl rfl ?_; intro _) | (refine mv_alloc rfl hT rfl rfl ?_; intro _) | refine mv_store hT rfl rfl rfl rfl rfl rfl sO rfl ?_ | (refine mv_buildSlice rfl hT rfl rfl rfl rfl rfl rfl rfl rfl ?_; intro _)
                refine ⟨sF, ?_⟩
                refine gb_nil (by decide +kernel) ?_
                exact ⟨⟨(.slice A2 (B ++ [(⟨nb + 1, q, s, x.L⟩ : BokD)]).length c2, s), hs⟩, (by repeat (first | exact trivial | refine ⟨rfl, ?_⟩)), sA, sS⟩
              refine gball_not (by decide +kernel) ?_
              refine gball_not (by decide +kernel) ?_
              refine gball_not (by decide +kernel) ?_
              refine gball_not (by decide +kernel) ?_
              refine gball_not (by decide +kernel) ?_
              exact gball_end (by decide +kernel)
            refine gball_not (by decide +kernel) ?_
            refine gball_yes rfl rfl ?_ ?_
            · refine mv_yd rfl (yd_load_blk hT rfl rfl mE rfl rfl) ?_
              refine ⟨sF, ?_⟩
              refine gb_only 2 (by decide +kernel) rfl rfl ?_
              refine mv_call_rt (fun w hk => cloneB_own bA bm bc B w hnb' (by omega) (hk.pR (sl bA 3 BE B) mE)) rfl rfl rfl rfl rfl (by kernel_rfl) (fun _ => rfl) (fun v1 _ => ?_)
              refine ⟨sF, ?_⟩
              refine gb_only 12 (by decide +kernel) rfl rfl ?_
              refine mv_call_rt (fun w hk => clone_I x.s.A x.s.n x.s.c x.L w hxs (by omega) (hk.pR (sl x.s.A 1 (IE .i64) x.L) mE)) rfl rfl rfl rfl rfl (by kernel_rfl) (fun _ => rfl) (fun s hs => ?_)
              refine ⟨sF, ?_⟩
              refine gb_take 13 rfl (by decide +kernel) rfl rfl (ys_ev (nw := true) hT rfl sI) sF ?_
              refine gb_only 14 (by decide +kernel) rfl rfl ?_
              (refine mv_buildSlice (len := 1) rfl hT rfl rfl rfl rfl rfl rfl rfl rfl ?_; intro g7)
              refine ⟨sF, ?_⟩
              refine gb_only 15 (by decide +kernel) rfl rfl ?_
              refine mv_append (L := B) rfl [(⟨nb + 1, q, s, x.L⟩ : BokD)] rfl rfl rfl rfl elt_B (by intro _; first | ((repeat (first | with_reducible exact Upd.here _ | with_reducible apply Upd.there)); done) | ((repeat (first | exact Upd.here _ | apply Upd.there)); done) | fail) (src_blk mE rfl) rfl oneB (by simp only [maxLen, List.length_cons, List.length_nil]; omega) (by simp only [List.length_cons, List.length_nil]; omega) (Nat.zero_le _) (fun v2 => ?_)
              refine ⟨sF, ?_⟩
              (refine gb_ownv v2 mE (fun A2 c2 hv2 _ _ _ => ?_); subst hv2)
              refine gb_take 16 rfl (by decide +kernel) rfl rfl (ys_ev (nw := true) hT rfl sI) sF ?_
              refine gb_only 17 (by decide +kernel) rfl rfl ?_
              first | (refine mv_box rfl rfl rfl rfl ?_; intro _) | (refine mv_alloc rfl hT rfl rfl ?_; intro _) | refine mv_store hT rfl rfl rfl rfl rfl rfl sO rfl ?_ | (refine mv_buildSlice rfl hT rfl rfl rfl rfl rfl rfl rfl rfl ?_; intro _)
              refine ⟨sF, ?_⟩
              refine gb_nil (by decide +kernel) ?_
              exact ⟨⟨(.slice A2 (B ++ [(⟨nb + 1, q, s, x.L⟩ : BokD)]).length c2, s), hs⟩, (by repeat (first | exact trivial | refine ⟨rfl, ?_⟩)), sA, sS⟩
            refine gball_not (by decide +kernel) ?_
            refine gball_not (by decide +kernel) ?_
            refine gball_not (by decide +kernel) ?_
            refine gball_not (by decide +kernel) ?_
            refine gball_not (by decide +kernel) ?_
            refine gball_not (by decide +kernel) ?_
            refine gball_not (by decide +kernel) ?_
            refine gball_not (by decide +kernel) ?_
            refine gball_not (by decide +kernel) ?_
            refine gball_not (by decide +kernel) ?_
            refine gball_not (by decide +kernel) ?_
            refine gball_not (by decide +kernel) ?_
            refine gball_not (by decide +kernel) ?_
            exact gball_end (by decide +kernel)
          refine gball_not (by decide +kernel) ?_
          refine gball_not (by decide +kernel) ?_
          refine gball_yes rfl rfl ?_ ?_
          · refine mv_yd rfl (yd_load_blk hT rfl rfl mE rfl rfl) ?_
            refine ⟨sF, ?_⟩
            refine gb_only 1 (by decide +kernel) rfl rfl ?_
            refine mv_yd rfl (yd_load_blk hT rfl rfl mE rfl rfl) ?_
            refine ⟨sF, ?_⟩
            refine gb_only 2 (by decide +kernel) rfl rfl ?_
            refine mv_call_rt (fun w hk => cloneB_own bA bm bc B w hnb' (by omega) (hk.pR (sl bA 3 BE B) mE)) rfl rfl rfl rfl rfl (by kernel_rfl) (fun _ => rfl) (fun v1 _ => ?_)
            refine ⟨sF, ?_⟩
            refine gb_only 12 (by decide +kernel) rfl rfl ?_
            refine mv_call_rt (fun w hk => clone_I x.s.A x.s.n x.s.c x.L w hxs (by omega) (hk.pR (sl x.s.A 1 (IE .i64) x.L) mE)) rfl rfl rfl rfl rfl (by kernel_rfl) (fun _ => rfl) (fun s hs => ?_)
            refine ⟨sF, ?_⟩
            refine gb_take 13 rfl (by decide +kernel) rfl rfl (ys_ev (nw := true) hT rfl sI) sF ?_
            refine gb_only 14 (by decide +kernel) rfl rfl ?_
            (refine mv_buildSlice (len := 1) rfl hT rfl rfl rfl rfl rfl rfl rfl rfl ?_; intro g7)
            refine ⟨sF, ?_⟩
            refine gb_only 15 (by decide +kernel) rfl rfl ?_
            refine mv_append (L := B) rfl [(⟨nb + 1, q, s, x.L⟩ : BokD)] rfl rfl rfl rfl elt_B (by intro _; first | ((repeat (first | with_reducible exact Upd.here _ | with_reducible apply Upd.there)); done) | ((repeat (first | exact Upd.here _ | apply Upd.there)); done) | fail) (src_blk mE rfl) rfl oneB (by simp only [maxLen, List.length_cons, List.length_nil]; omega) (by simp only [List.length_cons, List.length_nil]; omega) (Nat.zero_le _) (fun v2 => ?_)
            refine ⟨sF, ?_⟩
            (refine gb_ownv v2 mE (fun A2 c2 hv2 _ _ _ => ?_); subst hv2)
            refine gb_take 16 rfl (by decide +kernel) rfl rfl (ys_ev (nw := true) hT rfl sI) sF ?_
            refine gb_only 17 (by decide +kernel) rfl rfl ?_
            first | (refine mv_box rfl rfl rfl rfl ?_; intro _) | (refine mv_alloc rfl hT rfl rfl ?_; intro _) | refine mv_store hT rfl rfl rfl rfl rfl rfl sO rfl ?_ | (refine mv_buildSlice rfl hT rfl rfl rfl rfl rfl rfl rfl rfl ?_; intro _)
            refine ⟨sF, ?_⟩
            refine gb_nil (by decide +kernel) ?_
            exact ⟨⟨(.slice A2 (B ++ [(⟨nb + 1, q, s, x.L⟩ : BokD)]).length c2, s), hs⟩, (by repeat (first | exact trivial | refine ⟨rfl, ?_⟩)), sA, sS⟩
          refine gball_not (by decide +kernel) ?_
          refine gball_not (by decide +kernel) ?_
          refine gball_not (by decide +kernel) ?_
          refine gball_not (by decide +kernel) ?_
          refine gball_not (by decide +kernel) ?_
          refine gball_not (by decide +kernel) ?_
          refine gball_not (by decide +kernel) ?_
          refine gball_not (by decide +kernel) ?_
          refine gball_not (by decide +kernel) ?_
          refine gball_not (by decide +kernel) ?_
          refine gball_not (by decide +kernel) ?_
          refine gball_not (by decide +kernel) ?_
          refine gball_not (by decide +kernel) ?_
          exact gball_end (by decide +kernel)
        refine gball_not (by decide +kernel) ?_
        refine gball_not (by decide +kernel) ?_
        refine gball_not (by decide +kernel) ?_
        refine gball_not (by decide +kernel) ?_
        refine gball_not (by decide +kernel) ?_
        refine gball_not (by decide +kernel) ?_
        refine gball_not (by decide +kernel) ?_
        refine gball_not (by decide +kernel) ?_
        refine gball_not (by decide +kernel) ?_
        refine gball_not (by decide +kernel) ?_
        exact gball_end (by decide +kernel)
      · obtain ⟨⟨v, s⟩, hs⟩ := p
        replace hs : s.Ok x.L.length := hs
        change GK _ _ _ [own 0 51 3 v BE (B ++ [(⟨nb + 1, q, s, x.L⟩ : BokD)]), blk g3 [.int .i64 nv, .int .i64 ng, .int .i64 (nb + 1), .int .u64 fl, .slice vA vm vc, .slice gA gm gc, v, .slice kA km kd, .slice tA tm tc] 29, blk g6 [.int .i64 0, .int .i64 0, .int .i64 0, .int .u64 0, .slice none 0 0, .slice none 0 0, .slice none 0 0, .slice none 0 0, .slice none 0 0] 29, sl s.A 1 (IE .i64) x.L] _
        refine gk_freeze _ (by intro _; first | ((repeat (first | with_reducible exact Upd.here _ | with_reducible apply Upd.there)); done) | ((repeat (first | exact Upd.here _ | apply Upd.there)); done) | fail) (fun A2 c2 hA2 hA21 hA22 hA23 => ?_); subst hA2
        refine gk_any [1] (Cut _ (fun _ : Unit => [(6, .pointer (some ⟨g6, 0, none⟩)), (7, .int .i64 (nb + 1)), (8, .int .i64 0)]) (fun _ => [sl A2 3 BE (B ++ [(⟨nb + 1, q, s, x.L⟩ : BokD)]), blk g6 [.int .i64 nv, .int .i64 ng, .int .i64 (nb + 1), .int .u64 fl, .slice vA vm vc, .slice gA gm gc, .slice A2 (B ++ [(⟨nb + 1, q, s, x.L⟩ : BokD)]).length c2, .slice kA km kd, .slice tA tm tc] 29, sl s.A 1 (IE .i64) x.L]) (fun _ => [catF (⟨nv, ng, nb, fl, ⟨vA, vm, vc⟩, V, ⟨gA, gm, gc⟩, G, ⟨bA, bm, bc⟩, B, ⟨kA, km, kd⟩, K, ⟨tA, tm, tc⟩, M⟩ : CatD)])) rfl rfl (by kernel_rfl) ?_ (cut_k fun _ => ?_)
        · skip
          refine gb_take 0 rfl (by decide +kernel) rfl rfl (by first | exact ys_blk hT rfl rfl mE rfl rfl | exact ys_row hT rfl rfl mE rfl rfl | exact ys_row0 hT rfl rfl mE rfl rfl) sF ?_
          refine gb_take 1 rfl (by decide +kernel) rfl rfl (ys_ev (nw := true) hT rfl sI) sF ?_
          refine gb_take 2 rfl (by decide +kernel) rfl rfl (by first | exact ys_blk hT rfl rfl mE rfl rfl | exact ys_row hT rfl rfl mE rfl rfl | exact ys_row0 hT rfl rfl mE rfl rfl) sF ?_
          refine gb_only 3 (by decide +kernel) rfl rfl ?_
          first | (refine mv_box rfl rfl rfl rfl ?_; intro _) | (refine mv_alloc rfl hT rfl rfl ?_; intro _) | refine mv_store hT rfl rfl rfl rfl rfl rfl sO rfl ?_ | (refine mv_buildSlice rfl hT rfl rfl rfl rfl rfl rfl rfl rfl ?_; intro _)
          refine ⟨sF, ?_⟩
          refine gb_take 4 rfl (by decide +kernel) rfl rfl (ys_ev (nw := true) hT rfl sI) sF ?_
          refine gb_take 5 rfl (by decide +kernel) rfl rfl (ys_ev (nw := true) hT rfl sI) sF ?_
          refine gb_nil (by decide +kernel) ?_
          exact ⟨(), (by repeat (first | exact trivial | refine ⟨rfl, ?_⟩)), sA, sS⟩
        · (repeat (first | refine g_nil ?_ | refine g_pure true hT rfl rfl rfl sI ?_ | refine g_skip rfl rfl ?_ | refine g_skip0 rfl rfl ?_ | refine gk_region rfl ?_ | refine gk_cond_t rfl rfl ?_ | refine gk_cond_f rfl rfl ?_ | refine g_yd rfl rfl (yd_load_blk hT rfl rfl mE rfl rfl) ?_ | refine g_yd rfl rfl (yd_load_row hT rfl rfl mE rfl rfl) ?_ | refine g_yd rfl rfl (yd_load_row0 hT rfl rfl mE rfl rfl) ?_ | refine g_yd rfl rfl (yd_eql rfl rfl rfl rfl rfl (by kernel_rfl)) ?_ | refine g_yd rfl rfl (yd_neq rfl rfl rfl rfl rfl (by kernel_rfl)) ?_ | refine g_yd rfl rfl (yd_index hT rfl rfl rfl sI rfl) ?_ | refine g_yd rfl rfl (yd_slice_nil hT rfl rfl rfl rfl) ?_ | refine g_yd rfl rfl (yd_build_arr hT rfl rfl rfl rfl rfl rfl) ?_ | (refine g_mv rfl ?_; first | (refine mv_box rfl rfl rfl rfl ?_; intro _) | (refine mv_alloc rfl hT rfl rfl ?_; intro _) | refine mv_store hT rfl rfl rfl rfl rfl rfl sO rfl ?_ | (refine mv_buildSlice rfl hT rfl rfl rfl rfl rfl rfl rfl rfl ?_; intro _)) | refine g_yd rfl rfl (Ys.yd (ys_str_eql hT rfl rfl rfl rfl)) ?_ | refine g_yd rfl rfl (Ys.yd (ys_str_neq hT rfl rfl rfl rfl)) ?_))
          refine gk_ret hT rfl rfl (.cell (cs := [.int .i64 nv, .int .i64 ng, .int .i64 (nb + 1), .int .u64 fl, .slice vA vm vc, .slice gA gm gc, .slice A2 (B ++ [(⟨nb + 1, q, s, x.L⟩ : BokD)]).length c2, .slice kA km kd, .slice tA tm tc]) (Tg := 29) rfl mE rfl rfl (.tmp rfl (.tmp rfl .nil))) (fun w' hk => ?_)
          exact RetS.mk ((⟨nv, ng, nb + 1, fl, ⟨vA, vm, vc⟩, V, ⟨gA, gm, gc⟩, G, ⟨A2, _, c2⟩, B ++ [(⟨nb + 1, q, s, x.L⟩ : BokD)], ⟨kA, km, kd⟩, K, ⟨tA, tm, tc⟩, M⟩ : CatD), nb + 1, 0) ⟨⟨hc.v, hc.g, ⟨rfl, hA21, hA22, hA23⟩, hc.k, hc.t, hc.V, hc.G, all_snoc hc.B hs, hc.m, hc.nv, hc.ng, by dsimp only; omega⟩, by rw [CatD.p, List.map_append]; rfl⟩ rfl hk (.cons (catF_rs (part_rs hk mE d_v) (part_rs hk mE d_V) (part_rs hk mE d_g) (part_rs hk mE d_G) (RS1.own hk mE) (RS1.all (all_snoc (fun x hx => part_rs hk mE (Der.elem d_B hx)) (RS1.own hk (φ := sl s.A 1 (IE .i64) x.L) mE))) (part_rs hk mE d_k) (part_rs hk mE d_t)) .nil)
theorem rmark_any (c : CatD) (id q : Int) (w : World) (hc : c.Ok) (h20 : c.B.length ≤ 20) (h30 : ∀ x, x ∈ c.G → x.L.length ≤ 30) (h : Rd1 w (catF c)) :
    Calls Try.prog 19 [c.val, .int .i64 id, .int .u64 q].toArray w (RetC3 c (markP c id q) w) := by
  obtain ⟨nv, ng, nb, fl, ⟨vA, vm, vc⟩, V, ⟨gA, gm, gc⟩, G, ⟨bA, bm, bc⟩, B, ⟨kA, km, kd⟩, K, ⟨tA, tm, tc⟩, M⟩ := c
  have hn : gm = G.length := hc.g.n
  have hnb' : bm = B.length := hc.b.n
  replace h20 : B.length ≤ 20 := h20
  replace h30 : ∀ x, x ∈ G → x.L.length ≤ 30 := h30
  have hnb : -9223372036854775808 ≤ nb ∧ nb ≤ 9223372036854775807 := hc.nb
  obtain ⟨x0, hx0⟩ : ∃ x, findF GrpD.id G id = x := ⟨_, rfl⟩
  have hpl : ∀ w, Rd1 w (catF (⟨nv, ng, nb, fl, ⟨vA, vm, vc⟩, V, ⟨gA, gm, gc⟩, G, ⟨bA, bm, bc⟩, B, ⟨kA, km, kd⟩, K, ⟨tA, tm, tc⟩, M⟩ : CatD)) → Calls Try.prog 46 [.agg #[.int .i64 nv, .int .i64 ng, .int .i64 nb, .int .u64 fl, .slice vA vm vc, .slice gA gm gc, .slice bA bm bc, .slice kA km kd, .slice tA tm tc], .int .i64 id].toArray w fun e w' => e = .returned (.tuple #[.agg #[.int .i64 x0.id, .slice x0.s.A x0.s.n x0.s.c], .bool (pos (G.map GrpD.id) id).isSome]) ∧ Below w.heap.size w w' := fun w h => by
    have := findG_any (⟨nv, ng, nb, fl, ⟨vA, vm, vc⟩, V, ⟨gA, gm, gc⟩, G, ⟨bA, bm, bc⟩, B, ⟨kA, km, kd⟩, K, ⟨tA, tm, tc⟩, M⟩ : CatD) id w hc h
    rw [hx0] at this
    exact this
  cases hp : pos (G.map GrpD.id) id with
  | none =>
    rw [hp] at hpl
    rw [mark_none hp]
    dsimp only [CatD.val]
    refine g_enter0 T [] [] [catF (⟨nv, ng, nb, fl, ⟨vA, vm, vc⟩, V, ⟨gA, gm, gc⟩, G, ⟨bA, bm, bc⟩, B, ⟨kA, km, kd⟩, K, ⟨tA, tm, tc⟩, M⟩ : CatD)] Try.func19 rfl Try.ntmps19 rfl (Rds.cons h .nil).kn ?_
    (repeat' (first | (first | refine g_nil ?_ | refine g_pure true hT rfl rfl rfl sI ?_ | refine g_skip rfl rfl ?_ | refine g_skip0 rfl rfl ?_ | refine gk_region rfl ?_ | refine gk_cond_t rfl rfl ?_ | refine gk_cond_f rfl rfl ?_ | refine g_yd rfl rfl (yd_load_blk hT rfl rfl mE rfl rfl) ?_ | refine g_yd rfl rfl (yd_load_row hT rfl rfl mE rfl rfl) ?_ | refine g_yd rfl rfl (yd_load_row0 hT rfl rfl mE rfl rfl) ?_ | refine g_yd rfl rfl (yd_eql rfl rfl rfl rfl rfl (by kernel_rfl)) ?_ | refine g_yd rfl rfl (yd_neq rfl rfl rfl rfl rfl (by kernel_rfl)) ?_ | refine g_yd rfl rfl (yd_index hT rfl rfl rfl sI rfl) ?_ | refine g_yd rfl rfl (yd_slice_nil hT rfl rfl rfl rfl) ?_ | refine g_yd rfl rfl (yd_build_arr hT rfl rfl rfl rfl rfl rfl) ?_ | (refine g_mv rfl ?_; first | (refine mv_box rfl rfl rfl rfl ?_; intro _) | (refine mv_alloc rfl hT rfl rfl ?_; intro _) | refine mv_store hT rfl rfl rfl rfl rfl rfl sO rfl ?_ | (refine mv_buildSlice rfl hT rfl rfl rfl rfl rfl rfl rfl rfl ?_; intro _)) | refine g_yd rfl rfl (Ys.yd (ys_str_eql hT rfl rfl rfl rfl)) ?_ | refine g_yd rfl rfl (Ys.yd (ys_str_neq hT rfl rfl rfl rfl)) ?_) | (refine g_mv rfl ?_; first | refine mv_call_bel (fun w hk => hpl w (hk.rR mE)) rfl rfl rfl rfl rfl (by kernel_rfl) ?_) | ((first | refine g_split rfl rfl tE (fun _ => ?_) (fun _ => ?_) | refine gk_cond rfl rfl tE (fun _ => ?_) (fun _ => ?_)) <;> (try first | (exfalso; omega; done) | (rename_i hx; exact absurd rfl hx) | (rename_i hx; cases hx; done)))))
    refine gk_ret hT rfl rfl (.cell (cs := [.int .i64 0, .int .i64 0, .int .i64 0, .int .u64 0, .slice none 0 0, .slice none 0 0, .slice none 0 0, .slice none 0 0, .slice none 0 0]) (Tg := 29) rfl mE rfl rfl (.tmp rfl (.tmp rfl .nil))) (fun w' hk => ?_)
    exact RetS.mk (CatD.z, 0, 42) ⟨z_ok, rfl⟩ rfl hk (.cons rs_z .nil)
  | some i =>
    rw [hp] at hpl
    obtain ⟨x, hx, hxi, hi⟩ := pos_get hp
    have hxm := List.mem_of_getElem? hx
    obtain rfl : x = x0 := by rw [← hx0, findF_some hp hx]
    by_cases h8 : 7 < B.length ∨ 65534 < nb
    · rw [mark_many hp h8]
      dsimp only [CatD.val]
      refine g_enter0 T [] [] [catF (⟨nv, ng, nb, fl, ⟨vA, vm, vc⟩, V, ⟨gA, gm, gc⟩, G, ⟨bA, bm, bc⟩, B, ⟨kA, km, kd⟩, K, ⟨tA, tm, tc⟩, M⟩ : CatD)] Try.func19 rfl Try.ntmps19 rfl (Rds.cons h .nil).kn ?_
      (repeat' (first | (first | refine g_nil ?_ | refine g_pure true hT rfl rfl rfl sI ?_ | refine g_skip rfl rfl ?_ | refine g_skip0 rfl rfl ?_ | refine gk_region rfl ?_ | refine gk_cond_t rfl rfl ?_ | refine gk_cond_f rfl rfl ?_ | refine g_yd rfl rfl (yd_load_blk hT rfl rfl mE rfl rfl) ?_ | refine g_yd rfl rfl (yd_load_row hT rfl rfl mE rfl rfl) ?_ | refine g_yd rfl rfl (yd_load_row0 hT rfl rfl mE rfl rfl) ?_ | refine g_yd rfl rfl (yd_eql rfl rfl rfl rfl rfl (by kernel_rfl)) ?_ | refine g_yd rfl rfl (yd_neq rfl rfl rfl rfl rfl (by kernel_rfl)) ?_ | refine g_yd rfl rfl (yd_index hT rfl rfl rfl sI rfl) ?_ | refine g_yd rfl rfl (yd_slice_nil hT rfl rfl rfl rfl) ?_ | refine g_yd rfl rfl (yd_build_arr hT rfl rfl rfl rfl rfl rfl) ?_ | (refine g_mv rfl ?_; first | (refine mv_box rfl rfl rfl rfl ?_; intro _) | (refine mv_alloc rfl hT rfl rfl ?_; intro _) | refine mv_store hT rfl rfl rfl rfl rfl rfl sO rfl ?_ | (refine mv_buildSlice rfl hT rfl rfl rfl rfl rfl rfl rfl rfl ?_; intro _)) | refine g_yd rfl rfl (Ys.yd (ys_str_eql hT rfl rfl rfl rfl)) ?_ | refine g_yd rfl rfl (Ys.yd (ys_str_neq hT rfl rfl rfl rfl)) ?_) | (refine g_mv rfl ?_; first | refine mv_call_bel (fun w hk => hpl w (hk.rR mE)) rfl rfl rfl rfl rfl (by kernel_rfl) ?_) | ((first | refine g_split rfl rfl tE (fun _ => ?_) (fun _ => ?_) | refine gk_cond rfl rfl tE (fun _ => ?_) (fun _ => ?_)) <;> (try first | (exfalso; omega; done) | (rename_i hx; exact absurd rfl hx) | (rename_i hx; cases hx; done)))))
      all_goals refine gk_ret hT rfl rfl (.cell (cs := [.int .i64 0, .int .i64 0, .int .i64 0, .int .u64 0, .slice none 0 0, .slice none 0 0, .slice none 0 0, .slice none 0 0, .slice none 0 0]) (Tg := 29) rfl mE rfl rfl (.tmp rfl (.tmp rfl .nil))) (fun w' hk => ?_)
      all_goals exact RetS.mk (CatD.z, 0, 32) ⟨z_ok, rfl⟩ rfl hk (.cons rs_z .nil)
    · rw [mark_new hp hx h8]
      dsimp only [CatD.val]
      refine g_enter0 T [] [] [catF (⟨nv, ng, nb, fl, ⟨vA, vm, vc⟩, V, ⟨gA, gm, gc⟩, G, ⟨bA, bm, bc⟩, B, ⟨kA, km, kd⟩, K, ⟨tA, tm, tc⟩, M⟩ : CatD)] Try.func19 rfl Try.ntmps19 rfl (Rds.cons h .nil).kn ?_
      refine gk_der [catF (⟨nv, ng, nb, fl, ⟨vA, vm, vc⟩, V, ⟨gA, gm, gc⟩, G, ⟨bA, bm, bc⟩, B, ⟨kA, km, kd⟩, K, ⟨tA, tm, tc⟩, M⟩ : CatD)] (φ := sl bA 3 BE B) d_b sS ?_
      (repeat' (first | (first | refine g_nil ?_ | refine g_pure true hT rfl rfl rfl sI ?_ | refine g_skip rfl rfl ?_ | refine g_skip0 rfl rfl ?_ | refine gk_region rfl ?_ | refine gk_cond_t rfl rfl ?_ | refine gk_cond_f rfl rfl ?_ | refine g_yd rfl rfl (yd_load_blk hT rfl rfl mE rfl rfl) ?_ | refine g_yd rfl rfl (yd_load_row hT rfl rfl mE rfl rfl) ?_ | refine g_yd rfl rfl (yd_load_row0 hT rfl rfl mE rfl rfl) ?_ | refine g_yd rfl rfl (yd_eql rfl rfl rfl rfl rfl (by kernel_rfl)) ?_ | refine g_yd rfl rfl (yd_neq rfl rfl rfl rfl rfl (by kernel_rfl)) ?_ | refine g_yd rfl rfl (yd_index hT rfl rfl rfl sI rfl) ?_ | refine g_yd rfl rfl (yd_slice_nil hT rfl rfl rfl rfl) ?_ | refine g_yd rfl rfl (yd_build_arr hT rfl rfl rfl rfl rfl rfl) ?_ | (refine g_mv rfl ?_; first | (refine mv_box rfl rfl rfl rfl ?_; intro _) | (refine mv_alloc rfl hT rfl rfl ?_; intro _) | refine mv_store hT rfl rfl rfl rfl rfl rfl sO rfl ?_ | (refine mv_buildSlice rfl hT rfl rfl rfl rfl rfl rfl rfl rfl ?_; intro _)) | refine g_yd rfl rfl (Ys.yd (ys_str_eql hT rfl rfl rfl rfl)) ?_ | refine g_yd rfl rfl (Ys.yd (ys_str_neq hT rfl rfl rfl rfl)) ?_) | (refine g_mv rfl ?_; first | refine mv_call_bel (fun w hk => hpl w (hk.rR mE)) rfl rfl rfl rfl rfl (by kernel_rfl) ?_) | ((first | refine g_split rfl rfl tE (fun _ => ?_) (fun _ => ?_) | refine gk_cond rfl rfl tE (fun _ => ?_) (fun _ => ?_)) <;> (try first | (exfalso; omega; done) | (rename_i hx; exact absurd rfl hx) | (rename_i hx; cases hx; done)))))
      rename_i g3 g6 g9 _ _
      refine gk_any [0] (Cut _ (fun v : Value => [(3, .pointer (some ⟨g3, 0, none⟩)), (6, .pointer (some ⟨g6, 0, none⟩))]) (fun v => [own 0 51 3 v BE (B ++ [(⟨nb + 1, q, x.s, x.L⟩ : BokD)]), blk g3 [.int .i64 nv, .int .i64 ng, .int .i64 (nb + 1), .int .u64 fl, .slice vA vm vc, .slice gA gm gc, v, .slice kA km kd, .slice tA tm tc] 29, blk g6 [.int .i64 0, .int .i64 0, .int .i64 0, .int .u64 0, .slice none 0 0, .slice none 0 0, .slice none 0 0, .slice none 0 0, .slice none 0 0] 29]) (fun _ => [catF (⟨nv, ng, nb, fl, ⟨vA, vm, vc⟩, V, ⟨gA, gm, gc⟩, G, ⟨bA, bm, bc⟩, B, ⟨kA, km, kd⟩, K, ⟨tA, tm, tc⟩, M⟩ : CatD)])) rfl rfl (by kernel_rfl) ?_ (cut_k fun v => ?_)
      · skip
        refine gb_take 1 rfl (by decide +kernel) rfl rfl (ys_ev (nw := true) hT rfl sI) sF ?_
        refine gb_take 4 rfl (by decide +kernel) rfl rfl (ys_ev (nw := true) hT rfl sI) sF ?_
        refine gb_take 6 rfl (by decide +kernel) rfl rfl (ys_ev (nw := true) hT rfl sI) sF ?_
        refine gb_take 7 rfl (by decide +kernel) rfl rfl (ys_ev (nw := true) hT rfl sI) sF ?_
        refine gb_take 8 rfl (by decide +kernel) rfl rfl (by first | exact ys_blk hT rfl rfl mE rfl rfl | exact ys_row hT rfl rfl mE rfl rfl | exact ys_row0 hT rfl rfl mE rfl rfl) sF ?_
        refine gb_all (by decide +kernel) ?_
        refine gball_yes rfl rfl ?_ ?_
        · refine mv_empty 3 BE rfl hT rfl rfl rfl rfl rfl (fun g => ?_)
          refine ⟨sF, ?_⟩
          refine gb_all (by decide +kernel) ?_
          refine gball_not (by decide +kernel) ?_
          refine gball_not (by decide +kernel) ?_
          refine gball_yes rfl rfl ?_ ?_
          · refine mv_yd rfl (yd_load_blk hT rfl rfl mE rfl rfl) ?_
            refine ⟨sF, ?_⟩
            refine gb_all (by decide +kernel) ?_
            refine gball_not (by decide +kernel) ?_
            refine gball_not (by decide +kernel) ?_
            refine gball_not (by decide +kernel) ?_
            refine gball_yes rfl rfl ?_ ?_
            · refine mv_append (L := []) rfl B rfl rfl rfl rfl elt_B (by intro _; first | ((repeat (first | with_reducible exact Upd.here _ | with_reducible apply Upd.there)); done) | ((repeat (first | exact Upd.here _ | apply Upd.there)); done) | fail) (src_R mE) hnb' oneB (by simp only [maxLen, List.length_cons, List.length_nil]; omega) (by simp only [List.length_cons, List.length_nil]; omega) (Nat.zero_le _) (fun v1 => ?_)
              refine ⟨sF, ?_⟩
              refine gb_only 5 (by decide +kernel) rfl rfl ?_
              refine mv_yd rfl (yd_load_blk hT rfl rfl mE rfl rfl) ?_
              refine ⟨sF, ?_⟩
              refine gb_take 9 rfl (by decide +kernel) rfl rfl (ys_ev (nw := true) hT rfl sI) sF ?_
              refine gb_only 10 (by decide +kernel) rfl rfl ?_
              (refine mv_buildSlice (len := 1) rfl hT rfl rfl rfl rfl rfl rfl rfl rfl ?_; intro g7)
              refine ⟨sF, ?_⟩
              refine gb_only 11 (by decide +kernel) rfl rfl ?_
              refine mv_append (L := [] ++ B) rfl [(⟨nb + 1, q, x.s, x.L⟩ : BokD)] rfl rfl rfl rfl elt_B (by intro _; first | ((repeat (first | with_reducible exact Upd.here _ | with_reducible apply Upd.there)); done) | ((repeat (first | exact Upd.here _ | apply Upd.there)); done) | fail) (src_blk mE rfl) rfl oneB (by simp only [maxLen, List.length_cons, List.length_nil, List.nil_append]; omega) (by simp only [List.length_cons, List.length_nil, List.nil_append]; omega) (Nat.zero_le _) (fun v2 => ?_)
              refine ⟨sF, ?_⟩
              (rw [List.nil_append]; refine gb_ownv v2 mE (fun A2 c2 hv2 _ _ _ => ?_); subst hv2)
              refine gb_take 12 rfl (by decide +kernel) rfl rfl (ys_ev (nw := true) hT rfl sI) sF ?_
              refine gb_only 13 (by decide +kernel) rfl rfl ?_
              first | (refine mv_box rfl rfl rfl rfl ?_; intro _) | (refine mv_alloc rfl hT rfl rfl ?_; intro _) | refine mv_store hT rfl rfl rfl rfl rfl rfl sO rfl ?_ | (refine mv_buildSlice rfl hT rfl rfl rfl rfl rfl rfl rfl rfl ?_; intro _)
              refine ⟨sF, ?_⟩
              refine gb_nil (by decide +kernel) ?_
              exact ⟨_, (by repeat (first | exact trivial | refine ⟨rfl, ?_⟩)), sA, sS⟩
            refine gball_not (by decide +kernel) ?_
            refine gball_yes rfl rfl ?_ ?_
            · refine mv_yd rfl (yd_load_blk hT rfl rfl mE rfl rfl) ?_
              refine ⟨sF, ?_⟩
              refine gb_take 9 rfl (by decide +kernel) rfl rfl (ys_ev (nw := true) hT rfl sI) sF ?_
              refine gb_all (by decide +kernel) ?_
              refine gball_not (by decide +kernel) ?_
              refine gball_not (by decide +kernel) ?_
              refine gball_not (by decide +kernel) ?_
              refine gball_yes rfl rfl ?_ ?_
              · refine mv_append (L := []) rfl B rfl rfl rfl rfl elt_B (by intro _; first | ((repeat (first | with_reducible exact Upd.here _ | with_reducible apply Upd.there)); done) | ((repeat (first | exact Upd.here _ | apply Upd.there)); done) | fail) (src_R mE) hnb' oneB (by simp only [maxLen, List.length_cons, List.length_nil]; omega) (by simp only [List.length_cons, List.length_nil]; omega) (Nat.zero_le _) (fun v1 => ?_)
                refine ⟨sF, ?_⟩
                refine gb_only 10 (by decide +kernel) rfl rfl ?_
                (refine mv_buildSlice (len := 1) rfl hT rfl rfl rfl rfl rfl rfl rfl rfl ?_; intro g7)
                refine ⟨sF, ?_⟩
                refine gb_only 11 (by decide +kernel) rfl rfl ?_
                refine mv_append (L := [] ++ B) rfl [(⟨nb + 1, q, x.s, x.L⟩ : BokD)] rfl rfl rfl rfl elt_B (by intro _; first | ((repeat (first | with_reducible exact Upd.here _ | with_reducible apply Upd.there)); done) | ((repeat (first | exact Upd.here _ | apply Upd.there)); done) | fail) (src_blk mE rfl) rfl oneB (by simp only [maxLen, List.length_cons, List.length_nil, List.nil_append]; omega) (by simp only [List.length_cons, List.length_nil, List.nil_append]; omega) (Nat.zero_le _) (fun v2 => ?_)
                refine ⟨sF, ?_⟩
                (rw [List.nil_append]; refine gb_ownv v2 mE (fun A2 c2 hv2 _ _ _ => ?_); subst hv2)
                refine gb_take 12 rfl (by decide +kernel) rfl rfl (ys_ev (nw := true) hT rfl sI) sF ?_
                refine gb_only 13 (by decide +kernel) rfl rfl ?_
                first | (refine mv_box rfl rfl rfl rfl ?_; intro _) | (refine mv_alloc rfl hT rfl rfl ?_; intro _) | refine mv_store hT rfl rfl rfl rfl rfl rfl sO rfl ?_ | (refine mv_buildSlice rfl hT rfl rfl rfl rfl rfl rfl rfl rfl ?_; intro _)
                refine ⟨sF, ?_⟩
                refine gb_nil (by decide +kernel) ?_
                exact ⟨_, (by repeat (first | exact trivial | refine ⟨rfl, ?_⟩)), sA, sS⟩
              refine gball_not (by decide +kernel) ?_
              refine gball_not (by decide +kernel) ?_
              refine gball_not (by decide +kernel) ?_
              refine gball_not (by decide +kernel) ?_
              refine gball_not (by decide +kernel) ?_
              refine gball_not (by decide +kernel) ?_
              refine gball_yes rfl rfl ?_ ?_
              · (refine mv_buildSlice (len := 1) rfl hT rfl rfl rfl rfl rfl rfl rfl rfl ?_; intro g7)
                refine ⟨sF, ?_⟩
                refine gb_only 3 (by decide +kernel) rfl rfl ?_
                refine mv_append (L := []) rfl B rfl rfl rfl rfl elt_B (by intro _; first | ((repeat (first | with_reducible exact Upd.here _ | with_reducible apply Upd.there)); done) | ((repeat (first | exact Upd.here _ | apply Upd.there)); done) | fail) (src_R mE) hnb' oneB (by simp only [maxLen, List.length_cons, List.length_nil]; omega) (by simp only [List.length_cons, List.length_nil]; omega) (Nat.zero_le _) (fun v1 => ?_)
                refine ⟨sF, ?_⟩
                refine gb_only 11 (by decide +kernel) rfl rfl ?_
                refine mv_append (L := [] ++ B) rfl [(⟨nb + 1, q, x.s, x.L⟩ : BokD)] rfl rfl rfl rfl elt_B (by intro _; first | ((repeat (first | with_reducible exact Upd.here _ | with_reducible apply Upd.there)); done) | ((repeat (first | exact Upd.here _ | apply Upd.there)); done) | fail) (src_blk mE rfl) rfl oneB (by simp only [maxLen, List.length_cons, List.length_nil, List.nil_append]; omega) (by simp only [List.length_cons, List.length_nil, List.nil_append]; omega) (Nat.zero_le _) (fun v2 => ?_)
                refine ⟨sF, ?_⟩
                (rw [List.nil_append]; refine gb_ownv v2 mE (fun A2 c2 hv2 _ _ _ => ?_); subst hv2)
                refine gb_take 12 rfl (by decide +kernel) rfl rfl (ys_ev (nw := true) hT rfl sI) sF ?_
                refine gb_only 13 (by decide +kernel) rfl rfl ?_
                first | (refine mv_box rfl rfl rfl rfl ?_; intro _) | (refine mv_alloc rfl hT rfl rfl ?_; intro _) | refine mv_store hT rfl rfl rfl rfl rfl rfl sO rfl ?_ | (refine mv_buildSlice rfl hT rfl rfl rfl rfl rfl rfl rfl rfl ?_; intro _)
                refine ⟨sF, ?_⟩
                refine gb_nil (by decide +kernel) ?_
                exact ⟨_, (by repeat (first | exact trivial | refine ⟨rfl, ?_⟩)), sA, sS⟩
              refine gball_not (by decide +kernel) ?_
              refine gball_not (by decide +kernel) ?_
              refine gball_not (by decide +kernel) ?_
              exact gball_end (by decide +kernel)
            refine gball_not (by decide +kernel) ?_
            refine gball_not (by decide +kernel) ?_
            refine gball_not (by decide +kernel) ?_
            refine gball_not (by decide +kernel) ?_
            refine gball_not (by decide +kernel) ?_
            refine gball_not (by decide +kernel) ?_
            refine gball_not (by decide +kernel) ?_
            refine gball_not (by decide +kernel) ?_
            exact gball_end (by decide +kernel)
          refine gball_not (by decide +kernel) ?_
          refine gball_not (by decide +kernel) ?_
          refine gball_yes rfl rfl ?_ ?_
          · refine mv_yd rfl (yd_load_blk hT rfl rfl mE rfl rfl) ?_
            refine ⟨sF, ?_⟩
            refine gb_take 9 rfl (by decide +kernel) rfl rfl (ys_ev (nw := true) hT rfl sI) sF ?_
            refine gb_all (by decide +kernel) ?_
            refine gball_not (by decide +kernel) ?_
            refine gball_not (by decide +kernel) ?_
            refine gball_yes rfl rfl ?_ ?_
            · refine mv_yd rfl (yd_load_blk hT rfl rfl mE rfl rfl) ?_
              refine ⟨sF, ?_⟩
              refine gb_all (by decide +kernel) ?_
              refine gball_not (by decide +kernel) ?_
              refine gball_not (by decide +kernel) ?_
              refine gball_not (by decide +kernel) ?_
              refine gball_yes rfl rfl ?_ ?_
              · refine mv_append (L := []) rfl B rfl rfl rfl rfl elt_B (by intro _; first | ((repeat (first | with_reducible exact Upd.here _ | with_reducible apply Upd.there)); done) | ((repeat (first | exact Upd.here _ | apply Upd.there)); done) | fail) (src_R mE) hnb' oneB (by simp only [maxLen, List.length_cons, List.length_nil]; omega) (by simp only [List.length_cons, List.length_nil]; omega) (Nat.zero_le _) (fun v1 => ?_)
                refine ⟨sF, ?_⟩
                refine gb_only 10 (by decide +kernel) rfl rfl ?_
                (refine mv_buildSlice (len := 1) rfl hT rfl rfl rfl rfl rfl rfl rfl rfl ?_; intro g7)
                refine ⟨sF, ?_⟩
                refine gb_only 11 (by decide +kernel) rfl rfl ?_
                refine mv_append (L := [] ++ B) rfl [(⟨nb + 1, q, x.s, x.L⟩ : BokD)] rfl rfl rfl rfl elt_B (by intro _; first | ((repeat (first | with_reducible exact Upd.here _ | with_reducible apply Upd.there)); done) | ((repeat (first | exact Upd.here _ | apply Upd.there)); done) | fail) (src_blk mE rfl) rfl oneB (by simp only [maxLen, List.length_cons, List.length_nil, List.nil_append]; omega) (by simp only [List.length_cons, List.length_nil, List.nil_append]; omega) (Nat.zero_le _) (fun v2 => ?_)
                refine ⟨sF, ?_⟩
                (rw [List.nil_append]; refine gb_ownv v2 mE (fun A2 c2 hv2 _ _ _ => ?_); subst hv2)
                refine gb_take 12 rfl (by decide +kernel) rfl rfl (ys_ev (nw := true) hT rfl sI) sF ?_
                refine gb_only 13 (by decide +kernel) rfl rfl ?_
                first | (refine mv_box rfl rfl rfl rfl ?_; intro _) | (refine mv_alloc rfl hT rfl rfl ?_; intro _) | refine mv_store hT rfl rfl rfl rfl rfl rfl sO rfl ?_ | (refine mv_buildSlice rfl hT rfl rfl rfl rfl rfl rfl rfl rfl ?_; intro _)
                refine ⟨sF, ?_⟩
                refine gb_nil (by decide +kernel) ?_
                exact ⟨_, (by repeat (first | exact trivial | refine ⟨rfl, ?_⟩)), sA, sS⟩
              refine gball_not (by decide +kernel) ?_
              refine gball_not (by decide +kernel) ?_
              refine gball_not (by decide +kernel) ?_
              refine gball_not (by decide +kernel) ?_
              refine gball_not (by decide +kernel) ?_
              refine gball_not (by decide +kernel) ?_
              refine gball_yes rfl rfl ?_ ?_
              · (refine mv_buildSlice (len := 1) rfl hT rfl rfl rfl rfl rfl rfl rfl rfl ?_; intro g7)
                refine ⟨sF, ?_⟩
                refine gb_only 3 (by decide +kernel) rfl rfl ?_
                refine mv_append (L := []) rfl B rfl rfl rfl rfl elt_B (by intro _; first | ((repeat (first | with_reducible exact Upd.here _ | with_reducible apply Upd.there)); done) | ((repeat (first | exact Upd.here _ | apply Upd.there)); done) | fail) (src_R mE) hnb' oneB (by simp only [maxLen, List.length_cons, List.length_nil]; omega) (by simp only [List.length_cons, List.length_nil]; omega) (Nat.zero_le _) (fun v1 => ?_)
                refine ⟨sF, ?_⟩
                refine gb_only 11 (by decide +kernel) rfl rfl ?_
                refine mv_append (L := [] ++ B) rfl [(⟨nb + 1, q, x.s, x.L⟩ : BokD)] rfl rfl rfl rfl elt_B (by intro _; first | ((repeat (first | with_reducible exact Upd.here _ | with_reducible apply Upd.there)); done) | ((repeat (first | exact Upd.here _ | apply Upd.there)); done) | fail) (src_blk mE rfl) rfl oneB (by simp only [maxLen, List.length_cons, List.length_nil, List.nil_append]; omega) (by simp only [List.length_cons, List.length_nil, List.nil_append]; omega) (Nat.zero_le _) (fun v2 => ?_)
                refine ⟨sF, ?_⟩
                (rw [List.nil_append]; refine gb_ownv v2 mE (fun A2 c2 hv2 _ _ _ => ?_); subst hv2)
                refine gb_take 12 rfl (by decide +kernel) rfl rfl (ys_ev (nw := true) hT rfl sI) sF ?_
                refine gb_only 13 (by decide +kernel) rfl rfl ?_
                first | (refine mv_box rfl rfl rfl rfl ?_; intro _) | (refine mv_alloc rfl hT rfl rfl ?_; intro _) | refine mv_store hT rfl rfl rfl rfl rfl rfl sO rfl ?_ | (refine mv_buildSlice rfl hT rfl rfl rfl rfl rfl rfl rfl rfl ?_; intro _)
                refine ⟨sF, ?_⟩
                refine gb_nil (by decide +kernel) ?_
                exact ⟨_, (by repeat (first | exact trivial | refine ⟨rfl, ?_⟩)), sA, sS⟩
              refine gball_not (by decide +kernel) ?_
              refine gball_not (by decide +kernel) ?_
              refine gball_not (by decide +kernel) ?_
              exact gball_end (by decide +kernel)
            refine gball_not (by decide +kernel) ?_
            refine gball_not (by decide +kernel) ?_
            refine gball_not (by decide +kernel) ?_
            refine gball_not (by decide +kernel) ?_
            refine gball_not (by decide +kernel) ?_
            refine gball_not (by decide +kernel) ?_
            refine gball_not (by decide +kernel) ?_
            refine gball_yes rfl rfl ?_ ?_
            · (refine mv_buildSlice (len := 1) rfl hT rfl rfl rfl rfl rfl rfl rfl rfl ?_; intro g7)
              refine ⟨sF, ?_⟩
              refine gb_only 2 (by decide +kernel) rfl rfl ?_
              refine mv_yd rfl (yd_load_blk hT rfl rfl mE rfl rfl) ?_
              refine ⟨sF, ?_⟩
              refine gb_only 3 (by decide +kernel) rfl rfl ?_
              refine mv_append (L := []) rfl B rfl rfl rfl rfl elt_B (by intro _; first | ((repeat (first | with_reducible exact Upd.here _ | with_reducible apply Upd.there)); done) | ((repeat (first | exact Upd.here _ | apply Upd.there)); done) | fail) (src_R mE) hnb' oneB (by simp only [maxLen, List.length_cons, List.length_nil]; omega) (by simp only [List.length_cons, List.length_nil]; omega) (Nat.zero_le _) (fun v1 => ?_)
              refine ⟨sF, ?_⟩
              refine gb_only 11 (by decide +kernel) rfl rfl ?_
              refine mv_append (L := [] ++ B) rfl [(⟨nb + 1, q, x.s, x.L⟩ : BokD)] rfl rfl rfl rfl elt_B (by intro _; first | ((repeat (first | with_reducible exact Upd.here _ | with_reducible apply Upd.there)); done) | ((repeat (first | exact Upd.here _ | apply Upd.there)); done) | fail) (src_blk mE rfl) rfl oneB (by simp only [maxLen, List.length_cons, List.length_nil, List.nil_append]; omega) (by simp only [List.length_cons, List.length_nil, List.nil_append]; omega) (Nat.zero_le _) (fun v2 => ?_)
              refine ⟨sF, ?_⟩
              (rw [List.nil_append]; refine gb_ownv v2 mE (fun A2 c2 hv2 _ _ _ => ?_); subst hv2)
              refine gb_take 12 rfl (by decide +kernel) rfl rfl (ys_ev (nw := true) hT rfl sI) sF ?_
              refine gb_only 13 (by decide +kernel) rfl rfl ?_
              first | (refine mv_box rfl rfl rfl rfl ?_; intro _) | (refine mv_alloc rfl hT rfl rfl ?_; intro _) | refine mv_store hT rfl rfl rfl rfl rfl rfl sO rfl ?_ | (refine mv_buildSlice rfl hT rfl rfl rfl rfl rfl rfl rfl rfl ?_; intro _)
              refine ⟨sF, ?_⟩
              refine gb_nil (by decide +kernel) ?_
              exact ⟨_, (by repeat (first | exact trivial | refine ⟨rfl, ?_⟩)), sA, sS⟩
            refine gball_not (by decide +kernel) ?_
            refine gball_not (by decide +kernel) ?_
            refine gball_not (by decide +kernel) ?_
            exact gball_end (by decide +kernel)
          refine gball_not (by decide +kernel) ?_
          refine gball_not (by decide +kernel) ?_
          refine gball_not (by decide +kernel) ?_
          refine gball_not (by decide +kernel) ?_
          refine gball_not (by decide +kernel) ?_
          refine gball_not (by decide +kernel) ?_
          refine gball_not (by decide +kernel) ?_
          refine gball_not (by decide +kernel) ?_
          exact gball_end (by decide +kernel)
        refine gball_not (by decide +kernel) ?_
        refine gball_yes rfl rfl ?_ ?_
        · refine mv_yd rfl (yd_load_blk hT rfl rfl mE rfl rfl) ?_
          refine ⟨sF, ?_⟩
          refine gb_all (by decide +kernel) ?_
          refine gball_yes rfl rfl ?_ ?_
          · refine mv_empty 3 BE rfl hT rfl rfl rfl rfl rfl (fun g => ?_)
            refine ⟨sF, ?_⟩
            refine gb_all (by decide +kernel) ?_
            refine gball_not (by decide +kernel) ?_
            refine gball_not (by decide +kernel) ?_
            refine gball_not (by decide +kernel) ?_
            refine gball_yes rfl rfl ?_ ?_
            · refine mv_append (L := []) rfl B rfl rfl rfl rfl elt_B (by intro _; first | ((repeat (first | with_reducible exact Upd.here _ | with_reducible apply Upd.there)); done) | ((repeat (first | exact Upd.here _ | apply Upd.there)); done) | fail) (src_R mE) hnb' oneB (by simp only [maxLen, List.length_cons, List.length_nil]; omega) (by simp only [List.length_cons, List.length_nil]; omega) (Nat.zero_le _) (fun v1 => ?_)
              refine ⟨sF, ?_⟩
              refine gb_only 5 (by decide +kernel) rfl rfl ?_
              refine mv_yd rfl (yd_load_blk hT rfl rfl mE rfl rfl) ?_
              refine ⟨sF, ?_⟩
              refine gb_take 9 rfl (by decide +kernel) rfl rfl (ys_ev (nw := true) hT rfl sI) sF ?_
              refine gb_only 10 (by decide +kernel) rfl rfl ?_
              (refine mv_buildSlice (len := 1) rfl hT rfl rfl rfl rfl rfl rfl rfl rfl ?_; intro g7)
              refine ⟨sF, ?_⟩
              refine gb_only 11 (by decide +kernel) rfl rfl ?_
              refine mv_append (L := [] ++ B) rfl [(⟨nb + 1, q, x.s, x.L⟩ : BokD)] rfl rfl rfl rfl elt_B (by intro _; first | ((repeat (first | with_reducible exact Upd.here _ | with_reducible apply Upd.there)); done) | ((repeat (first | exact Upd.here _ | apply Upd.there)); done) | fail) (src_blk mE rfl) rfl oneB (by simp only [maxLen, List.length_cons, List.length_nil, List.nil_append]; omega) (by simp only [List.length_cons, List.length_nil, List.nil_append]; omega) (Nat.zero_le _) (fun v2 => ?_)
              refine ⟨sF, ?_⟩
              (rw [List.nil_append]; refine gb_ownv v2 mE (fun A2 c2 hv2 _ _ _ => ?_); subst hv2)
              refine gb_take 12 rfl (by decide +kernel) rfl rfl (ys_ev (nw := true) hT rfl sI) sF ?_
              refine gb_only 13 (by decide +kernel) rfl rfl ?_
              first | (refine mv_box rfl rfl rfl rfl ?_; intro _) | (refine mv_alloc rfl hT rfl rfl ?_; intro _) | refine mv_store hT rfl rfl rfl rfl rfl rfl sO rfl ?_ | (refine mv_buildSlice rfl hT rfl rfl rfl rfl rfl rfl rfl rfl ?_; intro _)
              refine ⟨sF, ?_⟩
              refine gb_nil (by decide +kernel) ?_
              exact ⟨_, (by repeat (first | exact trivial | refine ⟨rfl, ?_⟩)), sA, sS⟩
            refine gball_not (by decide +kernel) ?_
            refine gball_yes rfl rfl ?_ ?_
            · refine mv_yd rfl (yd_load_blk hT rfl rfl mE rfl rfl) ?_
              refine ⟨sF, ?_⟩
              refine gb_take 9 rfl (by decide +kernel) rfl rfl (ys_ev (nw := true) hT rfl sI) sF ?_
              refine gb_all (by decide +kernel) ?_
              refine gball_not (by decide +kernel) ?_
              refine gball_not (by decide +kernel) ?_
              refine gball_not (by decide +kernel) ?_
              refine gball_yes rfl rfl ?_ ?_
              · refine mv_append (L := []) rfl B rfl rfl rfl rfl elt_B (by intro _; first | ((repeat (first | with_reducible exact Upd.here _ | with_reducible apply Upd.there)); done) | ((repeat (first | exact Upd.here _ | apply Upd.there)); done) | fail) (src_R mE) hnb' oneB (by simp only [maxLen, List.length_cons, List.length_nil]; omega) (by simp only [List.length_cons, List.length_nil]; omega) (Nat.zero_le _) (fun v1 => ?_)
                refine ⟨sF, ?_⟩
                refine gb_only 10 (by decide +kernel) rfl rfl ?_
                (refine mv_buildSlice (len := 1) rfl hT rfl rfl rfl rfl rfl rfl rfl rfl ?_; intro g7)
                refine ⟨sF, ?_⟩
                refine gb_only 11 (by decide +kernel) rfl rfl ?_
                refine mv_append (L := [] ++ B) rfl [(⟨nb + 1, q, x.s, x.L⟩ : BokD)] rfl rfl rfl rfl elt_B (by intro _; first | ((repeat (first | with_reducible exact Upd.here _ | with_reducible apply Upd.there)); done) | ((repeat (first | exact Upd.here _ | apply Upd.there)); done) | fail) (src_blk mE rfl) rfl oneB (by simp only [maxLen, List.length_cons, List.length_nil, List.nil_append]; omega) (by simp only [List.length_cons, List.length_nil, List.nil_append]; omega) (Nat.zero_le _) (fun v2 => ?_)
                refine ⟨sF, ?_⟩
                (rw [List.nil_append]; refine gb_ownv v2 mE (fun A2 c2 hv2 _ _ _ => ?_); subst hv2)
                refine gb_take 12 rfl (by decide +kernel) rfl rfl (ys_ev (nw := true) hT rfl sI) sF ?_
                refine gb_only 13 (by decide +kernel) rfl rfl ?_
                first | (refine mv_box rfl rfl rfl rfl ?_; intro _) | (refine mv_alloc rfl hT rfl rfl ?_; intro _) | refine mv_store hT rfl rfl rfl rfl rfl rfl sO rfl ?_ | (refine mv_buildSlice rfl hT rfl rfl rfl rfl rfl rfl rfl rfl ?_; intro _)
                refine ⟨sF, ?_⟩
                refine gb_nil (by decide +kernel) ?_
                exact ⟨_, (by repeat (first | exact trivial | refine ⟨rfl, ?_⟩)), sA, sS⟩
              refine gball_not (by decide +kernel) ?_
              refine gball_not (by decide +kernel) ?_
              refine gball_not (by decide +kernel) ?_
              refine gball_not (by decide +kernel) ?_
              refine gball_not (by decide +kernel) ?_
              refine gball_not (by decide +kernel) ?_
              refine gball_yes rfl rfl ?_ ?_
              · (refine mv_buildSlice (len := 1) rfl hT rfl rfl rfl rfl rfl rfl rfl rfl ?_; intro g7)
                refine ⟨sF, ?_⟩
                refine gb_only 3 (by decide +kernel) rfl rfl ?_
                refine mv_append (L := []) rfl B rfl rfl rfl rfl elt_B (by intro _; first | ((repeat (first | with_reducible exact Upd.here _ | with_reducible apply Upd.there)); done) | ((repeat (first | exact Upd.here _ | apply Upd.there)); done) | fail) (src_R mE) hnb' oneB (by simp only [maxLen, List.length_cons, List.length_nil]; omega) (by simp only [List.length_cons, List.length_nil]; omega) (Nat.zero_le _) (fun v1 => ?_)
                refine ⟨sF, ?_⟩
                refine gb_only 11 (by decide +kernel) rfl rfl ?_
                refine mv_append (L := [] ++ B) rfl [(⟨nb + 1, q, x.s, x.L⟩ : BokD)] rfl rfl rfl rfl elt_B (by intro _; first | ((repeat (first | with_reducible exact Upd.here _ | with_reducible apply Upd.there)); done) | ((repeat (first | exact Upd.here _ | apply Upd.there)); done) | fail) (src_blk mE rfl) rfl oneB (by simp only [maxLen, List.length_cons, List.length_nil, List.nil_append]; omega) (by simp only [List.length_cons, List.length_nil, List.nil_append]; omega) (Nat.zero_le _) (fun v2 => ?_)
                refine ⟨sF, ?_⟩
                (rw [List.nil_append]; refine gb_ownv v2 mE (fun A2 c2 hv2 _ _ _ => ?_); subst hv2)
                refine gb_take 12 rfl (by decide +kernel) rfl rfl (ys_ev (nw := true) hT rfl sI) sF ?_
                refine gb_only 13 (by decide +kernel) rfl rfl ?_
                first | (refine mv_box rfl rfl rfl rfl ?_; intro _) | (refine mv_alloc rfl hT rfl rfl ?_; intro _) | refine mv_store hT rfl rfl rfl rfl rfl rfl sO rfl ?_ | (refine mv_buildSlice rfl hT rfl rfl rfl rfl rfl rfl rfl rfl ?_; intro _)
                refine ⟨sF, ?_⟩
                refine gb_nil (by decide +kernel) ?_
                exact ⟨_, (by repeat (first | exact trivial | refine ⟨rfl, ?_⟩)), sA, sS⟩
              refine gball_not (by decide +kernel) ?_
              refine gball_not (by decide +kernel) ?_
              refine gball_not (by decide +kernel) ?_
              exact gball_end (by decide +kernel)
            refine gball_not (by decide +kernel) ?_
            refine gball_not (by decide +kernel) ?_
            refine gball_not (by decide +kernel) ?_
            refine gball_not (by decide +kernel) ?_
            refine gball_not (by decide +kernel) ?_
            refine gball_not (by decide +kernel) ?_
            refine gball_not (by decide +kernel) ?_
            refine gball_not (by decide +kernel) ?_
            exact gball_end (by decide +kernel)
          refine gball_not (by decide +kernel) ?_
          refine gball_not (by decide +kernel) ?_
          refine gball_not (by decide +kernel) ?_
          refine gball_not (by decide +kernel) ?_
          refine gball_yes rfl rfl ?_ ?_
          · refine mv_yd rfl (yd_load_blk hT rfl rfl mE rfl rfl) ?_
            refine ⟨sF, ?_⟩
            refine gb_take 9 rfl (by decide +kernel) rfl rfl (ys_ev (nw := true) hT rfl sI) sF ?_
            refine gb_all (by decide +kernel) ?_
            refine gball_yes rfl rfl ?_ ?_
            · refine mv_empty 3 BE rfl hT rfl rfl rfl rfl rfl (fun g => ?_)
              refine ⟨sF, ?_⟩
              refine gb_all (by decide +kernel) ?_
              refine gball_not (by decide +kernel) ?_
              refine gball_not (by decide +kernel) ?_
              refine gball_not (by decide +kernel) ?_
              refine gball_yes rfl rfl ?_ ?_
              · refine mv_append (L := []) rfl B rfl rfl rfl rfl elt_B (by intro _; first | ((repeat (first | with_reducible exact Upd.here _ | with_reducible apply Upd.there)); done) | ((repeat (first | exact Upd.here _ | apply Upd.there)); done) | fail) (src_R mE) hnb' oneB (by simp only [maxLen, List.length_cons, List.length_nil]; omega) (by simp only [List.length_cons, List.length_nil]; omega) (Nat.zero_le _) (fun v1 => ?_)
                refine ⟨sF, ?_⟩
                refine gb_only 10 (by decide +kernel) rfl rfl ?_
                (refine mv_buildSlice (len := 1) rfl hT rfl rfl rfl rfl rfl rfl rfl rfl ?_; intro g7)
                refine ⟨sF, ?_⟩
                refine gb_only 11 (by decide +kernel) rfl rfl ?_
                refine mv_append (L := [] ++ B) rfl [(⟨nb + 1, q, x.s, x.L⟩ : BokD)] rfl rfl rfl rfl elt_B (by intro _; first | ((repeat (first | with_reducible exact Upd.here _ | with_reducible apply Upd.there)); done) | ((repeat (first | exact Upd.here _ | apply Upd.there)); done) | fail) (src_blk mE rfl) rfl oneB (by simp only [maxLen, List.length_cons, List.length_nil, List.nil_append]; omega) (by simp only [List.length_cons, List.length_nil, List.nil_append]; omega) (Nat.zero_le _) (fun v2 => ?_)
                refine ⟨sF, ?_⟩
                (rw [List.nil_append]; refine gb_ownv v2 mE (fun A2 c2 hv2 _ _ _ => ?_); subst hv2)
                refine gb_take 12 rfl (by decide +kernel) rfl rfl (ys_ev (nw := true) hT rfl sI) sF ?_
                refine gb_only 13 (by decide +kernel) rfl rfl ?_
                first | (refine mv_box rfl rfl rfl rfl ?_; intro _) | (refine mv_alloc rfl hT rfl rfl ?_; intro _) | refine mv_store hT rfl rfl rfl rfl rfl rfl sO rfl ?_ | (refine mv_buildSlice rfl hT rfl rfl rfl rfl rfl rfl rfl rfl ?_; intro _)
                refine ⟨sF, ?_⟩
                refine gb_nil (by decide +kernel) ?_
                exact ⟨_, (by repeat (first | exact trivial | refine ⟨rfl, ?_⟩)), sA, sS⟩
              refine gball_not (by decide +kernel) ?_
              refine gball_not (by decide +kernel) ?_
              refine gball_not (by decide +kernel) ?_
              refine gball_not (by decide +kernel) ?_
              refine gball_not (by decide +kernel) ?_
              refine gball_not (by decide +kernel) ?_
              refine gball_yes rfl rfl ?_ ?_
              · (refine mv_buildSlice (len := 1) rfl hT rfl rfl rfl rfl rfl rfl rfl rfl ?_; intro g7)
                refine ⟨sF, ?_⟩
                refine gb_only 3 (by decide +kernel) rfl rfl ?_
                refine mv_append (L := []) rfl B rfl rfl rfl rfl elt_B (by intro _; first | ((repeat (first | with_reducible exact Upd.here _ | with_reducible apply Upd.there)); done) | ((repeat (first | exact Upd.here _ | apply Upd.there)); done) | fail) (src_R mE) hnb' oneB (by simp only [maxLen, List.length_cons, List.length_nil]; omega) (by simp only [List.length_cons, List.length_nil]; omega) (Nat.zero_le _) (fun v1 => ?_)
                refine ⟨sF, ?_⟩
                refine gb_only 11 (by decide +kernel) rfl rfl ?_
                refine mv_append (L := [] ++ B) rfl [(⟨nb + 1, q, x.s, x.L⟩ : BokD)] rfl rfl rfl rfl elt_B (by intro _; first | ((repeat (first | with_reducible exact Upd.here _ | with_reducible apply Upd.there)); done) | ((repeat (first | exact Upd.here _ | apply Upd.there)); done) | fail) (src_blk mE rfl) rfl oneB (by simp only [maxLen, List.length_cons, List.length_nil, List.nil_append]; omega) (by simp only [List.length_cons, List.length_nil, List.nil_append]; omega) (Nat.zero_le _) (fun v2 => ?_)
                refine ⟨sF, ?_⟩
                (rw [List.nil_append]; refine gb_ownv v2 mE (fun A2 c2 hv2 _ _ _ => ?_); subst hv2)
                refine gb_take 12 rfl (by decide +kernel) rfl rfl (ys_ev (nw := true) hT rfl sI) sF ?_
                refine gb_only 13 (by decide +kernel) rfl rfl ?_
                first | (refine mv_box rfl rfl rfl rfl ?_; intro _) | (refine mv_alloc rfl hT rfl rfl ?_; intro _) | refine mv_store hT rfl rfl rfl rfl rfl rfl sO rfl ?_ | (refine mv_buildSlice rfl hT rfl rfl rfl rfl rfl rfl rfl rfl ?_; intro _)
                refine ⟨sF, ?_⟩
                refine gb_nil (by decide +kernel) ?_
                exact ⟨_, (by repeat (first | exact trivial | refine ⟨rfl, ?_⟩)), sA, sS⟩
              refine gball_not (by decide +kernel) ?_
              refine gball_not (by decide +kernel) ?_
              refine gball_not (by decide +kernel) ?_
              exact gball_end (by decide +kernel)
            refine gball_not (by decide +kernel) ?_
            refine gball_not (by decide +kernel) ?_
            refine gball_not (by decide +kernel) ?_
            refine gball_not (by decide +kernel) ?_
            refine gball_not (by decide +kernel) ?_
            refine gball_not (by decide +kernel) ?_
            refine gball_not (by decide +kernel) ?_
            refine gball_not (by decide +kernel) ?_
            refine gball_not (by decide +kernel) ?_
            refine gball_yes rfl rfl ?_ ?_
            · (refine mv_buildSlice (len := 1) rfl hT rfl rfl rfl rfl rfl rfl rfl rfl ?_; intro g7)
              refine ⟨sF, ?_⟩
              refine gb_only 0 (by decide +kernel) rfl rfl ?_
              refine mv_empty 3 BE rfl hT rfl rfl rfl rfl rfl (fun g => ?_)
              refine ⟨sF, ?_⟩
              refine gb_only 3 (by decide +kernel) rfl rfl ?_
              refine mv_append (L := []) rfl B rfl rfl rfl rfl elt_B (by intro _; first | ((repeat (first | with_reducible exact Upd.here _ | with_reducible apply Upd.there)); done) | ((repeat (first | exact Upd.here _ | apply Upd.there)); done) | fail) (src_R mE) hnb' oneB (by simp only [maxLen, List.length_cons, List.length_nil]; omega) (by simp only [List.length_cons, List.length_nil]; omega) (Nat.zero_le _) (fun v1 => ?_)
              refine ⟨sF, ?_⟩
              refine gb_only 11 (by decide +kernel) rfl rfl ?_
              refine mv_append (L := [] ++ B) rfl [(⟨nb + 1, q, x.s, x.L⟩ : BokD)] rfl rfl rfl rfl elt_B (by intro _; first | ((repeat (first | with_reducible exact Upd.here _ | with_reducible apply Upd.there)); done) | ((repeat (first | exact Upd.here _ | apply Upd.there)); done) | fail) (src_blk mE rfl) rfl oneB (by simp only [maxLen, List.length_cons, List.length_nil, List.nil_append]; omega) (by simp only [List.length_cons, List.length_nil, List.nil_append]; omega) (Nat.zero_le _) (fun v2 => ?_)
              refine ⟨sF, ?_⟩
              (rw [List.nil_append]; refine gb_ownv v2 mE (fun A2 c2 hv2 _ _ _ => ?_); subst hv2)
              refine gb_take 12 rfl (by decide +kernel) rfl rfl (ys_ev (nw := true) hT rfl sI) sF ?_
              refine gb_only 13 (by decide +kernel) rfl rfl ?_
              first | (refine mv_box rfl rfl rfl rfl ?_; intro _) | (refine mv_alloc rfl hT rfl rfl ?_; intro _) | refine mv_store hT rfl rfl rfl rfl rfl rfl sO rfl ?_ | (refine mv_buildSlice rfl hT rfl rfl rfl rfl rfl rfl rfl rfl ?_; intro _)
              refine ⟨sF, ?_⟩
              refine gb_nil (by decide +kernel) ?_
              exact ⟨_, (by repeat (first | exact trivial | refine ⟨rfl, ?_⟩)), sA, sS⟩
            refine gball_not (by decide +kernel) ?_
            refine gball_not (by decide +kernel) ?_
            refine gball_not (by decide +kernel) ?_
            exact gball_end (by decide +kernel)
          refine gball_not (by decide +kernel) ?_
          refine gball_not (by decide +kernel) ?_
          refine gball_not (by decide +kernel) ?_
          refine gball_not (by decide +kernel) ?_
          refine gball_not (by decide +kernel) ?_
          refine gball_not (by decide +kernel) ?_
          refine gball_not (by decide +kernel) ?_
          refine gball_not (by decide +kernel) ?_
          exact gball_end (by decide +kernel)
        refine gball_not (by decide +kernel) ?_
        refine gball_not (by decide +kernel) ?_
        refine gball_yes rfl rfl ?_ ?_
        · refine mv_yd rfl (yd_load_blk hT rfl rfl mE rfl rfl) ?_
          refine ⟨sF, ?_⟩
          refine gb_take 9 rfl (by decide +kernel) rfl rfl (ys_ev (nw := true) hT rfl sI) sF ?_
          refine gb_all (by decide +kernel) ?_
          refine gball_yes rfl rfl ?_ ?_
          · refine mv_empty 3 BE rfl hT rfl rfl rfl rfl rfl (fun g => ?_)
            refine ⟨sF, ?_⟩
            refine gb_all (by decide +kernel) ?_
            refine gball_not (by decide +kernel) ?_
            refine gball_not (by decide +kernel) ?_
            refine gball_yes rfl rfl ?_ ?_
            · refine mv_yd rfl (yd_load_blk hT rfl rfl mE rfl rfl) ?_
              refine ⟨sF, ?_⟩
              refine gb_all (by decide +kernel) ?_
              refine gball_not (by decide +kernel) ?_
              refine gball_not (by decide +kernel) ?_
              refine gball_not (by decide +kernel) ?_
              refine gball_yes rfl rfl ?_ ?_
              · refine mv_append (L := []) rfl B rfl rfl rfl rfl elt_B (by intro _; first | ((repeat (first | with_reducible exact Upd.here _ | with_reducible apply Upd.there)); done) | ((repeat (first | exact Upd.here _ | apply Upd.there)); done) | fail) (src_R mE) hnb' oneB (by simp only [maxLen, List.length_cons, List.length_nil]; omega) (by simp only [List.length_cons, List.length_nil]; omega) (Nat.zero_le _) (fun v1 => ?_)
                refine ⟨sF, ?_⟩
                refine gb_only 10 (by decide +kernel) rfl rfl ?_
                (refine mv_buildSlice (len := 1) rfl hT rfl rfl rfl rfl rfl rfl rfl rfl ?_; intro g7)
                refine ⟨sF, ?_⟩
                refine gb_only 11 (by decide +kernel) rfl rfl ?_
                refine mv_append (L := [] ++ B) rfl [(⟨nb + 1, q, x.s, x.L⟩ : BokD)] rfl rfl rfl rfl elt_B (by intro _; first | ((repeat (first | with_reducible exact Upd.here _ | with_reducible apply Upd.there)); done) | ((repeat (first | exact Upd.here _ | apply Upd.there)); done) | fail) (src_blk mE rfl) rfl oneB (by simp only [maxLen, List.length_cons, List.length_nil, List.nil_append]; omega) (by simp only [List.length_cons, List.length_nil, List.nil_append]; omega) (Nat.zero_le _) (fun v2 => ?_)
                refine ⟨sF, ?_⟩
                (rw [List.nil_append]; refine gb_ownv v2 mE (fun A2 c2 hv2 _ _ _ => ?_); subst hv2)
                refine gb_take 12 rfl (by decide +kernel) rfl rfl (ys_ev (nw := true) hT rfl sI) sF ?_
                refine gb_only 13 (by decide +kernel) rfl rfl ?_
                first | (refine mv_box rfl rfl rfl rfl ?_; intro _) | (refine mv_alloc rfl hT rfl rfl ?_; intro _) | refine mv_store hT rfl rfl rfl rfl rfl rfl sO rfl ?_ | (refine mv_buildSlice rfl hT rfl rfl rfl rfl rfl rfl rfl rfl ?_; intro _)
                refine ⟨sF, ?_⟩
                refine gb_nil (by decide +kernel) ?_
                exact ⟨_, (by repeat (first | exact trivial | refine ⟨rfl, ?_⟩)), sA, sS⟩
              refine gball_not (by decide +kernel) ?_
              refine gball_not (by decide +kernel) ?_
              refine gball_not (by decide +kernel) ?_
              refine gball_not (by decide +kernel) ?_
              refine gball_not (by decide +kernel) ?_
              refine gball_not (by decide +kernel) ?_
              refine gball_yes rfl rfl ?_ ?_
              · (refine mv_buildSlice (len := 1) rfl hT rfl rfl rfl rfl rfl rfl rfl rfl ?_; intro g7)
                refine ⟨sF, ?_⟩
                refine gb_only 3 (by decide +kernel) rfl rfl ?_
                refine mv_append (L := []) rfl B rfl rfl rfl rfl elt_B (by intro _; first | ((repeat (first | with_reducible exact Upd.here _ | with_reducible apply Upd.there)); done) | ((repeat (first | exact Upd.here _ | apply Upd.there)); done) | fail) (src_R mE) hnb' oneB (by simp only [maxLen, List.length_cons, List.length_nil]; omega) (by simp only [List.length_cons, List.length_nil]; omega) (Nat.zero_le _) (fun v1 => ?_)
                refine ⟨sF, ?_⟩
                refine gb_only 11 (by decide +kernel) rfl rfl ?_
                refine mv_append (L := [] ++ B) rfl [(⟨nb + 1, q, x.s, x.L⟩ : BokD)] rfl rfl rfl rfl elt_B (by intro _; first | ((repeat (first | with_reducible exact Upd.here _ | with_reducible apply Upd.there)); done) | ((repeat (first | exact Upd.here _ | apply Upd.there)); done) | fail) (src_blk mE rfl) rfl oneB (by simp only [maxLen, List.length_cons, List.length_nil, List.nil_append]; omega) (by simp only [List.length_cons, List.length_nil, List.nil_append]; omega) (Nat.zero_le _) (fun v2 => ?_)
                refine ⟨sF, ?_⟩
                (rw [List.nil_append]; refine gb_ownv v2 mE (fun A2 c2 hv2 _ _ _ => ?_); subst hv2)
                refine gb_take 12 rfl (by decide +kernel) rfl rfl (ys_ev (nw := true) hT rfl sI) sF ?_
                refine gb_only 13 (by decide +kernel) rfl rfl ?_
                first | (refine mv_box rfl rfl rfl rfl ?_; intro _) | (refine mv_alloc rfl hT rfl rfl ?_; intro _) | refine mv_store hT rfl rfl rfl rfl rfl rfl sO rfl ?_ | (refine mv_buildSlice rfl hT rfl rfl rfl rfl rfl rfl rfl rfl ?_; intro _)
                refine ⟨sF, ?_⟩
                refine gb_nil (by decide +kernel) ?_
                exact ⟨_, (by repeat (first | exact trivial | refine ⟨rfl, ?_⟩)), sA, sS⟩
              refine gball_not (by decide +kernel) ?_
              refine gball_not (by decide +kernel) ?_
              refine gball_not (by decide +kernel) ?_
              exact gball_end (by decide +kernel)
            refine gball_not (by decide +kernel) ?_
            refine gball_not (by decide +kernel) ?_
            refine gball_not (by decide +kernel) ?_
            refine gball_not (by decide +kernel) ?_
            refine gball_not (by decide +kernel) ?_
            refine gball_not (by decide +kernel) ?_
            refine gball_not (by decide +kernel) ?_
            refine gball_yes rfl rfl ?_ ?_
            · (refine mv_buildSlice (len := 1) rfl hT rfl rfl rfl rfl rfl rfl rfl rfl ?_; intro g7)
              refine ⟨sF, ?_⟩
              refine gb_only 2 (by decide +kernel) rfl rfl ?_
              refine mv_yd rfl (yd_load_blk hT rfl rfl mE rfl rfl) ?_
              refine ⟨sF, ?_⟩
              refine gb_only 3 (by decide +kernel) rfl rfl ?_
              refine mv_append (L := []) rfl B rfl rfl rfl rfl elt_B (by intro _; first | ((repeat (first | with_reducible exact Upd.here _ | with_reducible apply Upd.there)); done) | ((repeat (first | exact Upd.here _ | apply Upd.there)); done) | fail) (src_R mE) hnb' oneB (by simp only [maxLen, List.length_cons, List.length_nil]; omega) (by simp only [List.length_cons, List.length_nil]; omega) (Nat.zero_le _) (fun v1 => ?_)
              refine ⟨sF, ?_⟩
              refine gb_only 11 (by decide +kernel) rfl rfl ?_
              refine mv_append (L := [] ++ B) rfl [(⟨nb + 1, q, x.s, x.L⟩ : BokD)] rfl rfl rfl rfl elt_B (by intro _; first | ((repeat (first | with_reducible exact Upd.here _ | with_reducible apply Upd.there)); done) | ((repeat (first | exact Upd.here _ | apply Upd.there)); done) | fail) (src_blk mE rfl) rfl oneB (by simp only [maxLen, List.length_cons, List.length_nil, List.nil_append]; omega) (by simp only [List.length_cons, List.length_nil, List.nil_append]; omega) (Nat.zero_le _) (fun v2 => ?_)
              refine ⟨sF, ?_⟩
              (rw [List.nil_append]; refine gb_ownv v2 mE (fun A2 c2 hv2 _ _ _ => ?_); subst hv2)
              refine gb_take 12 rfl (by decide +kernel) rfl rfl (ys_ev (nw := true) hT rfl sI) sF ?_
              refine gb_only 13 (by decide +kernel) rfl rfl ?_
              first | (refine mv_box rfl rfl rfl rfl ?_; intro _) | (refine mv_alloc rfl hT rfl rfl ?_; intro _) | refine mv_store hT rfl rfl rfl rfl rfl rfl sO rfl ?_ | (refine mv_buildSlice rfl hT rfl rfl rfl rfl rfl rfl rfl rfl ?_; intro _)
              refine ⟨sF, ?_⟩
              refine gb_nil (by decide +kernel) ?_
              exact ⟨_, (by repeat (first | exact trivial | refine ⟨rfl, ?_⟩)), sA, sS⟩
            refine gball_not (by decide +kernel) ?_
            refine gball_not (by decide +kernel) ?_
            refine gball_not (by decide +kernel) ?_
            exact gball_end (by decide +kernel)
          refine gball_not (by decide +kernel) ?_
          refine gball_yes rfl rfl ?_ ?_
          · refine mv_yd rfl (yd_load_blk hT rfl rfl mE rfl rfl) ?_
            refine ⟨sF, ?_⟩
            refine gb_all (by decide +kernel) ?_
            refine gball_yes rfl rfl ?_ ?_
            · refine mv_empty 3 BE rfl hT rfl rfl rfl rfl rfl (fun g => ?_)
              refine ⟨sF, ?_⟩
              refine gb_all (by decide +kernel) ?_
              refine gball_not (by decide +kernel) ?_
              refine gball_not (by decide +kernel) ?_
              refine gball_not (by decide +kernel) ?_
              refine gball_yes rfl rfl ?_ ?_
              · refine mv_append (L := []) rfl B rfl rfl rfl rfl elt_B (by intro _; first | ((repeat (first | with_reducible exact Upd.here _ | with_reducible apply Upd.there)); done) | ((repeat (first | exact Upd.here _ | apply Upd.there)); done) | fail) (src_R mE) hnb' oneB (by simp only [maxLen, List.length_cons, List.length_nil]; omega) (by simp only [List.length_cons, List.length_nil]; omega) (Nat.zero_le _) (fun v1 => ?_)
                refine ⟨sF, ?_⟩
                refine gb_only 10 (by decide +kernel) rfl rfl ?_
                (refine mv_buildSlice (len := 1) rfl hT rfl rfl rfl rfl rfl rfl rfl rfl ?_; intro g7)
                refine ⟨sF, ?_⟩
                refine gb_only 11 (by decide +kernel) rfl rfl ?_
                refine mv_append (L := [] ++ B) rfl [(⟨nb + 1, q, x.s, x.L⟩ : BokD)] rfl rfl rfl rfl elt_B (by intro _; first | ((repeat (first | with_reducible exact Upd.here _ | with_reducible apply Upd.there)); done) | ((repeat (first | exact Upd.here _ | apply Upd.there)); done) | fail) (src_blk mE rfl) rfl oneB (by simp only [maxLen, List.length_cons, List.length_nil, List.nil_append]; omega) (by simp only [List.length_cons, List.length_nil, List.nil_append]; omega) (Nat.zero_le _) (fun v2 => ?_)
                refine ⟨sF, ?_⟩
                (rw [List.nil_append]; refine gb_ownv v2 mE (fun A2 c2 hv2 _ _ _ => ?_); subst hv2)
                refine gb_take 12 rfl (by decide +kernel) rfl rfl (ys_ev (nw := true) hT rfl sI) sF ?_
                refine gb_only 13 (by decide +kernel) rfl rfl ?_
                first | (refine mv_box rfl rfl rfl rfl ?_; intro _) | (refine mv_alloc rfl hT rfl rfl ?_; intro _) | refine mv_store hT rfl rfl rfl rfl rfl rfl sO rfl ?_ | (refine mv_buildSlice rfl hT rfl rfl rfl rfl rfl rfl rfl rfl ?_; intro _)
                refine ⟨sF, ?_⟩
                refine gb_nil (by decide +kernel) ?_
                exact ⟨_, (by repeat (first | exact trivial | refine ⟨rfl, ?_⟩)), sA, sS⟩
              refine gball_not (by decide +kernel) ?_
              refine gball_not (by decide +kernel) ?_
              refine gball_not (by decide +kernel) ?_
              refine gball_not (by decide +kernel) ?_
              refine gball_not (by decide +kernel) ?_
              refine gball_not (by decide +kernel) ?_
              refine gball_yes rfl rfl ?_ ?_
              · (refine mv_buildSlice (len := 1) rfl hT rfl rfl rfl rfl rfl rfl rfl rfl ?_; intro g7)
                refine ⟨sF, ?_⟩
                refine gb_only 3 (by decide +kernel) rfl rfl ?_
                refine mv_append (L := []) rfl B rfl rfl rfl rfl elt_B (by intro _; first | ((repeat (first | with_reducible exact Upd.here _ | with_reducible apply Upd.there)); done) | ((repeat (first | exact Upd.here _ | apply Upd.there)); done) | fail) (src_R mE) hnb' oneB (by simp only [maxLen, List.length_cons, List.length_nil]; omega) (by simp only [List.length_cons, List.length_nil]; omega) (Nat.zero_le _) (fun v1 => ?_)
                refine ⟨sF, ?_⟩
                refine gb_only 11 (by decide +kernel) rfl rfl ?_
                refine mv_append (L := [] ++ B) rfl [(⟨nb + 1, q, x.s, x.L⟩ : BokD)] rfl rfl rfl rfl elt_B (by intro _; first | ((repeat (first | with_reducible exact Upd.here _ | with_reducible apply Upd.there)); done) | ((repeat (first | exact Upd.here _ | apply Upd.there)); done) | fail) (src_blk mE rfl) rfl oneB (by simp only [maxLen, List.length_cons, List.length_nil, List.nil_append]; omega) (by simp only [List.length_cons, List.length_nil, List.nil_append]; omega) (Nat.zero_le _) (fun v2 => ?_)
                refine ⟨sF, ?_⟩
                (rw [List.nil_append]; refine gb_ownv v2 mE (fun A2 c2 hv2 _ _ _ => ?_); subst hv2)
                refine gb_take 12 rfl (by decide +kernel) rfl rfl (ys_ev (nw := true) hT rfl sI) sF ?_
                refine gb_only 13 (by decide +kernel) rfl rfl ?_
                first | (refine mv_box rfl rfl rfl rfl ?_; intro _) | (refine mv_alloc rfl hT rfl rfl ?_; intro _) | refine mv_store hT rfl rfl rfl rfl rfl rfl sO rfl ?_ | (refine mv_buildSlice rfl hT rfl rfl rfl rfl rfl rfl rfl rfl ?_; intro _)
                refine ⟨sF, ?_⟩
                refine gb_nil (by decide +kernel) ?_
                exact ⟨_, (by repeat (first | exact trivial | refine ⟨rfl, ?_⟩)), sA, sS⟩
              refine gball_not (by decide +kernel) ?_
              refine gball_not (by decide +kernel) ?_
              refine gball_not (by decide +kernel) ?_
              exact gball_end (by decide +kernel)
            refine gball_not (by decide +kernel) ?_
            refine gball_not (by decide +kernel) ?_
            refine gball_not (by decide +kernel) ?_
            refine gball_not (by decide +kernel) ?_
            refine gball_not (by decide +kernel) ?_
            refine gball_not (by decide +kernel) ?_
            refine gball_not (by decide +kernel) ?_
            refine gball_not (by decide +kernel) ?_
            refine gball_not (by decide +kernel) ?_
            refine gball_yes rfl rfl ?_ ?_
            · (refine mv_buildSlice (len := 1) rfl hT rfl rfl rfl rfl rfl rfl rfl rfl ?_; intro g7)
              refine ⟨sF, ?_⟩
              refine gb_only 0 (by decide +kernel) rfl rfl ?_
              refine mv_empty 3 BE rfl hT rfl rfl rfl rfl rfl (fun g => ?_)
              refine ⟨sF, ?_⟩
              refine gb_only 3 (by decide +kernel) rfl rfl ?_
              refine mv_append (L := []) rfl B rfl rfl rfl rfl elt_B (by intro _; first | ((repeat (first | with_reducible exact Upd.here _ | with_reducible apply Upd.there)); done) | ((repeat (first | exact Upd.here _ | apply Upd.there)); done) | fail) (src_R mE) hnb' oneB (by simp only [maxLen, List.length_cons, List.length_nil]; omega) (by simp only [List.length_cons, List.length_nil]; omega) (Nat.zero_le _) (fun v1 => ?_)
              refine ⟨sF, ?_⟩
              refine gb_only 11 (by decide +kernel) rfl rfl ?_
              refine mv_append (L := [] ++ B) rfl [(⟨nb + 1, q, x.s, x.L⟩ : BokD)] rfl rfl rfl rfl elt_B (by intro _; first | ((repeat (first | with_reducible exact Upd.here _ | with_reducible apply Upd.there)); done) | ((repeat (first | exact Upd.here _ | apply Upd.there)); done) | fail) (src_blk mE rfl) rfl oneB (by simp only [maxLen, List.length_cons, List.length_nil, List.nil_append]; omega) (by simp only [List.length_cons, List.length_nil, List.nil_append]; omega) (Nat.zero_le _) (fun v2 => ?_)
              refine ⟨sF, ?_⟩
              (rw [List.nil_append]; refine gb_ownv v2 mE (fun A2 c2 hv2 _ _ _ => ?_); subst hv2)
              refine gb_take 12 rfl (by decide +kernel) rfl rfl (ys_ev (nw := true) hT rfl sI) sF ?_
              refine gb_only 13 (by decide +kernel) rfl rfl ?_
              first | (refine mv_box rfl rfl rfl rfl ?_; intro _) | (refine mv_alloc rfl hT rfl rfl ?_; intro _) | refine mv_store hT rfl rfl rfl rfl rfl rfl sO rfl ?_ | (refine mv_buildSlice rfl hT rfl rfl rfl rfl rfl rfl rfl rfl ?_; intro _)
              refine ⟨sF, ?_⟩
              refine gb_nil (by decide +kernel) ?_
              exact ⟨_, (by repeat (first | exact trivial | refine ⟨rfl, ?_⟩)), sA, sS⟩
            refine gball_not (by decide +kernel) ?_
            refine gball_not (by decide +kernel) ?_
            refine gball_not (by decide +kernel) ?_
            exact gball_end (by decide +kernel)
          refine gball_not (by decide +kernel) ?_
          refine gball_not (by decide +kernel) ?_
          refine gball_not (by decide +kernel) ?_
          refine gball_not (by decide +kernel) ?_
          refine gball_not (by decide +kernel) ?_
          refine gball_not (by decide +kernel) ?_
          refine gball_not (by decide +kernel) ?_
          refine gball_yes rfl rfl ?_ ?_
          · (refine mv_buildSlice (len := 1) rfl hT rfl rfl rfl rfl rfl rfl rfl rfl ?_; intro g7)
            refine ⟨sF, ?_⟩
            refine gb_all (by decide +kernel) ?_
            refine gball_yes rfl rfl ?_ ?_
            · refine mv_empty 3 BE rfl hT rfl rfl rfl rfl rfl (fun g => ?_)
              refine ⟨sF, ?_⟩
              refine gb_only 2 (by decide +kernel) rfl rfl ?_
              refine mv_yd rfl (yd_load_blk hT rfl rfl mE rfl rfl) ?_
              refine ⟨sF, ?_⟩
              refine gb_only 3 (by decide +kernel) rfl rfl ?_
              refine mv_append (L := []) rfl B rfl rfl rfl rfl elt_B (by intro _; first | ((repeat (first | with_reducible exact Upd.here _ | with_reducible apply Upd.there)); done) | ((repeat (first | exact Upd.here _ | apply Upd.there)); done) | fail) (src_R mE) hnb' oneB (by simp only [maxLen, List.length_cons, List.length_nil]; omega) (by simp only [List.length_cons, List.length_nil]; omega) (Nat.zero_le _) (fun v1 => ?_)
              refine ⟨sF, ?_⟩
              refine gb_only 11 (by decide +kernel) rfl rfl ?_
              refine mv_append (L := [] ++ B) rfl [(⟨nb + 1, q, x.s, x.L⟩ : BokD)] rfl rfl rfl rfl elt_B (by intro _; first | ((repeat (first | with_reducible exact Upd.here _ | with_reducible apply Upd.there)); done) | ((repeat (first | exact Upd.here _ | apply Upd.there)); done) | fail) (src_blk mE rfl) rfl oneB (by simp only [maxLen, List.length_cons, List.length_nil, List.nil_append]; omega) (by simp only [List.length_cons, List.length_nil, List.nil_append]; omega) (Nat.zero_le _) (fun v2 => ?_)
              refine ⟨sF, ?_⟩
              (rw [List.nil_append]; refine gb_ownv v2 mE (fun A2 c2 hv2 _ _ _ => ?_); subst hv2)
              refine gb_take 12 rfl (by decide +kernel) rfl rfl (ys_ev (nw := true) hT rfl sI) sF ?_
              refine gb_only 13 (by decide +kernel) rfl rfl ?_
              first | (refine mv_box rfl rfl rfl rfl ?_; intro _) | (refine mv_alloc rfl hT rfl rfl ?_; intro _) | refine mv_store hT rfl rfl rfl rfl rfl rfl sO rfl ?_ | (refine mv_buildSlice rfl hT rfl rfl rfl rfl rfl rfl rfl rfl ?_; intro _)
              refine ⟨sF, ?_⟩
              refine gb_nil (by decide +kernel) ?_
              exact ⟨_, (by repeat (first | exact trivial | refine ⟨rfl, ?_⟩)), sA, sS⟩
            refine gball_not (by decide +kernel) ?_
            refine gball_yes rfl rfl ?_ ?_
            · refine mv_yd rfl (yd_load_blk hT rfl rfl mE rfl rfl) ?_
              refine ⟨sF, ?_⟩
              refine gb_only 0 (by decide +kernel) rfl rfl ?_
              refine mv_empty 3 BE rfl hT rfl rfl rfl rfl rfl (fun g => ?_)
              refine ⟨sF, ?_⟩
              refine gb_only 3 (by decide +kernel) rfl rfl ?_
              refine mv_append (L := []) rfl B rfl rfl rfl rfl elt_B (by intro _; first | ((repeat (first | with_reducible exact Upd.here _ | with_reducible apply Upd.there)); done) | ((repeat (first | exact Upd.here _ | apply Upd.there)); done) | fail) (src_R mE) hnb' oneB (by simp only [maxLen, List.length_cons, List.length_nil]; omega) (by simp only [List.length_cons, List.length_nil]; omega) (Nat.zero_le _) (fun v1 => ?_)
              refine ⟨sF, ?_⟩
              refine gb_only 11 (by decide +kernel) rfl rfl ?_
              refine mv_append (L := [] ++ B) rfl [(⟨nb + 1, q, x.s, x.L⟩ : BokD)] rfl rfl rfl rfl elt_B (by intro _; first | ((repeat (first | with_reducible exact Upd.here _ | with_reducible apply Upd.there)); done) | ((repeat (first | exact Upd.here _ | apply Upd.there)); done) | fail) (src_blk mE rfl) rfl oneB (by simp only [maxLen, List.length_cons, List.length_nil, List.nil_append]; omega) (by simp only [List.length_cons, List.length_nil, List.nil_append]; omega) (Nat.zero_le _) (fun v2 => ?_)
              refine ⟨sF, ?_⟩
              (rw [List.nil_append]; refine gb_ownv v2 mE (fun A2 c2 hv2 _ _ _ => ?_); subst hv2)
              refine gb_take 12 rfl (by decide +kernel) rfl rfl (ys_ev (nw := true) hT rfl sI) sF ?_
              refine gb_only 13 (by decide +kernel) rfl rfl ?_
              first | (refine mv_box rfl rfl rfl rfl ?_; intro _) | (refine mv_alloc rfl hT rfl rfl ?_; intro _) | refine mv_store hT rfl rfl rfl rfl rfl rfl sO rfl ?_ | (refine mv_buildSlice rfl hT rfl rfl rfl rfl rfl rfl rfl rfl ?_; intro _)
              refine ⟨sF, ?_⟩
              refine gb_nil (by decide +kernel) ?_
              exact ⟨_, (by repeat (first | exact trivial | refine ⟨rfl, ?_⟩)), sA, sS⟩
            refine gball_not (by decide +kernel) ?_
            refine gball_not (by decide +kernel) ?_
            refine gball_not (by decide +kernel) ?_
            refine gball_not (by decide +kernel) ?_
            refine gball_not (by decide +kernel) ?_
            refine gball_not (by decide +kernel) ?_
            refine gball_not (by decide +kernel) ?_
            refine gball_not (by decide +kernel) ?_
            refine gball_not (by decide +kernel) ?_
            refine gball_not (by decide +kernel) ?_
            refine gball_not (by decide +kernel) ?_
            exact gball_end (by decide +kernel)
          refine gball_not (by decide +kernel) ?_
          refine gball_not (by decide +kernel) ?_
          refine gball_not (by decide +kernel) ?_
          exact gball_end (by decide +kernel)
        refine gball_not (by decide +kernel) ?_
        refine gball_not (by decide +kernel) ?_
        refine gball_not (by decide +kernel) ?_
        refine gball_not (by decide +kernel) ?_
        refine gball_not (by decide +kernel) ?_
        refine gball_not (by decide +kernel) ?_
        refine gball_not (by decide +kernel) ?_
        refine gball_not (by decide +kernel) ?_
        exact gball_end (by decide +kernel)
      · skip
        refine gk_freeze _ (by intro _; first | ((repeat (first | with_reducible exact Upd.here _ | with_reducible apply Upd.there)); done) | ((repeat (first | exact Upd.here _ | apply Upd.there)); done) | fail) (fun A2 c2 hA2 hA21 hA22 hA23 => ?_); subst hA2
        refine gk_any [1] (Cut _ (fun _ : Unit => [(6, .pointer (some ⟨g6, 0, none⟩)), (7, .int .i64 (nb + 1)), (8, .int .i64 0)]) (fun _ => [sl A2 3 BE (B ++ [(⟨nb + 1, q, x.s, x.L⟩ : BokD)]), blk g6 [.int .i64 nv, .int .i64 ng, .int .i64 (nb + 1), .int .u64 fl, .slice vA vm vc, .slice gA gm gc, .slice A2 (B ++ [(⟨nb + 1, q, x.s, x.L⟩ : BokD)]).length c2, .slice kA km kd, .slice tA tm tc] 29]) (fun _ => [catF (⟨nv, ng, nb, fl, ⟨vA, vm, vc⟩, V, ⟨gA, gm, gc⟩, G, ⟨bA, bm, bc⟩, B, ⟨kA, km, kd⟩, K, ⟨tA, tm, tc⟩, M⟩ : CatD)])) rfl rfl (by kernel_rfl) ?_ (cut_k fun _ => ?_)
        · skip
          refine gb_take 0 rfl (by decide +kernel) rfl rfl (by first | exact ys_blk hT rfl rfl mE rfl rfl | exact ys_row hT rfl rfl mE rfl rfl | exact ys_row0 hT rfl rfl mE rfl rfl) sF ?_
          refine gb_take 1 rfl (by decide +kernel) rfl rfl (ys_ev (nw := true) hT rfl sI) sF ?_
          refine gb_take 2 rfl (by decide +kernel) rfl rfl (by first | exact ys_blk hT rfl rfl mE rfl rfl | exact ys_row hT rfl rfl mE rfl rfl | exact ys_row0 hT rfl rfl mE rfl rfl) sF ?_
          refine gb_only 3 (by decide +kernel) rfl rfl ?_
          first | (refine mv_box rfl rfl rfl rfl ?_; intro _) | (refine mv_alloc rfl hT rfl rfl ?_; intro _) | refine mv_store hT rfl rfl rfl rfl rfl rfl sO rfl ?_ | (refine mv_buildSlice rfl hT rfl rfl rfl rfl rfl rfl rfl rfl ?_; intro _)
          refine ⟨sF, ?_⟩
          refine gb_take 4 rfl (by decide +kernel) rfl rfl (ys_ev (nw := true) hT rfl sI) sF ?_
          refine gb_take 5 rfl (by decide +kernel) rfl rfl (ys_ev (nw := true) hT rfl sI) sF ?_
          refine gb_nil (by decide +kernel) ?_
          exact ⟨(), (by repeat (first | exact trivial | refine ⟨rfl, ?_⟩)), sA, sS⟩
        · (repeat (first | refine g_nil ?_ | refine g_pure true hT rfl rfl rfl sI ?_ | refine g_skip rfl rfl ?_ | refine g_skip0 rfl rfl ?_ | refine gk_region rfl ?_ | refine gk_cond_t rfl rfl ?_ | refine gk_cond_f rfl rfl ?_ | refine g_yd rfl rfl (yd_load_blk hT rfl rfl mE rfl rfl) ?_ | refine g_yd rfl rfl (yd_load_row hT rfl rfl mE rfl rfl) ?_ | refine g_yd rfl rfl (yd_load_row0 hT rfl rfl mE rfl rfl) ?_ | refine g_yd rfl rfl (yd_eql rfl rfl rfl rfl rfl (by kernel_rfl)) ?_ | refine g_yd rfl rfl (yd_neq rfl rfl rfl rfl rfl (by kernel_rfl)) ?_ | refine g_yd rfl rfl (yd_index hT rfl rfl rfl sI rfl) ?_ | refine g_yd rfl rfl (yd_slice_nil hT rfl rfl rfl rfl) ?_ | refine g_yd rfl rfl (yd_build_arr hT rfl rfl rfl rfl rfl rfl) ?_ | (refine g_mv rfl ?_; first | (refine mv_box rfl rfl rfl rfl ?_; intro _) | (refine mv_alloc rfl hT rfl rfl ?_; intro _) | refine mv_store hT rfl rfl rfl rfl rfl rfl sO rfl ?_ | (refine mv_buildSlice rfl hT rfl rfl rfl rfl rfl rfl rfl rfl ?_; intro _)) | refine g_yd rfl rfl (Ys.yd (ys_str_eql hT rfl rfl rfl rfl)) ?_ | refine g_yd rfl rfl (Ys.yd (ys_str_neq hT rfl rfl rfl rfl)) ?_))
          refine gk_ret hT rfl rfl (.cell (cs := [.int .i64 nv, .int .i64 ng, .int .i64 (nb + 1), .int .u64 fl, .slice vA vm vc, .slice gA gm gc, .slice A2 (B ++ [(⟨nb + 1, q, x.s, x.L⟩ : BokD)]).length c2, .slice kA km kd, .slice tA tm tc]) (Tg := 29) rfl mE rfl rfl (.tmp rfl (.tmp rfl .nil))) (fun w' hk => ?_)
          exact RetS.mk ((⟨nv, ng, nb + 1, fl, ⟨vA, vm, vc⟩, V, ⟨gA, gm, gc⟩, G, ⟨A2, _, c2⟩, B ++ [(⟨nb + 1, q, x.s, x.L⟩ : BokD)], ⟨kA, km, kd⟩, K, ⟨tA, tm, tc⟩, M⟩ : CatD), nb + 1, 0) ⟨⟨hc.v, hc.g, ⟨rfl, hA21, hA22, hA23⟩, hc.k, hc.t, hc.V, hc.G, all_snoc hc.B (hc.G x hxm), hc.m, hc.nv, hc.ng, by dsimp only; omega⟩, by rw [CatD.p, List.map_append]; rfl⟩ rfl hk (.cons (catF_rs (part_rs hk mE d_v) (part_rs hk mE d_V) (part_rs hk mE d_g) (part_rs hk mE d_G) (RS1.own hk mE) (RS1.all (all_snoc (fun x hx => part_rs hk mE (Der.elem d_B hx)) (part_rs hk mE (φ := sl x.s.A 1 (IE .i64) x.L) (Der.elem (F := GrpD.f) d_G hxm)))) (part_rs hk mE d_k) (part_rs hk mE d_t)) .nil)
end Go.Proofs.Ytbcdcjiibalnnaa.Ct

