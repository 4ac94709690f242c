/- vols.Delete and the reference's. -/
import Derived.Test.YtbcdcjiibalnnaaCtI
namespace Go.Proofs.Ytbcdcjiibalnnaa.Ct
open Go.RowKit Mem Gx
set_option linter.unusedVariables false
set_option linter.unusedSimpArgs false
set_option maxRecDepth 100000
set_option maxHeartbeats 400000
/-- Without a volume; its error. -/
def delP (c : CatD) (id : Int) : CatP × Int := match pos (c.V.map VolD.id) id with
  | some i => (⟨c.nv, c.ng, c.nb, c.fl, (c.V.take i ++ c.V.drop (i + 1)).map VolD.d, c.G.map GrpD.d, c.B.map BokD.d, c.K, c.T⟩, 0)
  | none => (CatD.z.p, 40)
theorem delP_none {c : CatD} {id : Int} (h : pos (c.V.map VolD.id) id = none) : delP c id = (CatD.z.p, 40) := by unfold delP; rw [h]
theorem delP_some {c : CatD} {id : Int} {i : Nat} (h : pos (c.V.map VolD.id) id = some i) : delP c id = (⟨c.nv, c.ng, c.nb, c.fl, (c.V.take i ++ c.V.drop (i + 1)).map VolD.d, c.G.map GrpD.d, c.B.map BokD.d, c.K, c.T⟩, 0) := by unfold delP; rw [h]
theorem del_mem {α : Type} {L : List α} {i : Nat} {x : α} (h : x ∈ L.take i ++ L.drop (i + 1)) : x ∈ L := by
  rcases List.mem_append.1 h with h | h
  · exact List.mem_of_mem_take h
  · exact List.mem_of_mem_drop h
/-- A catalog and an error are handed back. -/
abbrev RetC2 (c : CatD) (p : CatP × Int) (w : World) : Ending → World → Prop := RetS (fun r : CatD × Int => r.1.Ok ∧ (r.1.p, r.2) = p) (fun r => .tuple #[r.1.val, .int .i64 r.2]) (fun r => [catF r.1]) [catF c] w
theorem vdelete_any (c : CatD) (id : Int) (w : World) (hc : c.Ok) (h20 : c.V.length ≤ 20) (h : Rd1 w (catF c)) :
    Calls Try.prog 10 [c.val, .int .i64 id].toArray w (RetC2 c (delP c id) w) := by
  obtain ⟨nv, ng, nb, fl, ⟨vA, vm, vc⟩, V, ⟨gA, gm, gc⟩, G, ⟨bA, bm, bc⟩, B, ⟨kA, km, kd⟩, K, ⟨tA, tm, tc⟩, M⟩ := c
  have hn : vm = V.length := hc.v.n
  replace h20 : V.length ≤ 20 := h20
  have hpl : ∀ w, Rd1 w (catF (⟨nv, ng, nb, fl, ⟨vA, vm, vc⟩, V, ⟨gA, gm, gc⟩, G, ⟨bA, bm, bc⟩, B, ⟨kA, km, kd⟩, K, ⟨tA, tm, tc⟩, M⟩ : CatD)) → Calls Try.prog 36 [.agg #[.int .i64 nv, .int .i64 ng, .int .i64 nb, .int .u64 fl, .slice vA vm vc, .slice gA gm gc, .slice bA bm bc, .slice kA km kd, .slice tA tm tc], .int .i64 id].toArray w fun e w' => e = .returned (.int .i64 (posV (V.map VolD.id) id)) ∧ Below w.heap.size w w' := fun w h => placeV_any (⟨nv, ng, nb, fl, ⟨vA, vm, vc⟩, V, ⟨gA, gm, gc⟩, G, ⟨bA, bm, bc⟩, B, ⟨kA, km, kd⟩, K, ⟨tA, tm, tc⟩, M⟩ : CatD) id w hc h
  cases hp : pos (V.map VolD.id) id with
  | none =>
    have e1 : posV (V.map VolD.id) id = -1 := by unfold posV; rw [hp]
    rw [e1] at hpl
    rw [delP_none hp]
    dsimp only [CatD.val]
    refine g_enter0 T [] [] [catF (⟨nv, ng, nb, fl, ⟨vA, vm, vc⟩, V, ⟨gA, gm, gc⟩, G, ⟨bA, bm, bc⟩, B, ⟨kA, km, kd⟩, K, ⟨tA, tm, tc⟩, M⟩ : CatD)] Try.func10 rfl Try.ntmps10 rfl (Rds.cons h .nil).kn ?_
    (repeat' (first | (first | refine g_nil ?_ | refine g_pure true hT rfl rfl rfl sI ?_ | refine g_skip rfl rfl ?_ | refine g_skip0 rfl rfl ?_ | refine gk_region rfl ?_ | refine gk_cond_t rfl rfl ?_ | refine gk_cond_f rfl rfl ?_ | refine g_yd rfl rfl (yd_load_blk hT rfl rfl mE rfl rfl) ?_ | refine g_yd rfl rfl (yd_load_row hT rfl rfl mE rfl rfl) ?_ | refine g_yd rfl rfl (yd_load_row0 hT rfl rfl mE rfl rfl) ?_ | refine g_yd rfl rfl (yd_eql rfl rfl rfl rfl rfl (by kernel_rfl)) ?_ | refine g_yd rfl rfl (yd_neq rfl rfl rfl rfl rfl (by kernel_rfl)) ?_ | refine g_yd rfl rfl (yd_index hT rfl rfl rfl sI rfl) ?_ | refine g_yd rfl rfl (yd_slice_nil hT rfl rfl rfl rfl) ?_ | refine g_yd rfl rfl (yd_build_arr hT rfl rfl rfl rfl rfl rfl) ?_ | (refine g_mv rfl ?_; first | (refine mv_box rfl rfl rfl rfl ?_; intro _) | (refine mv_alloc rfl hT rfl rfl ?_; intro _) | refine mv_store hT rfl rfl rfl rfl rfl rfl sO rfl ?_ | (refine mv_buildSlice rfl hT rfl rfl rfl rfl rfl rfl rfl rfl ?_; intro _)) | refine g_yd rfl rfl (Ys.yd (ys_str_eql hT rfl rfl rfl rfl)) ?_ | refine g_yd rfl rfl (Ys.yd (ys_str_neq hT rfl rfl rfl rfl)) ?_) | (refine g_mv rfl ?_; first | refine mv_call_bel (fun w hk => hpl w (hk.rR mE)) rfl rfl rfl rfl rfl (by kernel_rfl) ?_) | ((first | refine g_split rfl rfl tE (fun _ => ?_) (fun _ => ?_) | refine gk_cond rfl rfl tE (fun _ => ?_) (fun _ => ?_)) <;> (try first | (exfalso; omega; done) | (rename_i hx; exact absurd rfl hx) | (rename_i hx; cases hx; done)))))
    rename_i g2 g4 _
    refine gk_ret hT rfl rfl (.cell (g := g4) (cs := [.int .i64 0, .int .i64 0, .int .i64 0, .int .u64 0, .slice none 0 0, .slice none 0 0, .slice none 0 0, .slice none 0 0, .slice none 0 0]) (Tg := 29) rfl mE rfl rfl (.tmp rfl .nil)) (fun w' hk => ?_)
    exact RetS.mk (CatD.z, 40) ⟨z_ok, rfl⟩ rfl hk (.cons rs_z .nil)
  | some i =>
    have e1 : posV (V.map VolD.id) id = (i : Int) := by unfold posV; rw [hp]
    rw [e1] at hpl
    rw [delP_some hp]
    have hi : i < V.length := by
      have := (List.getElem?_eq_some_iff.1 (pos_some hp).1).1
      rw [List.length_map] at this
      exact this
    dsimp only [CatD.val]
    refine g_enter0 T [] [] [catF (⟨nv, ng, nb, fl, ⟨vA, vm, vc⟩, V, ⟨gA, gm, gc⟩, G, ⟨bA, bm, bc⟩, B, ⟨kA, km, kd⟩, K, ⟨tA, tm, tc⟩, M⟩ : CatD)] Try.func10 rfl Try.ntmps10 rfl (Rds.cons h .nil).kn ?_
    refine gk_der [catF (⟨nv, ng, nb, fl, ⟨vA, vm, vc⟩, V, ⟨gA, gm, gc⟩, G, ⟨bA, bm, bc⟩, B, ⟨kA, km, kd⟩, K, ⟨tA, tm, tc⟩, M⟩ : CatD)] (φ := sl vA 3 VE V) d_v sS ?_
    (repeat' (first | (first | refine g_nil ?_ | refine g_pure true hT rfl rfl rfl sI ?_ | refine g_skip rfl rfl ?_ | refine g_skip0 rfl rfl ?_ | refine gk_region rfl ?_ | refine gk_cond_t rfl rfl ?_ | refine gk_cond_f rfl rfl ?_ | refine g_yd rfl rfl (yd_load_blk hT rfl rfl mE rfl rfl) ?_ | refine g_yd rfl rfl (yd_load_row hT rfl rfl mE rfl rfl) ?_ | refine g_yd rfl rfl (yd_load_row0 hT rfl rfl mE rfl rfl) ?_ | refine g_yd rfl rfl (yd_eql rfl rfl rfl rfl rfl (by kernel_rfl)) ?_ | refine g_yd rfl rfl (yd_neq rfl rfl rfl rfl rfl (by kernel_rfl)) ?_ | refine g_yd rfl rfl (yd_index hT rfl rfl rfl sI rfl) ?_ | refine g_yd rfl rfl (yd_slice_nil hT rfl rfl rfl rfl) ?_ | refine g_yd rfl rfl (yd_build_arr hT rfl rfl rfl rfl rfl rfl) ?_ | (refine g_mv rfl ?_; first | (refine mv_box rfl rfl rfl rfl ?_; intro _) | (refine mv_alloc rfl hT rfl rfl ?_; intro _) | refine mv_store hT rfl rfl rfl rfl rfl rfl sO rfl ?_ | (refine mv_buildSlice rfl hT rfl rfl rfl rfl rfl rfl rfl rfl ?_; intro _)) | refine g_yd rfl rfl (Ys.yd (ys_str_eql hT rfl rfl rfl rfl)) ?_ | refine g_yd rfl rfl (Ys.yd (ys_str_neq hT rfl rfl rfl rfl)) ?_) | (refine g_mv rfl ?_; first | refine mv_call_bel (fun w hk => hpl w (hk.rR mE)) rfl rfl rfl rfl rfl (by kernel_rfl) ?_) | ((first | refine g_split rfl rfl tE (fun _ => ?_) (fun _ => ?_) | refine gk_cond rfl rfl tE (fun _ => ?_) (fun _ => ?_)) <;> (try first | (exfalso; omega; done) | (rename_i hx; exact absurd rfl hx) | (rename_i hx; cases hx; done)))))
    refine g_mv rfl ?_; refine mv_call_rt (fun w hk => cloneV_own vA vm vc V w hn (by omega) (hk.pR (sl vA 3 VE V) mE)) rfl rfl rfl rfl rfl (by kernel_rfl) (fun _ => rfl) (fun v1 _ => ?_)
    refine g_own0 v1 mE (by omega) (fun b1 c1 hv1 _ _ => ?_)
    subst hv1
    (repeat (first | refine g_nil ?_ | refine g_pure true hT rfl rfl rfl sI ?_ | refine g_skip rfl rfl ?_ | refine g_skip0 rfl rfl ?_ | refine gk_region rfl ?_ | refine gk_cond_t rfl rfl ?_ | refine gk_cond_f rfl rfl ?_ | refine g_yd rfl rfl (yd_load_blk hT rfl rfl mE rfl rfl) ?_ | refine g_yd rfl rfl (yd_load_row hT rfl rfl mE rfl rfl) ?_ | refine g_yd rfl rfl (yd_load_row0 hT rfl rfl mE rfl rfl) ?_ | refine g_yd rfl rfl (yd_eql rfl rfl rfl rfl rfl (by kernel_rfl)) ?_ | refine g_yd rfl rfl (yd_neq rfl rfl rfl rfl rfl (by kernel_rfl)) ?_ | refine g_yd rfl rfl (yd_index hT rfl rfl rfl sI rfl) ?_ | refine g_yd rfl rfl (yd_slice_nil hT rfl rfl rfl rfl) ?_ | refine g_yd rfl rfl (yd_build_arr hT rfl rfl rfl rfl rfl rfl) ?_ | (refine g_mv rfl ?_; first | (refine mv_box rfl rfl rfl rfl ?_; intro _) | (refine mv_alloc rfl hT rfl rfl ?_; intro _) | refine mv_store hT rfl rfl rfl rfl rfl rfl sO rfl ?_ | (refine mv_buildSlice rfl hT rfl rfl rfl rfl rfl rfl rfl rfl ?_; intro _)) | refine g_yd rfl rfl (Ys.yd (ys_str_eql hT rfl rfl rfl rfl)) ?_ | refine g_yd rfl rfl (Ys.yd (ys_str_neq hT rfl rfl rfl rfl)) ?_))
    refine g_mv rfl (mv_call_re (fun w hk => deleteV_any 0 b1 V.length c1 V i w (hk.pO (own 0 60 3 (.slice (some ⟨b1, 0, none⟩) V.length c1) VE V) mE) (by omega) hi) rfl rfl rfl rfl rfl (by kernel_rfl) (by intro _; first | ((repeat (first | with_reducible exact Upd.here _ | with_reducible apply Upd.there)); done) | ((repeat (first | exact Upd.here _ | apply Upd.there)); done) | fail) (fun v2 => ?_))
    refine g_freeze _ (by intro _; first | ((repeat (first | with_reducible exact Upd.here _ | with_reducible apply Upd.there)); done) | ((repeat (first | exact Upd.here _ | apply Upd.there)); done) | fail) (fun A2 c2 hA2 hA21 hA22 hA23 => ?_); subst hA2
    (repeat (first | refine g_nil ?_ | refine g_pure true hT rfl rfl rfl sI ?_ | refine g_skip rfl rfl ?_ | refine g_skip0 rfl rfl ?_ | refine gk_region rfl ?_ | refine gk_cond_t rfl rfl ?_ | refine gk_cond_f rfl rfl ?_ | refine g_yd rfl rfl (yd_load_blk hT rfl rfl mE rfl rfl) ?_ | refine g_yd rfl rfl (yd_load_row hT rfl rfl mE rfl rfl) ?_ | refine g_yd rfl rfl (yd_load_row0 hT rfl rfl mE rfl rfl) ?_ | refine g_yd rfl rfl (yd_eql rfl rfl rfl rfl rfl (by kernel_rfl)) ?_ | refine g_yd rfl rfl (yd_neq rfl rfl rfl rfl rfl (by kernel_rfl)) ?_ | refine g_yd rfl rfl (yd_index hT rfl rfl rfl sI rfl) ?_ | refine g_yd rfl rfl (yd_slice_nil hT rfl rfl rfl rfl) ?_ | refine g_yd rfl rfl (yd_build_arr hT rfl rfl rfl rfl rfl rfl) ?_ | (refine g_mv rfl ?_; first | (refine mv_box rfl rfl rfl rfl ?_; intro _) | (refine mv_alloc rfl hT rfl rfl ?_; intro _) | refine mv_store hT rfl rfl rfl rfl rfl rfl sO rfl ?_ | (refine mv_buildSlice rfl hT rfl rfl rfl rfl rfl rfl rfl rfl ?_; intro _)) | refine g_yd rfl rfl (Ys.yd (ys_str_eql hT rfl rfl rfl rfl)) ?_ | refine g_yd rfl rfl (Ys.yd (ys_str_neq hT rfl rfl rfl rfl)) ?_))
    rename_i g4 g2 _ _ _ _
    refine gk_ret hT rfl rfl (.cell (g := g2) (cs := [.int .i64 nv, .int .i64 ng, .int .i64 nb, .int .u64 fl, .slice A2 (V.take i ++ V.drop (i + 1)).length c2, .slice gA gm gc, .slice bA bm bc, .slice kA km kd, .slice tA tm tc]) (Tg := 29) rfl mE rfl rfl (.tmp rfl .nil)) (fun w' hk => ?_)
    exact RetS.mk ((⟨nv, ng, nb, fl, ⟨A2, _, c2⟩, V.take i ++ V.drop (i + 1), ⟨gA, gm, gc⟩, G, ⟨bA, bm, bc⟩, B, ⟨kA, km, kd⟩, K, ⟨tA, tm, tc⟩, M⟩ : CatD), 0) ⟨⟨⟨rfl, hA21, hA22, hA23⟩, hc.g, hc.b, hc.k, hc.t, fun x hx => hc.V x (del_mem hx), hc.G, hc.B, fun x hx => hc.m x (del_mem hx), hc.nv, hc.ng, hc.nb⟩, rfl⟩ rfl hk (.cons (catF_rs (RS1.own hk mE) (RS1.all fun x hx => part_rs hk mE (Der.elem d_V (del_mem hx))) (part_rs hk mE d_g) (part_rs hk mE d_G) (part_rs hk mE d_b) (part_rs hk mE d_B) (part_rs hk mE d_k) (part_rs hk mE d_t)) .nil)
end Go.Proofs.Ytbcdcjiibalnnaa.Ct

