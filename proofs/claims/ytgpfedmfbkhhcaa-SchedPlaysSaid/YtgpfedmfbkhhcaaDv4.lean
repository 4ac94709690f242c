/- Rows of timers: Push, Pop; they are heapsS. -/
import Derived.Test.YtgpfedmfbkhhcaaDv3
namespace Go.Proofs.Ytgpfedmfbkhhcaa.Dv
open Go.RowKit Mem Gx Hp Du
set_option linter.unusedVariables false
set_option linter.unusedSimpArgs false
set_option maxRecDepth 100000
set_option maxHeartbeats 1000000
theorem rpush_any (g r : Nat) (ru nw : Value) (v : Value) (L : List Tim) (x : Tim) (w : World) (hL : L.length ≤ 100000) (hn : Keys (L ++ [x])) (h : Rd1 w (duF g r ru nw v L)) :
    Calls Try.prog 122 [rowP g, .iface 87 x.val].toArray w (RetM (duF g r ru nw v L) (fun _ : Value × Value => True) (fun q => q.2) (fun q => duF g r ru nw q.1 (L ++ [x])) w) := by
  obtain ⟨A, c, hv, hc, hm, hA, _⟩ := own_rdv (h.unpack (.tail _ (.head _)))
  subst hv
  refine g_enter0 T _ (duL g r ru nw _ L) [] Try.func122 rfl Try.ntmps122 rfl (Kn.startP h (fun b hb => (du_fin g r ru nw _ L b).1 hb) (fun _ h => by cases h)) ?_
  refine gk_mpxE (L := L) (by repeat (first | with_reducible exact Sel.here | with_reducible apply Sel.there)) (fun M hM => ?_)
  (repeat (refine gG ?_; try intro _))
  refine g_yd rfl rfl (Ys.yd (ys_typeAssert rfl rfl (by kernel_rfl))) ?_
  (repeat (refine gG ?_; try intro _))
  rename_i g4
  refine gk_any [0, 2] (Cut _ (fun _ : Unit => [(0, rowP g), (4, .pointer (some ⟨g4, 0, none⟩))]) (fun _ => [blk g4 [.int .u64 x.t, .int .i64 x.k, .int .i64 x.i] 87, blk g [ru, (.slice A L.length c), .map (some r), nw] 33, own 0 87 3 (.slice A L.length c) TE L, mpk r (pairV .i64) (msG x.key (.int .i64 (L.length : Int)) M)]) (fun _ => [])) rfl rfl (by kernel_rfl) ?_ (cut_k fun _ => ?_)
  · skip
    refine gb_take 0 rfl (by decide +kernel) rfl rfl (ys_ev (nw := true) hT rfl sI) sF ?_
    refine gb_take 1 rfl (by decide +kernel) rfl rfl (ys_ev (nw := true) hT rfl sI) sF ?_
    refine gb_take 2 rfl (by decide +kernel) rfl rfl (ys_ev (nw := true) hT rfl sI) sF ?_
    refine gb_take 3 rfl (by decide +kernel) rfl rfl (by first | exact ys_blk hT rfl rfl mE rfl rfl | exact ys_row hT rfl rfl mE rfl rfl | exact ys_row0 hT rfl rfl mE rfl rfl) sF ?_
    refine gb_take 4 rfl (by decide +kernel) rfl rfl (by first | exact ys_blk hT rfl rfl mE rfl rfl | exact ys_row hT rfl rfl mE rfl rfl | exact ys_row0 hT rfl rfl mE rfl rfl) sF ?_
    refine gb_take 6 rfl (by decide +kernel) rfl rfl (ys_ev (nw := true) hT rfl sI) sF ?_
    refine gb_take 7 rfl (by decide +kernel) rfl rfl (ys_ev (nw := true) hT rfl sI) sF ?_
    refine gb_take 8 rfl (by decide +kernel) rfl rfl (ys_ev (nw := true) hT rfl sI) sF ?_
    refine gb_take 9 rfl (by decide +kernel) rfl rfl (by first | exact ys_blk hT rfl rfl mE rfl rfl | exact ys_row hT rfl rfl mE rfl rfl | exact ys_row0 hT rfl rfl mE rfl rfl) sF ?_
    refine gb_take 10 rfl (by decide +kernel) rfl rfl (ys_ev (nw := true) hT rfl sI) sF ?_
    refine gb_only 5 (by decide +kernel) rfl rfl ?_
    refine mv_call_bel (fun w hk => dof_any x w) rfl rfl rfl rfl rfl (by kernel_rfl) ?_
    refine ⟨sF, ?_⟩
    refine gb_only 11 (by decide +kernel) rfl rfl ?_
    refine mv_mapUpdateG rfl x.key rfl rfl rfl rfl rfl Try.underlying26 kok_name (by first | ((repeat (first | with_reducible exact Upd.here _ | with_reducible apply Upd.there)); done) | ((repeat (first | exact Upd.here _ | apply Upd.there)); done) | fail) ?_
    refine ⟨sF, ?_⟩
    refine gb_nil (by decide +kernel) ?_
    exact ⟨(), (by repeat (first | exact trivial | refine ⟨rfl, ?_⟩)), sA, sS⟩
  · refine gk_mpxI (map_snoc hn hM) (by repeat (first | with_reducible exact Sel.here | with_reducible apply Sel.there)) ?_
    refine gk_any [1] (Cut _ (fun _ : Value => []) (fun v => duL g r ru nw v (L ++ [x])) (fun _ => [])) rfl rfl (by kernel_rfl) ?_ (cut_k fun v => ?_)
    · skip
      refine gb_take 0 rfl (by decide +kernel) rfl rfl (ys_ev (nw := true) hT rfl sI) sF ?_
      refine gb_take 1 rfl (by decide +kernel) rfl rfl (ys_ev (nw := true) hT rfl sI) sF ?_
      refine gb_take 2 rfl (by decide +kernel) rfl rfl (ys_ev (nw := true) hT rfl sI) sF ?_
      refine gb_take 3 rfl (by decide +kernel) rfl rfl (ys_ev (nw := true) hT rfl sI) sF ?_
      refine gb_take 5 rfl (by decide +kernel) rfl rfl (by first | exact ys_blk hT rfl rfl mE rfl rfl | exact ys_row hT rfl rfl mE rfl rfl | exact ys_row0 hT rfl rfl mE rfl rfl) sF ?_
      refine gb_all (by decide +kernel) ?_
      refine gball_not (by decide +kernel) ?_
      refine gball_not (by decide +kernel) ?_
      refine gball_not (by decide +kernel) ?_
      refine gball_not (by decide +kernel) ?_
      refine gball_yes rfl rfl ?_ ?_
      · refine mv_yd rfl (yd_load_blk hT rfl rfl mE rfl rfl) ?_
        refine ⟨sF, ?_⟩
        refine gb_only 6 (by decide +kernel) rfl rfl ?_
        (refine mv_buildSlice (len := 1) rfl hT rfl rfl rfl rfl rfl rfl rfl rfl ?_; intro g7)
        refine ⟨sF, ?_⟩
        refine gb_only 7 (by decide +kernel) rfl rfl ?_
        refine mv_append (L := L) rfl [x] rfl rfl rfl rfl elt_T (by intro _; first | ((repeat (first | with_reducible exact Upd.here _ | with_reducible apply Upd.there)); done) | ((repeat (first | exact Upd.here _ | apply Upd.there)); done) | fail) (src_blk mE rfl) rfl oneT (by simp only [maxLen, List.length_cons, List.length_nil]; omega) (by simp only [List.length_cons, List.length_nil]; omega) (Nat.zero_le _) (fun v2 => ?_)
        refine ⟨sF, ?_⟩
        (refine gb_ownv v2 mE (fun A2 c2 hv2 _ _ _ => ?_); subst hv2)
        refine gb_take 8 rfl (by decide +kernel) rfl rfl (ys_ev (nw := true) hT rfl sI) sF ?_
        refine gb_take 9 rfl (by decide +kernel) rfl rfl (ys_ev (nw := true) hT rfl sI) sF ?_
        refine gb_only 10 (by decide +kernel) rfl rfl ?_
        first | (refine mv_box rfl rfl rfl rfl ?_; intro _) | (refine mv_alloc rfl hT rfl rfl ?_; intro _) | refine mv_store hT rfl rfl rfl rfl rfl rfl sO rfl ?_ | (refine mv_buildSlice rfl hT rfl rfl rfl rfl rfl rfl rfl rfl ?_; intro _)
        refine ⟨sF, ?_⟩
        refine gb_nil (by decide +kernel) ?_
        exact ⟨_, (by repeat (first | exact trivial | refine ⟨rfl, ?_⟩)), sA, sS⟩
      refine gball_not (by decide +kernel) ?_
      refine gball_yes rfl rfl ?_ ?_
      · (refine mv_buildSlice (len := 1) rfl hT rfl rfl rfl rfl rfl rfl rfl rfl ?_; intro g7)
        refine ⟨sF, ?_⟩
        refine gb_only 4 (by decide +kernel) rfl rfl ?_
        refine mv_yd rfl (yd_load_blk hT rfl rfl mE rfl rfl) ?_
        refine ⟨sF, ?_⟩
        refine gb_only 7 (by decide +kernel) rfl rfl ?_
        refine mv_append (L := L) rfl [x] rfl rfl rfl rfl elt_T (by intro _; first | ((repeat (first | with_reducible exact Upd.here _ | with_reducible apply Upd.there)); done) | ((repeat (first | exact Upd.here _ | apply Upd.there)); done) | fail) (src_blk mE rfl) rfl oneT (by simp only [maxLen, List.length_cons, List.length_nil]; omega) (by simp only [List.length_cons, List.length_nil]; omega) (Nat.zero_le _) (fun v2 => ?_)
        refine ⟨sF, ?_⟩
        (refine gb_ownv v2 mE (fun A2 c2 hv2 _ _ _ => ?_); subst hv2)
        refine gb_take 8 rfl (by decide +kernel) rfl rfl (ys_ev (nw := true) hT rfl sI) sF ?_
        refine gb_take 9 rfl (by decide +kernel) rfl rfl (ys_ev (nw := true) hT rfl sI) sF ?_
        refine gb_only 10 (by decide +kernel) rfl rfl ?_
        first | (refine mv_box rfl rfl rfl rfl ?_; intro _) | (refine mv_alloc rfl hT rfl rfl ?_; intro _) | refine mv_store hT rfl rfl rfl rfl rfl rfl sO rfl ?_ | (refine mv_buildSlice rfl hT rfl rfl rfl rfl rfl rfl rfl rfl ?_; intro _)
        refine ⟨sF, ?_⟩
        refine gb_nil (by decide +kernel) ?_
        exact ⟨_, (by repeat (first | exact trivial | refine ⟨rfl, ?_⟩)), sA, sS⟩
      refine gball_not (by decide +kernel) ?_
      refine gball_not (by decide +kernel) ?_
      refine gball_not (by decide +kernel) ?_
      refine gball_not (by decide +kernel) ?_
      exact gball_end (by decide +kernel)
    · (repeat (refine gG ?_; try intro _))
      refine gk_fin hT rfl rfl .nil (fun w' hk => ?_)
      exact RetM.mkP (ll := fun q : Value × Value => duL g r ru nw q.1 (L ++ [x])) (v, .tuple #[]) trivial rfl hk (fun b hb => (du_fin g r ru nw _ L b).2 hb) sA
theorem rpop_any (g r : Nat) (ru nw : Value) (v : Value) (L : List Tim) (x : Tim) (w : World) (hL : L.length ≤ 100000) (hn : Keys (L ++ [x])) (h : Rd1 w (duF g r ru nw v (L ++ [x]))) :
    Calls Try.prog 121 [rowP g].toArray w (RetM (duF g r ru nw v (L ++ [x])) (fun _ : Value => True) (fun _ => .iface 87 x.val) (fun v' => duF g r ru nw v' L) w) := by
  have hl1 : (L ++ [x]).length = L.length + 1 := by simp
  have hx : (L ++ [x])[L.length]? = some x := by simp
  obtain ⟨b, c, hv, hc, hm⟩ := own_at0 (h.unpack (.tail _ (.head _))).1 (by omega)
  rw [hl1] at hv hc
  subst hv
  refine g_enter0 T _ (duL g r ru nw _ (L ++ [x])) [] Try.func121 rfl Try.ntmps121 rfl (Kn.startP h (fun b hb => (du_fin g r ru nw _ _ b).1 hb) (fun _ h => by cases h)) ?_
  (repeat (refine gG ?_; try intro _))
  refine gk_any [0, 1] (Cut _ (fun g3 : Nat => [(0, rowP g), (3, .pointer (some ⟨g3, 0, none⟩))]) (fun g3 => [blk g3 [.int .u64 x.t, .int .i64 x.k, .int .i64 x.i] 87, blk g [ru, (.slice (some ⟨b, 0, none⟩) (L.length + 1) c), .map (some r), nw] 33, own 0 87 3 (.slice (some ⟨b, 0, none⟩) (L.length + 1) c) TE (L ++ [x]), mpx r (L ++ [x])]) (fun _ => [])) rfl rfl (by kernel_rfl) ?_ (cut_k fun g3 => ?_)
  · skip
    refine gb_take 0 rfl (by decide +kernel) rfl rfl (ys_ev (nw := true) hT rfl sI) sF ?_
    refine gb_take 1 rfl (by decide +kernel) rfl rfl (ys_ev (nw := true) hT rfl sI) sF ?_
    refine gb_take 2 rfl (by decide +kernel) rfl rfl (ys_ev (nw := true) hT rfl sI) sF ?_
    refine gb_take 3 rfl (by decide +kernel) rfl rfl (by first | exact ys_blk hT rfl rfl mE rfl rfl | exact ys_row hT rfl rfl mE rfl rfl | exact ys_row0 hT rfl rfl mE rfl rfl) sF ?_
    refine gb_take 4 rfl (by decide +kernel) rfl rfl (ys_ev (nw := true) hT rfl sI) sF ?_
    refine gb_take 5 rfl (by decide +kernel) rfl rfl (ys_ev (nw := true) hT rfl sI) sF ?_
    refine gb_take 6 rfl (by decide +kernel) rfl rfl (ys_ev (nw := true) hT rfl sI) sF ?_
    refine gb_take 7 rfl (by decide +kernel) rfl rfl (by first | exact ys_blk hT rfl rfl mE rfl rfl | exact ys_row hT rfl rfl mE rfl rfl | exact ys_row0 hT rfl rfl mE rfl rfl) sF ?_
    refine gb_take 8 rfl (by decide +kernel) rfl rfl (ys_ev (nw := true) hT rfl sI) sF ?_
    refine gb_take 9 rfl (by decide +kernel) rfl rfl (ys_ev (nw := true) hT rfl sI) sF ?_
    refine gb_take 10 rfl (by decide +kernel) rfl rfl (ys_ev (nw := true) hT rfl sI) sF ?_
    refine gb_take 11 rfl (by decide +kernel) rfl rfl (ys_load_el (o0 := 0) (sz := 3) (enc := TE) (L := L ++ [x]) hT L.length x 0 rfl rfl rfl (by omega) hx (at_own mE) rfl rfl) sF ?_
    refine gb_only 12 (by decide +kernel) rfl rfl ?_
    first | (refine mv_box rfl rfl rfl rfl ?_; intro _) | (refine mv_alloc rfl hT rfl rfl ?_; intro _) | refine mv_store hT rfl rfl rfl rfl rfl rfl sO rfl ?_ | (refine mv_buildSlice rfl hT rfl rfl rfl rfl rfl rfl rfl rfl ?_; intro _)
    refine ⟨sF, ?_⟩
    refine gb_only 13 (by decide +kernel) rfl rfl ?_
    first | (refine mv_box rfl rfl rfl rfl ?_; intro _) | (refine mv_alloc rfl hT rfl rfl ?_; intro _) | refine mv_store hT rfl rfl rfl rfl rfl rfl sO rfl ?_ | (refine mv_buildSlice rfl hT rfl rfl rfl rfl rfl rfl rfl rfl ?_; intro _)
    refine ⟨sF, ?_⟩
    refine gb_nil (by decide +kernel) ?_
    exact ⟨_, (by repeat (first | exact trivial | refine ⟨rfl, ?_⟩)), sA, sS⟩
  · refine gk_any [0] (Cut _ (fun _ : Unit => [(0, rowP g), (3, .pointer (some ⟨g3, 0, none⟩))]) (fun _ => [blk g3 [.int .u64 x.t, .int .i64 x.k, .int .i64 x.i] 87, blk g [ru, (.slice (some ⟨b, 0, none⟩) L.length c), .map (some r), nw] 33, own 0 87 3 (.slice (some ⟨b, 0, none⟩) (L.length + 1) c) TE (L ++ [x]), mpx r (L ++ [x])]) (fun _ => [])) rfl rfl (by kernel_rfl) ?_ (cut_k fun _ => ?_)
    · skip
      refine gb_take 0 rfl (by decide +kernel) rfl rfl (ys_ev (nw := true) hT rfl sI) sF ?_
      refine gb_take 1 rfl (by decide +kernel) rfl rfl (ys_ev (nw := true) hT rfl sI) sF ?_
      refine gb_take 2 rfl (by decide +kernel) rfl rfl (ys_ev (nw := true) hT rfl sI) sF ?_
      refine gb_take 3 rfl (by decide +kernel) rfl rfl (ys_ev (nw := true) hT rfl sI) sF ?_
      refine gb_take 5 rfl (by decide +kernel) rfl rfl (ys_ev (nw := true) hT rfl sI) sF ?_
      refine gb_take 6 rfl (by decide +kernel) rfl rfl (ys_ev (nw := true) hT rfl sI) sF ?_
      refine gb_take 7 rfl (by decide +kernel) rfl rfl (ys_ev (nw := true) hT rfl sI) sF ?_
      refine gb_all (by decide +kernel) ?_
      refine gball_not (by decide +kernel) ?_
      refine gball_not (by decide +kernel) ?_
      refine gball_not (by decide +kernel) ?_
      refine gball_not (by decide +kernel) ?_
      refine gball_yes rfl rfl ?_ ?_
      · refine mv_yd rfl (yd_load_blk hT rfl rfl mE rfl rfl) ?_
        refine ⟨sF, ?_⟩
        refine gb_only 8 (by decide +kernel) rfl rfl ?_
        refine mv_yd rfl (yd_load_blk hT rfl rfl mE rfl rfl) ?_
        refine ⟨sF, ?_⟩
        refine gb_take 9 rfl (by decide +kernel) rfl rfl (ys_ev (nw := true) hT rfl sI) sF ?_
        refine gb_take 10 rfl (by decide +kernel) rfl rfl (ys_ev (nw := true) hT rfl sI) sF ?_
        refine gb_take 11 rfl (by decide +kernel) rfl rfl (ys_slice_h hT L.length rfl rfl rfl rfl (by omega) (by omega)) sF ?_
        try (refine gb_say 27 (.slice (some ⟨b, 0, none⟩) L.length c) rfl (by rw [shA_0]) ?_)
        refine gb_take 12 rfl (by decide +kernel) rfl rfl (ys_ev (nw := true) hT rfl sI) sF ?_
        refine gb_take 13 rfl (by decide +kernel) rfl rfl (ys_ev (nw := true) hT rfl sI) sF ?_
        refine gb_only 14 (by decide +kernel) rfl rfl ?_
        first | (refine mv_box rfl rfl rfl rfl ?_; intro _) | (refine mv_alloc rfl hT rfl rfl ?_; intro _) | refine mv_store hT rfl rfl rfl rfl rfl rfl sO rfl ?_ | (refine mv_buildSlice rfl hT rfl rfl rfl rfl rfl rfl rfl rfl ?_; intro _)
        refine ⟨sF, ?_⟩
        refine gb_nil (by decide +kernel) ?_
        exact ⟨(), (by repeat (first | exact trivial | refine ⟨rfl, ?_⟩)), sA, sS⟩
      refine gball_not (by decide +kernel) ?_
      refine gball_not (by decide +kernel) ?_
      refine gball_not (by decide +kernel) ?_
      refine gball_yes rfl rfl ?_ ?_
      · refine mv_yd rfl (yd_load_blk hT rfl rfl mE rfl rfl) ?_
        refine ⟨sF, ?_⟩
        refine gb_take 9 rfl (by decide +kernel) rfl rfl (ys_ev (nw := true) hT rfl sI) sF ?_
        refine gb_take 10 rfl (by decide +kernel) rfl rfl (ys_ev (nw := true) hT rfl sI) sF ?_
        refine gb_only 4 (by decide +kernel) rfl rfl ?_
        refine mv_yd rfl (yd_load_blk hT rfl rfl mE rfl rfl) ?_
        refine ⟨sF, ?_⟩
        refine gb_take 11 rfl (by decide +kernel) rfl rfl (ys_slice_h hT L.length rfl rfl rfl rfl (by omega) (by omega)) sF ?_
        try (refine gb_say 27 (.slice (some ⟨b, 0, none⟩) L.length c) rfl (by rw [shA_0]) ?_)
        refine gb_take 12 rfl (by decide +kernel) rfl rfl (ys_ev (nw := true) hT rfl sI) sF ?_
        refine gb_take 13 rfl (by decide +kernel) rfl rfl (ys_ev (nw := true) hT rfl sI) sF ?_
        refine gb_only 14 (by decide +kernel) rfl rfl ?_
        first | (refine mv_box rfl rfl rfl rfl ?_; intro _) | (refine mv_alloc rfl hT rfl rfl ?_; intro _) | refine mv_store hT rfl rfl rfl rfl rfl rfl sO rfl ?_ | (refine mv_buildSlice rfl hT rfl rfl rfl rfl rfl rfl rfl rfl ?_; intro _)
        refine ⟨sF, ?_⟩
        refine gb_nil (by decide +kernel) ?_
        exact ⟨(), (by repeat (first | exact trivial | refine ⟨rfl, ?_⟩)), sA, sS⟩
      refine gball_not (by decide +kernel) ?_
      refine gball_not (by decide +kernel) ?_
      refine gball_not (by decide +kernel) ?_
      refine gball_not (by decide +kernel) ?_
      refine gball_not (by decide +kernel) ?_
      refine gball_not (by decide +kernel) ?_
      exact gball_end (by decide +kernel)
    · refine gk_own_blk (g := b) (base := 0) (e := 87) (sz := 3) (n := L.length + 1) (c := c) (enc := TE) (L := L ++ [x]) (by decide) (by intro _; first | ((repeat (first | with_reducible exact Upd.here _ | with_reducible apply Upd.there)); done) | ((repeat (first | exact Upd.here _ | apply Upd.there)); done) | fail) (fun r0 hr1 hr2 hr3 hr4 hr5 => ?_)
      refine gk_blk_own (g := b) (e := 87) (base := 0) (sz := 3) (enc := TE) (n := L.length) (c := c) L (by decide) (by first | ((repeat (first | with_reducible exact Upd.here _ | with_reducible apply Upd.there)); done) | ((repeat (first | exact Upd.here _ | apply Upd.there)); done) | fail) hr1 rfl (by omega) hr4 hr5 (by rw [flatF_append, List.append_assoc]; exact List.take_left' (flatF_length _ _ L)) ?_
      refine gk_mpxE (L := L ++ [x]) (by repeat (first | with_reducible exact Sel.here | with_reducible apply Sel.there)) (fun M hM => ?_)
      refine gk_any [1, 2] (Cut _ (fun _ : Unit => [(3, .pointer (some ⟨g3, 0, none⟩))]) (fun _ => [blk g3 [.int .u64 x.t, .int .i64 x.k, .int .i64 x.i] 87, blk g [ru, (.slice (some ⟨b, 0, none⟩) L.length c), .map (some r), nw] 33, own 0 87 3 (.slice (some ⟨b, 0, none⟩) L.length c) TE L, mpk r (pairV .i64) (mdG x.key M)]) (fun _ => [])) rfl rfl (by kernel_rfl) ?_ (cut_k fun _ => ?_)
      · skip
        refine gb_take 0 rfl (by decide +kernel) rfl rfl (ys_ev (nw := true) hT rfl sI) sF ?_
        refine gb_take 1 rfl (by decide +kernel) rfl rfl (ys_ev (nw := true) hT rfl sI) sF ?_
        refine gb_take 2 rfl (by decide +kernel) rfl rfl (ys_ev (nw := true) hT rfl sI) sF ?_
        refine gb_take 3 rfl (by decide +kernel) rfl rfl (by first | exact ys_blk hT rfl rfl mE rfl rfl | exact ys_row hT rfl rfl mE rfl rfl | exact ys_row0 hT rfl rfl mE rfl rfl) sF ?_
        refine gb_take 4 rfl (by decide +kernel) rfl rfl (by first | exact ys_blk hT rfl rfl mE rfl rfl | exact ys_row hT rfl rfl mE rfl rfl | exact ys_row0 hT rfl rfl mE rfl rfl) sF ?_
        refine gb_only 5 (by decide +kernel) rfl rfl ?_
        refine mv_call_bel (fun w hk => dof_any x w) rfl rfl rfl rfl rfl (by kernel_rfl) ?_
        refine ⟨sF, ?_⟩
        refine gb_only 6 (by decide +kernel) rfl rfl ?_
        refine mv_mapDeleteG rfl x.key rfl rfl rfl rfl rfl Try.underlying26 kok_name (by first | ((repeat (first | with_reducible exact Upd.here _ | with_reducible apply Upd.there)); done) | ((repeat (first | exact Upd.here _ | apply Upd.there)); done) | fail) ?_
        refine ⟨sF, ?_⟩
        refine gb_nil (by decide +kernel) ?_
        exact ⟨(), (by repeat (first | exact trivial | refine ⟨rfl, ?_⟩)), sA, sS⟩
      · refine gk_mpxI (map_init hn hM) (by repeat (first | with_reducible exact Sel.here | with_reducible apply Sel.there)) ?_
        (repeat (refine gG ?_; try intro _))
        refine g_yd rfl rfl (Ys.yd (ys_makeIface rfl rfl (by kernel_rfl))) ?_
        (repeat (refine gG ?_; try intro _))
        refine gk_ret hT rfl rfl (.tmp rfl .nil) (fun w' hk => ?_)
        exact RetM.mkP (ll := fun v' => duL g r ru nw v' L) (.slice (some ⟨b, 0, none⟩) L.length c) trivial rfl hk (fun b hb => (du_fin g r ru nw _ _ b).2 hb) sA
/-- A row of timers is a heap. -/
def duHO (g r : Nat) (ru nw : Value) : HO Value Tim where
  iv := .iface 118 (rowP g)
  F v L := duF g r ru nw v L
  lt := ltT
  ord := lt_tim
  ok := Keys
  okp _ _ hp h := h.perm hp
  okl _ _ h := h.snoc.1
  xv x := .iface 87 x.val
  fin v L w _ := ⟨_, du_fin g r ru nw v L⟩
  len v L w h _ _ := ⟨119, #[rowP g], (by kernel_rfl), rlen_any g r ru nw v L w h⟩
  less v L w i j x y h _ _ hx hy := ⟨120, #[rowP g, .int .i64 (i : Int), .int .i64 (j : Int)], (by kernel_rfl), rless_any g r ru nw v L i j x y w hx hy h⟩
  swap v L w i j x y h hn _ hx hy := ⟨123, #[rowP g, .int .i64 (i : Int), .int .i64 (j : Int)], (by kernel_rfl), rswap_any g r ru nw v L i j x y w hn hx hy h⟩
  push v L w x h hn hL := ⟨122, #[rowP g, .iface 87 x.val], (by kernel_rfl), rpush_any g r ru nw v L x w hL hn h⟩
  pop v L x w h hn hL := ⟨121, #[rowP g], (by kernel_rfl), rpop_any g r ru nw v L x w hL hn h⟩
end Go.Proofs.Ytgpfedmfbkhhcaa.Dv

