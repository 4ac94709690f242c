/- The law NodePuts. -/
import Derived.Test.YtdjhocgfdbnkmaaNdU
import Derived.Test.YtdjhocgfdbnkmaaNdP
import Derived.Test.YtdjhocgfdbnkmaaNdE
import Derived.Test.YtdjhocgfdbnkmaaBeq
namespace Go.Proofs.Ytdjhocgfdbnkmaa.Nd
open Go.RowKit Mem Gx Rd Bytes
set_option linter.unusedVariables false
set_option linter.unusedSimpArgs false
set_option maxRecDepth 100000
set_option maxHeartbeats 4000000
theorem nput_leaf' (d : NodeD) (L : List EntD) (w : World) (hd : IsLeaf L d) (hbd : ∀ e ∈ L, e.Bd) (hB : Rds w [blk d.g [.bool d.leaf, d.K.v, d.V.v, d.C.v, .int .u32 d.a] 156, sl d.K.A 3 KE d.Ks, sl d.V.A 1 (IE .u32) d.Vs]) :
    Calls Try.prog 100 [.pointer (some ⟨d.g, 0, none⟩)].toArray w (RetP L true w) := by
  by_cases h : L.length = 0 ∨ 6 < L.length
  · refine nput_arg d.g d.leaf d.K d.V d.C d.a L true w h ?_ (.cons (hB.mem (.head _)) .nil)
    rw [hd.ok.K.n, hd.Ks, List.length_map]
  · exact nput_leaf d L w hd (by omega) (by omega) hbd hB
theorem nput_inner' (ds : List NodeD) (d : NodeD) (L : List EntD) (w : World) (hd : IsInner ds d) (hks : ds.map (fun x => x.Ks.getD 0 default) = L.map (·.k)) (hds : ds.map NodeD.a = L.map (·.a)) (hbd : ∀ e ∈ L, e.Bd) (hB : Rds w [blk d.g [.bool d.leaf, d.K.v, d.V.v, d.C.v, .int .u32 d.a] 156, sl d.K.A 3 KE d.Ks, sl d.C.A 1 PE d.Cs, allF ds kidB]) :
    Calls Try.prog 100 [.pointer (some ⟨d.g, 0, none⟩)].toArray w (RetP L false w) := by
  have hK : d.Ks = L.map (·.k) := by rw [hd.Ks, hks]
  by_cases h : L.length = 0 ∨ 6 < L.length
  · refine nput_arg d.g d.leaf d.K d.V d.C d.a L false w h ?_ (.cons (hB.mem (.head _)) .nil)
    rw [hd.ok.K.n, hK, List.length_map]
  · exact nput_inner ds d L w hd.ok hd.leaf hK hd.Cs hd.a hds (by omega) (by omega) hbd hB
theorem tB_or {p q : Prop} : (tB p || tB q) = tB (p ∨ q) := by
  by_cases h1 : p <;> by_cases h2 : q <;> simp [tB_eq, h1, h2]
theorem putM_isB {L : List EntD} {lf : Bool} : IsB (putM L lf) := by
  unfold putM
  split
  · rename_i h
    have h6 : L.length ≤ 6 := by
      rcases Nat.lt_or_ge 6 L.length with h6 | h6
      · unfold putC at h; rw [if_pos (.inr h6)] at h; cases h
      · exact h6
    exact Page.page_isB (by split <;> omega) (by rw [nodeB_len]; omega) (nodeB_isB L (by omega))
  · exact IsB.nil
theorem nodePuts_leaf (A : Option Addr) (n c : Nat) (L : List EntD) (w : World) (hs0 : (SlV.mk A n c).Ok L.length) (hL : Sl w A 4 EE L) (hbd : ∀ e ∈ L, e.Bd) (hr14 : L.length ≤ 14 ∧ Asc L) :
    Calls Try.prog 14 [.slice A n c, .bool true].toArray w fun e w' => e = .returned (.bool true) ∧ Below w.heap.size w w' := by
  have hn : n = L.length := hs0.n
  refine g_enter0 T [] [] [sl A 4 EE L] Try.func14 rfl Try.ntmps14 rfl ((Kn.start w).argR hL (by decide) (fun _ h => by cases h)) ?_
  (repeat' (first | (first | refine g_nil ?_ | refine g_pure true hT rfl rfl rfl sI ?_ | refine g_skip rfl rfl ?_ | refine g_skip0 rfl rfl ?_ | refine gk_region rfl ?_ | refine gk_cond_t rfl rfl ?_ | refine gk_cond_f rfl rfl ?_ | refine g_yd rfl rfl (yd_load_blk hT rfl rfl mE rfl rfl) ?_ | refine g_yd rfl rfl (yd_load_row hT rfl rfl mE rfl rfl) ?_ | refine g_yd rfl rfl (yd_load_row0 hT rfl rfl mE rfl rfl) ?_ | refine g_yd rfl rfl (yd_eql rfl rfl rfl rfl rfl (by kernel_rfl)) ?_ | refine g_yd rfl rfl (yd_neq rfl rfl rfl rfl rfl (by kernel_rfl)) ?_ | refine g_yd rfl rfl (yd_index hT rfl rfl rfl sI rfl) ?_ | refine g_yd rfl rfl (yd_slice_nil hT rfl rfl rfl rfl) ?_ | refine g_yd rfl rfl (yd_build_arr hT rfl rfl rfl rfl rfl rfl) ?_ | (refine g_mv rfl ?_; first | (refine mv_box rfl rfl rfl rfl ?_; intro _) | (refine mv_alloc rfl hT rfl rfl ?_; intro _) | refine mv_store hT rfl rfl rfl rfl rfl rfl sO rfl ?_ | (refine mv_buildSlice rfl hT rfl rfl rfl rfl rfl rfl rfl rfl ?_; intro _)) | refine g_yd rfl rfl (Ys.yd (ys_str_eql hT rfl rfl rfl rfl)) ?_ | refine g_yd rfl rfl (Ys.yd (ys_str_neq hT rfl rfl rfl rfl)) ?_) | (refine g_mv rfl ?_; first | refine mv_call_bel (fun w hk => calls_b' (tB_true hr14) (rises_any A n c L 14 w hn (by omega) (hk.pR (sl A 4 EE L) mE))) rfl rfl rfl rfl rfl (by kernel_rfl) ?_) | ((first | refine g_split rfl rfl tE (fun _ => ?_) (fun _ => ?_) | refine gk_cond rfl rfl tE (fun _ => ?_) (fun _ => ?_)) <;> (try first | (exfalso; omega; done) | (rename_i hx; exact absurd rfl hx) | (rename_i hx; cases hx; done)))))
  refine g_mv rfl ?_; refine mv_call_rt (fun w hk => leaf_any A n c L w hn (by omega) (hk.pR (sl A 4 EE L) mE)) rfl rfl rfl rfl rfl (by kernel_rfl) (fun _ => rfl) (fun d hd => ?_)
  (repeat' (first | (first | refine g_nil ?_ | refine g_pure true hT rfl rfl rfl sI ?_ | refine g_skip rfl rfl ?_ | refine g_skip0 rfl rfl ?_ | refine gk_region rfl ?_ | refine gk_cond_t rfl rfl ?_ | refine gk_cond_f rfl rfl ?_ | refine g_yd rfl rfl (yd_load_blk hT rfl rfl mE rfl rfl) ?_ | refine g_yd rfl rfl (yd_load_row hT rfl rfl mE rfl rfl) ?_ | refine g_yd rfl rfl (yd_load_row0 hT rfl rfl mE rfl rfl) ?_ | refine g_yd rfl rfl (yd_eql rfl rfl rfl rfl rfl (by kernel_rfl)) ?_ | refine g_yd rfl rfl (yd_neq rfl rfl rfl rfl rfl (by kernel_rfl)) ?_ | refine g_yd rfl rfl (yd_index hT rfl rfl rfl sI rfl) ?_ | refine g_yd rfl rfl (yd_slice_nil hT rfl rfl rfl rfl) ?_ | refine g_yd rfl rfl (yd_build_arr hT rfl rfl rfl rfl rfl rfl) ?_ | (refine g_mv rfl ?_; first | (refine mv_box rfl rfl rfl rfl ?_; intro _) | (refine mv_alloc rfl hT rfl rfl ?_; intro _) | refine mv_store hT rfl rfl rfl rfl rfl rfl sO rfl ?_ | (refine mv_buildSlice rfl hT rfl rfl rfl rfl rfl rfl rfl rfl ?_; intro _)) | refine g_yd rfl rfl (Ys.yd (ys_str_eql hT rfl rfl rfl rfl)) ?_ | refine g_yd rfl rfl (Ys.yd (ys_str_neq hT rfl rfl rfl rfl)) ?_) | ((first | refine g_split rfl rfl tE (fun _ => ?_) (fun _ => ?_) | refine gk_cond rfl rfl tE (fun _ => ?_) (fun _ => ?_)) <;> (try first | (exfalso; omega; done) | (rename_i hx; exact absurd rfl hx) | (rename_i hx; cases hx; done)))))
  refine g_mv rfl ?_; refine mv_call_rt (fun w hk => nput_leaf' d L w hd hbd (.cons (hk.rO mE) (.cons (hk.rO mE) (.cons (hk.rO mE) .nil)))) rfl rfl rfl rfl rfl (by kernel_rfl) (fun _ => rfl) (fun r hr => ?_)
  have hc := hr.c
  have hrM := hr.M
  have hrn := hr.ok.n
  by_cases h06 : L.length = 0 ∨ 6 < L.length
  · have hc10 : r.c = 10 := by rw [hc]; unfold putC; rw [if_pos h06]
    have hM0 : r.s.n = 0 := by
      rw [hrn, hrM]; unfold putM
      rw [show putC L true = 10 by unfold putC; rw [if_pos h06], if_neg (by decide)]; rfl
    (repeat' (first | (first | refine g_nil ?_ | refine g_pure true hT rfl rfl rfl sI ?_ | refine g_skip rfl rfl ?_ | refine g_skip0 rfl rfl ?_ | refine gk_region rfl ?_ | refine gk_cond_t rfl rfl ?_ | refine gk_cond_f rfl rfl ?_ | refine g_yd rfl rfl (yd_load_blk hT rfl rfl mE rfl rfl) ?_ | refine g_yd rfl rfl (yd_load_row hT rfl rfl mE rfl rfl) ?_ | refine g_yd rfl rfl (yd_load_row0 hT rfl rfl mE rfl rfl) ?_ | refine g_yd rfl rfl (yd_eql rfl rfl rfl rfl rfl (by kernel_rfl)) ?_ | refine g_yd rfl rfl (yd_neq rfl rfl rfl rfl rfl (by kernel_rfl)) ?_ | refine g_yd rfl rfl (yd_index hT rfl rfl rfl sI rfl) ?_ | refine g_yd rfl rfl (yd_slice_nil hT rfl rfl rfl rfl) ?_ | refine g_yd rfl rfl (yd_build_arr hT rfl rfl rfl rfl rfl rfl) ?_ | (refine g_mv rfl ?_; first | (refine mv_box rfl rfl rfl rfl ?_; intro _) | (refine mv_alloc rfl hT rfl rfl ?_; intro _) | refine mv_store hT rfl rfl rfl rfl rfl rfl sO rfl ?_ | (refine mv_buildSlice rfl hT rfl rfl rfl rfl rfl rfl rfl rfl ?_; intro _)) | refine g_yd rfl rfl (Ys.yd (ys_str_eql hT rfl rfl rfl rfl)) ?_ | refine g_yd rfl rfl (Ys.yd (ys_str_neq hT rfl rfl rfl rfl)) ?_) | (refine g_mv rfl ?_; first | refine mv_call_bel (fun w hk => nalive_any w) rfl rfl rfl rfl rfl (by kernel_rfl) ?_) | ((first | refine g_split rfl rfl tE (fun _ => ?_) (fun _ => ?_) | refine gk_cond rfl rfl tE (fun _ => ?_) (fun _ => ?_)) <;> (try first | (exfalso; omega; done) | (rename_i hx; exact absurd rfl hx) | (rename_i hx; cases hx; done)))))
    all_goals (refine gk_ret hT rfl rfl (.tmp rfl .nil) (fun w' hk => ?_); exact ⟨ret_bool (by simp [tB_eq, hc10, hM0]), hk.toBelow⟩)
  have hok : putC L true = 0 := by unfold putC; rw [if_neg h06]; rfl
  have hc0 : r.c = 0 := by rw [hc, hok]
  have hMp : r.M = Page.page 3 (nodeB L) := by rw [hrM]; unfold putM; rw [if_pos hok]; rfl
  have hBM : IsB r.M := by rw [hrM]; exact putM_isB
  have hnc : ncode r.M = 0 := by rw [hMp]; exact ncode_nodeB (by omega) hbd (by omega) (by omega) hr14.2 (by intro h; omega)
  have hgs : Page.getS r.M = (3, nodeB L, 0) := by rw [hMp]; exact Page.getS_page (by omega) (by omega) (by rw [nodeB_len]; omega)
  (repeat' (first | (first | refine g_nil ?_ | refine g_pure true hT rfl rfl rfl sI ?_ | refine g_skip rfl rfl ?_ | refine g_skip0 rfl rfl ?_ | refine gk_region rfl ?_ | refine gk_cond_t rfl rfl ?_ | refine gk_cond_f rfl rfl ?_ | refine g_yd rfl rfl (yd_load_blk hT rfl rfl mE rfl rfl) ?_ | refine g_yd rfl rfl (yd_load_row hT rfl rfl mE rfl rfl) ?_ | refine g_yd rfl rfl (yd_load_row0 hT rfl rfl mE rfl rfl) ?_ | refine g_yd rfl rfl (yd_eql rfl rfl rfl rfl rfl (by kernel_rfl)) ?_ | refine g_yd rfl rfl (yd_neq rfl rfl rfl rfl rfl (by kernel_rfl)) ?_ | refine g_yd rfl rfl (yd_index hT rfl rfl rfl sI rfl) ?_ | refine g_yd rfl rfl (yd_slice_nil hT rfl rfl rfl rfl) ?_ | refine g_yd rfl rfl (yd_build_arr hT rfl rfl rfl rfl rfl rfl) ?_ | (refine g_mv rfl ?_; first | (refine mv_box rfl rfl rfl rfl ?_; intro _) | (refine mv_alloc rfl hT rfl rfl ?_; intro _) | refine mv_store hT rfl rfl rfl rfl rfl rfl sO rfl ?_ | (refine mv_buildSlice rfl hT rfl rfl rfl rfl rfl rfl rfl rfl ?_; intro _)) | refine g_yd rfl rfl (Ys.yd (ys_str_eql hT rfl rfl rfl rfl)) ?_ | refine g_yd rfl rfl (Ys.yd (ys_str_neq hT rfl rfl rfl rfl)) ?_) | ((first | refine g_split rfl rfl tE (fun _ => ?_) (fun _ => ?_) | refine gk_cond rfl rfl tE (fun _ => ?_) (fun _ => ?_)) <;> (try first | (exfalso; omega; done) | (rename_i hx; exact absurd rfl hx) | (rename_i hx; cases hx; done)))))
  refine g_mv rfl ?_; refine mv_call_rt (fun w hk => nget_any r.s.A r.s.n r.s.c r.M w hr.ok (hk.pO (sl r.s.A 1 (IE .u8) r.M) mE) hBM) rfl rfl rfl rfl rfl (by kernel_rfl) (fun _ => rfl) (fun q hq => ?_)
  have hq1 : q.1.M = L := by rw [hq.M, if_pos hnc, hgs]; show decN (nodeB L) (nB (nodeB L)) = L; rw [nB_nodeB (by omega), decN_nodeB hbd]
  have hq2 : q.2.1 = true := by rw [hq.leaf, if_pos hnc, hgs]; exact tB_true rfl
  have hq3 : q.2.2 = 0 := by rw [hq.code, hnc]
  have hq9 : q.1.s.n ≤ 9223372036854775807 := by
    have h1 := hq.ok.c
    have h2 := hq.ok.mx
    unfold maxLen at h2; omega
  (repeat' (first | (first | refine g_nil ?_ | refine g_pure true hT rfl rfl rfl sI ?_ | refine g_skip rfl rfl ?_ | refine g_skip0 rfl rfl ?_ | refine gk_region rfl ?_ | refine gk_cond_t rfl rfl ?_ | refine gk_cond_f rfl rfl ?_ | refine g_yd rfl rfl (yd_load_blk hT rfl rfl mE rfl rfl) ?_ | refine g_yd rfl rfl (yd_load_row hT rfl rfl mE rfl rfl) ?_ | refine g_yd rfl rfl (yd_load_row0 hT rfl rfl mE rfl rfl) ?_ | refine g_yd rfl rfl (yd_eql rfl rfl rfl rfl rfl (by kernel_rfl)) ?_ | refine g_yd rfl rfl (yd_neq rfl rfl rfl rfl rfl (by kernel_rfl)) ?_ | refine g_yd rfl rfl (yd_index hT rfl rfl rfl sI rfl) ?_ | refine g_yd rfl rfl (yd_slice_nil hT rfl rfl rfl rfl) ?_ | refine g_yd rfl rfl (yd_build_arr hT rfl rfl rfl rfl rfl rfl) ?_ | (refine g_mv rfl ?_; first | (refine mv_box rfl rfl rfl rfl ?_; intro _) | (refine mv_alloc rfl hT rfl rfl ?_; intro _) | refine mv_store hT rfl rfl rfl rfl rfl rfl sO rfl ?_ | (refine mv_buildSlice rfl hT rfl rfl rfl rfl rfl rfl rfl rfl ?_; intro _)) | refine g_yd rfl rfl (Ys.yd (ys_str_eql hT rfl rfl rfl rfl)) ?_ | refine g_yd rfl rfl (Ys.yd (ys_str_neq hT rfl rfl rfl rfl)) ?_) | ((first | refine g_split rfl rfl tE (fun _ => ?_) (fun _ => ?_) | refine gk_cond rfl rfl tE (fun _ => ?_) (fun _ => ?_)) <;> (try first | (exfalso; omega; done) | (rename_i hx; exact absurd rfl hx) | (rename_i hx; cases hx; done)))))
  refine g_mv rfl ?_; refine mv_call_rt (fun w hk => rnput_any A n c L true w hn (by omega) (by omega) hbd (hk.pR (sl A 4 EE L) mE)) rfl rfl rfl rfl rfl (by kernel_rfl) (fun _ => rfl) (fun u hu => ?_)
  (repeat' (first | (first | refine g_nil ?_ | refine g_pure true hT rfl rfl rfl sI ?_ | refine g_skip rfl rfl ?_ | refine g_skip0 rfl rfl ?_ | refine gk_region rfl ?_ | refine gk_cond_t rfl rfl ?_ | refine gk_cond_f rfl rfl ?_ | refine g_yd rfl rfl (yd_load_blk hT rfl rfl mE rfl rfl) ?_ | refine g_yd rfl rfl (yd_load_row hT rfl rfl mE rfl rfl) ?_ | refine g_yd rfl rfl (yd_load_row0 hT rfl rfl mE rfl rfl) ?_ | refine g_yd rfl rfl (yd_eql rfl rfl rfl rfl rfl (by kernel_rfl)) ?_ | refine g_yd rfl rfl (yd_neq rfl rfl rfl rfl rfl (by kernel_rfl)) ?_ | refine g_yd rfl rfl (yd_index hT rfl rfl rfl sI rfl) ?_ | refine g_yd rfl rfl (yd_slice_nil hT rfl rfl rfl rfl) ?_ | refine g_yd rfl rfl (yd_build_arr hT rfl rfl rfl rfl rfl rfl) ?_ | (refine g_mv rfl ?_; first | (refine mv_box rfl rfl rfl rfl ?_; intro _) | (refine mv_alloc rfl hT rfl rfl ?_; intro _) | refine mv_store hT rfl rfl rfl rfl rfl rfl sO rfl ?_ | (refine mv_buildSlice rfl hT rfl rfl rfl rfl rfl rfl rfl rfl ?_; intro _)) | refine g_yd rfl rfl (Ys.yd (ys_str_eql hT rfl rfl rfl rfl)) ?_ | refine g_yd rfl rfl (Ys.yd (ys_str_neq hT rfl rfl rfl rfl)) ?_) | (refine g_mv rfl ?_; first | refine mv_call_bel (fun w hk => calls_b (tB_true hMp) (Beq.bequal_any r.s.A u.A r.s.n r.s.c u.n u.c r.M (Page.page 3 (nodeB L)) w hr.ok.n hu.n (hk.pO (sl r.s.A 1 (IE .u8) r.M) mE) (hk.pO (sl u.A 1 (IE .u8) (Page.page 3 (nodeB L))) mE) hBM (hMp ▸ hBM))) rfl rfl rfl rfl rfl (by kernel_rfl) ?_ | refine mv_call_bel (fun w hk => calls_b (tB_true hq1) (equal_En q.1.s.A A q.1.s.n q.1.s.c n c q.1.M L w hq.ok.n hn hq9 (hk.pO (sl q.1.s.A 4 EE q.1.M) mE) (hk.pR (sl A 4 EE L) mE))) rfl rfl rfl rfl rfl (by kernel_rfl) ?_ | refine mv_call_bel (fun w hk => nalive_any w) rfl rfl rfl rfl rfl (by kernel_rfl) ?_) | ((first | refine g_split rfl rfl tE (fun _ => ?_) (fun _ => ?_) | refine gk_cond rfl rfl tE (fun _ => ?_) (fun _ => ?_)) <;> (try first | (exfalso; omega; done) | (rename_i hx; exact absurd rfl hx) | (rename_i hx; cases hx; done)))))
  all_goals first
    | (rename_i hx; exact absurd hq2 hx)
    | (refine gk_ret hT rfl rfl (.tmp rfl .nil) (fun w' hk => ?_); exact ⟨ret_bool (by simp [tB_eq, hc0, hq2, hq3]), hk.toBelow⟩)
end Go.Proofs.Ytdjhocgfdbnkmaa.Nd
