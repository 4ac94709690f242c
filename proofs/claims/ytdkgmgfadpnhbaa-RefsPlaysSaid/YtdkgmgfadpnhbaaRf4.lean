/- refs.Same: with nil maps too. -/
import Derived.Test.YtdkgmgfadpnhbaaRf3
namespace Go.Proofs.Ytdkgmgfadpnhbaa.Rf
open Go.RowKit Mem Gx Gm KyU Dd
set_option linter.unusedVariables false
set_option linter.unusedSimpArgs false
set_option maxRecDepth 100000
set_option maxHeartbeats 1000000
theorem cnt_nil : MapIs ([] : List (Int × Value)) (cntV []) := by
  exact ⟨List.nodup_nil, fun k => by unfold cntV; rfl⟩
theorem meq_nn (w : World) :
    Calls Try.prog 88 [.map none, .map none].toArray w fun e w' => e = .returned (.bool true) ∧ Below w.heap.size w w' := by
  refine g_enter0 T [] [] [] Try.func88 rfl Try.ntmps88 rfl (Rds.nil).kn ?_
  (repeat' (first | (refine gG ?_; try intro _) | ((first | refine g_split rfl rfl tE (fun _ => ?_) (fun _ => ?_) | refine gk_cond rfl rfl tE (fun _ => ?_) (fun _ => ?_)) <;> (try first | (exfalso; omega; done) | (rename_i hx; exact absurd rfl hx) | (rename_i hx; cases hx; done)))))
  refine g_mv rfl (mv_rangeN rfl rfl rfl Try.underlying81 (fun it => ?_))
  (repeat (refine gG ?_; try intro _))
  refine gk_loop_sel (fun (q : Nat × Unit) => match q with | (Q, z) => True) (fun (q : Nat × Unit) => match q with | (Q, z) => [(1, .map none), (15, .pointer (some ⟨it, 0, none⟩))]) (fun (q : Nat × Unit) => match q with | (Q, z) => [itn it]) (fun (q : Nat × Unit) => match q with | (Q, z) => []) (fun (q : Nat × Unit) => match q with | (Q, z) => 1) (0, ()) rfl trivial (by repeat (first | exact trivial | refine ⟨rfl, ?_⟩)) sA sS ?_
  rintro ⟨Q, z⟩ hI
  replace hI : True := hI
  change GK _ _ [(1, .map none), (15, .pointer (some ⟨it, 0, none⟩))] [itn it] []
  (repeat (refine gG ?_; try intro _))
  refine g_mv rfl (mv_nextN rfl rfl rfl mE ?_)
  (repeat' (first | (refine gG ?_; try intro _) | ((first | refine g_split rfl rfl tE (fun _ => ?_) (fun _ => ?_) | refine gk_cond rfl rfl tE (fun _ => ?_) (fun _ => ?_)) <;> (try first | (exfalso; omega; done) | (rename_i hx; exact absurd rfl hx) | (rename_i hx; cases hx; done)))))
  refine gk_ret hT rfl rfl (.tmp rfl .nil) (fun w' hk => ?_)
  exact ⟨rfl, hk.toBelow⟩
theorem meq_ns (r2 : Nat) (M2 : List (Int × Value)) (w : World) (h2 : Rd1 w (mpk r2 (Value.int .u32) M2)) :
    Calls Try.prog 88 [.map none, .map (some r2)].toArray w fun e w' => e = .returned (.bool (tB (M2.length = 0))) ∧ Below w.heap.size w w' := by
  refine g_enter0 T [] [] [mpk r2 (Value.int .u32) M2] Try.func88 rfl Try.ntmps88 rfl (Rds.cons h2 .nil).kn ?_
  (repeat (refine gG ?_; try intro _))
  refine g_yd rfl rfl ((ys_map_len (S := [mpk r2 (Value.int .u32) M2]) rfl rfl rfl rfl Try.underlying81 (.head _)).ydS sF) ?_
  by_cases h0 : M2.length = 0
  · (repeat' (first | (refine gG ?_; try intro _) | ((first | refine g_split rfl rfl tE (fun _ => ?_) (fun _ => ?_) | refine gk_cond rfl rfl tE (fun _ => ?_) (fun _ => ?_)) <;> (try first | (exfalso; omega; done) | (rename_i hx; exact absurd rfl hx) | (rename_i hx; cases hx; done)))))
    refine g_mv rfl (mv_rangeN rfl rfl rfl Try.underlying81 (fun it => ?_))
    (repeat (refine gG ?_; try intro _))
    refine gk_loop_sel (fun (q : Nat × Unit) => match q with | (Q, z) => True) (fun (q : Nat × Unit) => match q with | (Q, z) => [(1, .map (some r2)), (15, .pointer (some ⟨it, 0, none⟩))]) (fun (q : Nat × Unit) => match q with | (Q, z) => [itn it]) (fun (q : Nat × Unit) => match q with | (Q, z) => [mpk r2 (Value.int .u32) M2]) (fun (q : Nat × Unit) => match q with | (Q, z) => 1) (0, ()) rfl trivial (by repeat (first | exact trivial | refine ⟨rfl, ?_⟩)) sA sS ?_
    rintro ⟨Q, z⟩ hI
    replace hI : True := hI
    change GK _ _ [(1, .map (some r2)), (15, .pointer (some ⟨it, 0, none⟩))] [itn it] [mpk r2 (Value.int .u32) M2]
    (repeat (refine gG ?_; try intro _))
    refine g_mv rfl (mv_nextN rfl rfl rfl mE ?_)
    (repeat' (first | (refine gG ?_; try intro _) | ((first | refine g_split rfl rfl tE (fun _ => ?_) (fun _ => ?_) | refine gk_cond rfl rfl tE (fun _ => ?_) (fun _ => ?_)) <;> (try first | (exfalso; omega; done) | (rename_i hx; exact absurd rfl hx) | (rename_i hx; cases hx; done)))))
    refine gk_ret hT rfl rfl (.tmp rfl .nil) (fun w' hk => ?_)
    exact ⟨by rw [tB_true h0]; rfl, hk.toBelow⟩
  · (repeat' (first | (refine gG ?_; try intro _) | ((first | refine g_split rfl rfl tE (fun _ => ?_) (fun _ => ?_) | refine gk_cond rfl rfl tE (fun _ => ?_) (fun _ => ?_)) <;> (try first | (exfalso; omega; done) | (rename_i hx; exact absurd rfl hx) | (rename_i hx; cases hx; done)))))
    refine gk_ret hT rfl rfl (.tmp rfl .nil) (fun w' hk => ?_)
    exact ⟨by rw [tB_false h0]; rfl, hk.toBelow⟩
theorem meq_sn (r1 : Nat) (M1 : List (Int × Value)) (w : World) (h1 : Rd1 w (mpk r1 (Value.int .u32) M1)) :
    Calls Try.prog 88 [.map (some r1), .map none].toArray w fun e w' => e = .returned (.bool (tB (M1.length = 0))) ∧ Below w.heap.size w w' := by
  obtain ⟨B, ck, h3⟩ := h1.mpc
  refine g_enter0 T [] [] [mpk r1 (Value.int .u32) M1, mpc r1 (Value.int .u32) M1 B ck] Try.func88 rfl Try.ntmps88 rfl (Rds.cons h1 (.cons h3 .nil)).kn ?_
  (repeat (refine gG ?_; try intro _))
  refine g_yd rfl rfl ((ys_map_len (S := [mpk r1 (Value.int .u32) M1]) rfl rfl rfl rfl Try.underlying81 (.head _)).ydS sF) ?_
  by_cases h0 : M1.length = 0
  · (repeat' (first | (refine gG ?_; try intro _) | ((first | refine g_split rfl rfl tE (fun _ => ?_) (fun _ => ?_) | refine gk_cond rfl rfl tE (fun _ => ?_) (fun _ => ?_)) <;> (try first | (exfalso; omega; done) | (rename_i hx; exact absurd rfl hx) | (rename_i hx; cases hx; done)))))
    refine g_mv rfl (mv_rangeR rfl rfl rfl Try.underlying81 mE (fun it => ?_))
    (repeat (refine gG ?_; try intro _))
    refine gk_loop_sel (fun (q : (List Nat) × Unit) => match q with | (Q, z) => True) (fun (q : (List Nat) × Unit) => match q with | (Q, z) => [(1, .map none), (15, .pointer (some ⟨it, 0, none⟩))]) (fun (q : (List Nat) × Unit) => match q with | (Q, z) => [itr it r1 B ck Q]) (fun (q : (List Nat) × Unit) => match q with | (Q, z) => [mpc r1 (Value.int .u32) M1 B ck]) (fun (q : (List Nat) × Unit) => match q with | (Q, z) => leftN M1.length Q) ([], ()) rfl trivial (by repeat (first | exact trivial | refine ⟨rfl, ?_⟩)) sA sS ?_
    rintro ⟨Q, z⟩ hI
    replace hI : True := hI
    change GK _ _ [(1, .map none), (15, .pointer (some ⟨it, 0, none⟩))] [itr it r1 B ck Q] [mpc r1 (Value.int .u32) M1 B ck]
    (repeat (refine gG ?_; try intro _))
    refine g_mv rfl (mv_nextR rfl rfl rfl mE (by intro _; first | ((repeat (first | with_reducible exact Upd.here _ | with_reducible apply Upd.there)); done) | ((repeat (first | exact Upd.here _ | apply Upd.there)); done) | fail) (fun hall => ?_) (fun i k v hi hq => ?_))
    · (repeat' (first | (refine gG ?_; try intro _) | ((first | refine g_split rfl rfl tE (fun _ => ?_) (fun _ => ?_) | refine gk_cond rfl rfl tE (fun _ => ?_) (fun _ => ?_)) <;> (try first | (exfalso; omega; done) | (rename_i hx; exact absurd rfl hx) | (rename_i hx; cases hx; done)))))
      refine gk_ret hT rfl rfl (.tmp rfl .nil) (fun w' hk => ?_)
      exact ⟨by rw [tB_true h0]; rfl, hk.toBelow⟩
    · exact absurd (List.getElem?_eq_some_iff.1 hi).1 (by omega)
  · (repeat' (first | (refine gG ?_; try intro _) | ((first | refine g_split rfl rfl tE (fun _ => ?_) (fun _ => ?_) | refine gk_cond rfl rfl tE (fun _ => ?_) (fun _ => ?_)) <;> (try first | (exfalso; omega; done) | (rename_i hx; exact absurd rfl hx) | (rename_i hx; cases hx; done)))))
    refine gk_ret hT rfl rfl (.tmp rfl .nil) (fun w' hk => ?_)
    exact ⟨by rw [tB_false h0]; rfl, hk.toBelow⟩
end Go.Proofs.Ytdkgmgfadpnhbaa.Rf

