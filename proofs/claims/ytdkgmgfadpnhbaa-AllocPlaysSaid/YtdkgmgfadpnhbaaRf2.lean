/- refs.Table: Len, Sum, All. -/
import Derived.Test.YtdkgmgfadpnhbaaRf1
import Derived.Test.YtdkgmgfadpnhbaaExP
namespace Go.Proofs.Ytdkgmgfadpnhbaa.Rf
open Go.RowKit Mem Gx Gm KyU Dd
set_option linter.unusedVariables false
set_option linter.unusedSimpArgs false
set_option maxRecDepth 100000
set_option maxHeartbeats 1000000
/-- The blocks of a row, rising, each once. -/
def setP (l : List Int) : List Int := dd (Ex.srt l)
theorem setP_rise (l : List Int) : (setP l).Pairwise (fun x y => x < y) := (Ex.ddN_rise (Ex.srt_rise l) (Ex.srt l).length (Nat.le_refl _)).1
theorem mem_setP {l : List Int} {x : Int} : x ∈ setP l ↔ x ∈ l := by
  unfold setP
  rw [mem_dd]
  exact (List.mergeSort_perm _ _).mem_iff
theorem nodup_of_rise {l : List Int} (h : l.Pairwise (fun x y => x < y)) : l.Nodup := h.imp fun h => by omega
theorem RfI.keys {T : TabS} {l : List Int} (h : RfI T l) : (T.M.map (·.1)).Perm (setP l) := (List.perm_ext_iff_of_nodup h.map.nodup (nodup_of_rise (setP_rise l))).2 fun k => by
  rw [mem_setP]
  have h1 := h.map.get k
  have h2 := @mg_mem _ _ k T.M
  rw [h1] at h2
  unfold cntV at h2
  by_cases hk : l.count k = 0
  · rw [if_pos hk] at h2
    exact ⟨fun hm => absurd hm (h2.1 rfl), fun hm => absurd (List.count_pos_iff.2 hm) (by omega)⟩
  · rw [if_neg hk] at h2
    refine ⟨fun _ => List.count_pos_iff.1 (by omega), fun _ => Classical.byContradiction fun hn => ?_⟩
    have := h2.2 hn
    cases this
theorem sorted_set {l S : List Int} (hp : S.Perm (setP l)) (hs : Pq.SortedIn (fun x y : Int => x < y) 0 S.length S) : S = setP l := by
  refine List.Perm.eq_of_pairwise (le := fun x y : Int => x ≤ y) (fun a b _ _ h1 h2 => by omega) ?_ ((setP_rise l).imp fun h => by omega) hp
  rw [List.pairwise_iff_getElem]
  intro i j hi hj hij
  have := hs i j _ _ (Nat.zero_le _) hij hj (List.getElem?_eq_getElem hi) (List.getElem?_eq_getElem hj)
  exact Int.not_lt.1 this
theorem setP_len (l : List Int) : (setP l).length ≤ l.length := by
  unfold setP
  have := (ddN_len (L := Ex.srt l) (k := (Ex.srt l).length))
  rw [Ex.srt_len] at this
  have e : dd (Ex.srt l) = ddN (Ex.srt l) (Ex.srt l).length := rfl
  rw [e, Ex.srt_len]
  exact this
theorem sum_any (t : Nat) (T : TabS) (l : List Int) (w : World) (hI : RfI T l) (h : Rd1 w (tbF t T)) :
    Calls Try.prog 86 [.pointer (some ⟨t, 0, none⟩)].toArray w fun e w' => e = .returned (.int .i64 (l.length : Int)) ∧ Below w.heap.size w w' := by
  have hs := hI.sum
  obtain ⟨r, M, s⟩ := T
  have hsv : s = (l.length : Int) := hs
  subst hsv
  have hB : Rd1 w (blk t [.map r, .int .i64 (l.length : Int)] 83) := by
    cases r with
    | none => exact Rd1.unpack h (.head _)
    | some r => exact Rd1.unpack h (.head _)
  refine g_enter0 T [] [] [blk t [.map r, .int .i64 (l.length : Int)] 83] Try.func86 rfl Try.ntmps86 rfl (Rds.cons hB .nil).kn ?_
  refine gk_rowR (g := t) mE ?_
  (repeat (refine gG ?_; try intro _))
  refine gk_ret hT rfl rfl (.tmp rfl .nil) (fun w' hk => ?_)
  exact ⟨rfl, hk.toBelow⟩
theorem len_any (t : Nat) (T : TabS) (l : List Int) (w : World) (hI : RfI T l) (h : Rd1 w (tbF t T)) :
    Calls Try.prog 85 [.pointer (some ⟨t, 0, none⟩)].toArray w fun e w' => e = .returned (.int .i64 ((setP l).length : Int)) ∧ Below w.heap.size w w' := by
  have hk1 := hI.keys.length_eq
  rw [List.length_map] at hk1
  rw [← hk1]
  obtain ⟨r, M, s⟩ := T
  cases r with
  | none =>
    have hB := Rd1.unpack h (φ := blk t [.map none, .int .i64 s] 83) (.head _)
    have hM0 : M.length = 0 := by
      have h2 := setP_len l
      rw [hI.nil rfl] at hk1 h2
      simp at h2
      rw [h2] at hk1
      exact hk1
    refine g_enter0 T [] [] [blk t [.map none, .int .i64 s] 83] Try.func85 rfl Try.ntmps85 rfl (Rds.cons hB .nil).kn ?_
    refine gk_rowR (g := t) mE ?_
    (repeat (refine gG ?_; try intro _))
    refine gk_ret hT rfl rfl (.tmp rfl .nil) (fun w' hk => ?_)
    refine ⟨?_, hk.toBelow⟩
    show Ending.returned (.int .i64 0) = .returned (.int .i64 (M.length : Int))
    rw [hM0]
    rfl
  | some r =>
    have hB := Rd1.unpack h (φ := blk t [.map (some r), .int .i64 s] 83) (.head _)
    have hM := Rd1.unpack h (φ := mpk r (Value.int .u32) M) (.tail _ (.head _))
    refine g_enter0 T [] [] [blk t [.map (some r), .int .i64 s] 83, mpk r (Value.int .u32) M] Try.func85 rfl Try.ntmps85 rfl (Rds.cons hB (.cons hM .nil)).kn ?_
    refine gk_rowR (g := t) mE ?_
    (repeat (refine gG ?_; try intro _))
    refine g_yd rfl rfl ((ys_map_len (S := [mpk r (Value.int .u32) M]) rfl rfl rfl rfl Try.underlying81 (.head _)).ydS sF) ?_
    (repeat (refine gG ?_; try intro _))
    refine gk_ret hT rfl rfl (.tmp rfl .nil) (fun w' hk => ?_)
    exact ⟨rfl, hk.toBelow⟩
theorem all_any (t : Nat) (T : TabS) (l : List Int) (w : World) (hI : RfI T l) (h : Rd1 w (tbF t T)) :
    Calls Try.prog 87 [.pointer (some ⟨t, 0, none⟩)].toArray w (Ret (fun _ : Value => True) (fun v => v) (fun v => [own 0 87 1 v (IE .u32) (setP l)]) w) := by
  have hky := hI.keys
  have hkl : T.M.length ≤ 1000 := by
    have h1 := hky.length_eq
    rw [List.length_map] at h1
    have h2 := setP_len l
    have := hI.len
    omega
  have hgl : ∀ {M : List (Int × Value)} (q : LbK M), M.length ≤ 1000 → q.1.2.length ≤ 1000 := fun {M} q hM => by
    have h1 := q.2.pm.length_eq
    have h2 : q.1.1.length ≤ M.length := by
      have h3 : q.1.1.Perm ((List.range M.length).filter fun i => decide (i ∈ q.1.1)) := (List.perm_ext_iff_of_nodup q.2.nd (List.nodup_range.filter _)).2 fun i => by
        rw [List.mem_filter, List.mem_range, decide_eq_true_eq]
        exact ⟨fun h => ⟨q.2.lt i h, h⟩, fun h => h.2⟩
      rw [h3.length_eq]
      exact Nat.le_trans (List.length_filter_le _ _) (by simp)
    have h3 := List.length_filterMap_le (fun i => (M[i]?).map (·.1)) q.1.1
    omega
  obtain ⟨r, M, s⟩ := T
  cases r with
  | none =>
    have hM : M = [] := by
      have h1 := hky.length_eq
      have h2 := setP_len l
      rw [hI.nil rfl] at h1 h2
      rw [List.length_map] at h1
      simp at h2
      rw [h2] at h1
      exact List.length_eq_zero_iff.1 h1
    subst hM
    have hset : setP l = [] := by
      have := hky.length_eq
      exact List.length_eq_zero_iff.1 (by simpa using this.symm)
    have hB := Rd1.unpack h (φ := blk t [.map none, .int .i64 s] 83) (.head _)
    refine g_enter0 T [] [] [blk t [.map none, .int .i64 s] 83] Try.func87 rfl Try.ntmps87 rfl (Rds.cons hB .nil).kn ?_
    refine gk_rowR (g := t) mE ?_
    (repeat (refine gG ?_; try intro _))
    refine g_mv rfl ?_; refine mv_call_rt (fun w hk => keys_any (.map none) ⟨_, rfl⟩ w) rfl rfl rfl rfl rfl (by kernel_rfl) (fun _ => rfl) (fun bt _ => ?_)
    refine g_share (φ := blk bt [.map none] 81) (by repeat (first | with_reducible exact Sel.here | with_reducible apply Sel.there)) ?_
    refine g_mv rfl ?_; refine mv_call_rt (fun w hk => by exact sorted_any 176 [.pointer (some ⟨bt, 0, none⟩)] (StK []) ⟨([], []), good_nil []⟩ (FinK []) (fun q => q.1.2) [blk bt [.map none] 81] w (by kernel_rfl) (KyU.Kn.rds hk (by intro φ hφ; obtain rfl := List.mem_singleton.1 hφ; exact mE)) (fun w' hB => keys_iter_nil bt w' hB) rfl (fun q x q' ⟨_, _, _, _, h⟩ => by rw [h]) (fun q x q' _ => Nat.le_trans (hgl q (by simp)) (by decide)) (fun q _ => Nat.le_trans (hgl q (by simp)) (by decide))) rfl rfl rfl rfl rfl (by kernel_rfl) (fun _ => rfl) (fun r hr => ?_)
    obtain ⟨v, S⟩ := r
    obtain ⟨⟨q, hq1, hq2⟩, hso⟩ := hr
    dsimp only at hq2 hso ⊢
    have hp := hq2.trans (q.2.fin hq1)
    have hS : S = setP l := sorted_set (hp.trans hky) hso
    rw [hS]
    (repeat (refine gG ?_; try intro _))
    refine gk_ret hT rfl rfl (.tmp rfl .nil) (fun w' hk => ?_)
    exact Ret.mk v trivial rfl hk sA
  | some r =>
    have hB := Rd1.unpack h (φ := blk t [.map (some r), .int .i64 s] 83) (.head _)
    obtain ⟨B, ck, hM⟩ := (Rd1.unpack h (φ := mpk r (Value.int .u32) M) (.tail _ (.head _))).mpc
    refine g_enter0 T [] [] [blk t [.map (some r), .int .i64 s] 83, mpc r (Value.int .u32) M B ck] Try.func87 rfl Try.ntmps87 rfl (Rds.cons hB (.cons hM .nil)).kn ?_
    refine gk_rowR (g := t) mE ?_
    (repeat (refine gG ?_; try intro _))
    refine g_mv rfl ?_; refine mv_call_rt (fun w hk => keys_any (.map (some r)) ⟨_, rfl⟩ w) rfl rfl rfl rfl rfl (by kernel_rfl) (fun _ => rfl) (fun bt _ => ?_)
    refine g_share (φ := blk bt [.map (some r)] 81) (by repeat (first | with_reducible exact Sel.here | with_reducible apply Sel.there)) ?_
    refine g_mv rfl ?_; refine mv_call_rt (fun w hk => by exact sorted_any 176 [.pointer (some ⟨bt, 0, none⟩)] (StK M) ⟨([], []), good_nil M⟩ (FinK M) (fun q => q.1.2) [blk bt [.map (some r)] 81, mpc r (Value.int .u32) M B ck] w (by kernel_rfl) (KyU.Kn.rds hk (by intro φ hφ; rcases List.mem_cons.1 hφ with rfl | hφ; exact mE; obtain rfl := List.mem_singleton.1 hφ; exact mE)) (fun w' hB => keys_iter M B ck r bt w' hB) rfl (fun q x q' ⟨_, _, _, _, h⟩ => by rw [h]) (fun q x q' _ => Nat.le_trans (hgl q hkl) (by decide)) (fun q _ => Nat.le_trans (hgl q hkl) (by decide))) rfl rfl rfl rfl rfl (by kernel_rfl) (fun _ => rfl) (fun r hr => ?_)
    obtain ⟨v, S⟩ := r
    obtain ⟨⟨q, hq1, hq2⟩, hso⟩ := hr
    dsimp only at hq2 hso ⊢
    have hp := hq2.trans (q.2.fin hq1)
    have hS : S = setP l := sorted_set (hp.trans hky) hso
    rw [hS]
    (repeat (refine gG ?_; try intro _))
    refine gk_ret hT rfl rfl (.tmp rfl .nil) (fun w' hk => ?_)
    exact Ret.mk v trivial rfl hk sA
end Go.Proofs.Ytdkgmgfadpnhbaa.Rf

