/- refs.Same, Parted. -/
import Derived.Test.YtdkgmgfadpnhbaaRf2
namespace Go.Proofs.Ytdkgmgfadpnhbaa.Rf
open Go.RowKit Mem Gx Gm KyU Dd
set_option linter.unusedVariables false
set_option linter.unusedSimpArgs false
set_option maxRecDepth 100000
set_option maxHeartbeats 1000000
theorem cntV_inj {l l' : List Int} {k : Int} (h : cntV l k = cntV l' k) : l.count k = l'.count k := by
  unfold cntV at h
  split at h <;> split at h
  · omega
  · cases h
  · cases h
  · injection h with h; injection h with h; omega
/-- Rows that count the same. -/
def SameP (l l' : List Int) : Prop := ∀ k, l.count k = l'.count k
theorem same_of {M M' : List (Int × Value)} {l l' : List Int} (h : MapIs M (cntV l)) (h' : MapIs M' (cntV l')) (hlen : M.length = M'.length) (hall : ∀ k v, (k, v) ∈ M → mg k M' = some v) : SameP l l' := by
  have hsub : M.map (·.1) ⊆ M'.map (·.1) := fun k hk => by
    obtain ⟨⟨k', v⟩, hm, rfl⟩ := List.mem_map.1 hk
    have h1 := hall k' v hm
    exact Classical.byContradiction fun hn => by
      rw [mg_mem.2 hn] at h1
      cases h1
  have hperm : (M.map (·.1)).Perm ((M'.map (·.1)).filter fun k => decide (k ∈ M.map (·.1))) := (List.perm_ext_iff_of_nodup h.nodup (h'.nodup.filter _)).2 fun k => by
    rw [List.mem_filter, decide_eq_true_eq]
    exact ⟨fun hk => ⟨hsub hk, hk⟩, fun hk => hk.2⟩
  have hfull : ∀ k, k ∈ M'.map (·.1) → k ∈ M.map (·.1) := fun k hk => by
    have h1 := hperm.length_eq
    have h2 : ((M'.map (·.1)).filter fun k => decide (k ∈ M.map (·.1))) = M'.map (·.1) := List.filter_eq_self.2 fun a ha => Classical.byContradiction fun hn => by
      have h3 : ((M'.map (·.1)).filter fun k => decide (k ∈ M.map (·.1))).length < (M'.map (·.1)).length := List.length_filter_lt_length_iff_exists.2 ⟨a, ha, by simpa using hn⟩
      rw [List.length_map] at h1 h3
      omega
    have h4 : k ∈ ((M'.map (·.1)).filter fun k => decide (k ∈ M.map (·.1))) := by rw [h2]; exact hk
    have := (List.mem_filter.1 h4).2
    simpa using this
  intro k
  refine cntV_inj ?_
  rw [← h.get k, ← h'.get k]
  cases hm : mg k M with
  | none =>
    cases hm' : mg k M' with
    | none => rfl
    | some v =>
      have hn : k ∉ M.map (·.1) := mg_mem.1 hm
      refine absurd (hfull k (Classical.byContradiction fun hn' => ?_)) hn
      rw [mg_mem.2 hn'] at hm'
      cases hm'
  | some v => rw [hall k v ((mg_in h.nodup).1 hm)]
theorem same_len {M M' : List (Int × Value)} {l l' : List Int} (h : MapIs M (cntV l)) (h' : MapIs M' (cntV l')) (hs : SameP l l') : M.length = M'.length := by
  have h1 : (M.map (·.1)).Perm (M'.map (·.1)) := (List.perm_ext_iff_of_nodup h.nodup h'.nodup).2 fun k => by
    have a1 := @mg_mem _ _ k M
    have a2 := @mg_mem _ _ k M'
    rw [h.get k] at a1
    rw [h'.get k] at a2
    have e : cntV l k = cntV l' k := by unfold cntV; rw [hs k]
    rw [e] at a1
    exact ⟨fun hk => Classical.byContradiction fun hn => absurd hk (a1.1 (a2.2 hn)), fun hk => Classical.byContradiction fun hn => absurd hk (a2.1 (a1.2 hn))⟩
  have := h1.length_eq
  rwa [List.length_map, List.length_map] at this
theorem mg_cnt {M : List (Int × Value)} {l : List Int} (h : MapIs M (cntV l)) {k : Int} {v : Value} (hv : (k, v) ∈ M) : v = .int .i64 (l.count k : Int) ∧ l.count k ≠ 0 := by
  have h1 := (mg_in h.nodup).2 hv
  rw [h.get k] at h1
  unfold cntV at h1
  split at h1
  · cases h1
  · injection h1 with h1
    exact ⟨h1.symm, by assumption⟩
theorem meq_ss (r1 r2 : Nat) (M1 M2 : List (Int × Value)) (l1 l2 : List Int) (w : World) (i1 : MapIs M1 (cntV l1)) (i2 : MapIs M2 (cntV l2)) (h1 : Rd1 w (mpk r1 (Value.int .u32) M1)) (h2 : Rd1 w (mpk r2 (Value.int .u32) M2)) :
    Calls Try.prog 88 [.map (some r1), .map (some r2)].toArray w fun e w' => e = .returned (.bool (tB (SameP l1 l2))) ∧ Below w.heap.size w w' := by
  obtain ⟨B, ck, h3⟩ := h1.mpc
  refine g_enter0 T [] [] [mpk r1 (Value.int .u32) M1, mpc r1 (Value.int .u32) M1 B ck, mpk r2 (Value.int .u32) M2] Try.func88 rfl Try.ntmps88 rfl (Rds.cons h1 (.cons h3 (.cons h2 .nil))).kn ?_
  (repeat (refine gG ?_; try intro _))
  refine g_yd rfl rfl ((ys_map_len (S := [mpk r1 (Value.int .u32) M1]) rfl rfl rfl rfl Try.underlying81 (.head _)).ydS sF) ?_
  (repeat (refine gG ?_; try intro _))
  refine g_yd rfl rfl ((ys_map_len (S := [mpk r2 (Value.int .u32) M2]) rfl rfl rfl rfl Try.underlying81 (.head _)).ydS sF) ?_
  by_cases hlen : M1.length = M2.length
  · (repeat' (first | (refine gG ?_; try intro _) | ((first | refine g_split rfl rfl tE (fun _ => ?_) (fun _ => ?_) | refine gk_cond rfl rfl tE (fun _ => ?_) (fun _ => ?_)) <;> (try first | (exfalso; omega; done) | (rename_i hx; exact absurd rfl hx) | (rename_i hx; cases hx; done)))))
    refine g_mv rfl (mv_rangeR rfl rfl rfl Try.underlying81 mE (fun it => ?_))
    (repeat (refine gG ?_; try intro _))
    refine gk_loop_sel (fun (q : (List Nat) × Unit) => match q with | (Q, z) => (∀ i k v, i ∈ Q → M1[i]? = some (k, v) → mg k M2 = some v)) (fun (q : (List Nat) × Unit) => match q with | (Q, z) => [(1, .map (some r2)), (15, .pointer (some ⟨it, 0, none⟩))]) (fun (q : (List Nat) × Unit) => match q with | (Q, z) => [itr it r1 B ck Q]) (fun (q : (List Nat) × Unit) => match q with | (Q, z) => [mpc r1 (Value.int .u32) M1 B ck, mpk r2 (Value.int .u32) M2]) (fun (q : (List Nat) × Unit) => match q with | (Q, z) => leftN M1.length Q) ([], ()) rfl (fun i k v h => by cases h) (by repeat (first | exact trivial | refine ⟨rfl, ?_⟩)) sA sS ?_
    rintro ⟨Q, z⟩ hI
    replace hI : (∀ i k v, i ∈ Q → M1[i]? = some (k, v) → mg k M2 = some v) := hI
    change GK _ _ [(1, .map (some r2)), (15, .pointer (some ⟨it, 0, none⟩))] [itr it r1 B ck Q] [mpc r1 (Value.int .u32) M1 B ck, mpk r2 (Value.int .u32) M2]
    (repeat (refine gG ?_; try intro _))
    refine g_mv rfl (mv_nextR rfl rfl rfl mE (by intro _; first | ((repeat (first | with_reducible exact Upd.here _ | with_reducible apply Upd.there)); done) | ((repeat (first | exact Upd.here _ | apply Upd.there)); done) | fail) (fun hall => ?_) (fun i k v hi hq => ?_))
    · have hyes : SameP l1 l2 := same_of i1 i2 hlen fun k v hm => by
        obtain ⟨i, hi⟩ := List.getElem?_of_mem hm
        exact hI i k v (hall i (List.getElem?_eq_some_iff.1 hi).1) hi
      (repeat' (first | (refine gG ?_; try intro _) | ((first | refine g_split rfl rfl tE (fun _ => ?_) (fun _ => ?_) | refine gk_cond rfl rfl tE (fun _ => ?_) (fun _ => ?_)) <;> (try first | (exfalso; omega; done) | (rename_i hx; exact absurd rfl hx) | (rename_i hx; cases hx; done)))))
      refine gk_ret hT rfl rfl (.tmp rfl .nil) (fun w' hk => ?_)
      exact ⟨by rw [tB_true hyes]; rfl, hk.toBelow⟩
    · obtain ⟨hv, hc⟩ := mg_cnt i1 (List.mem_of_getElem? hi)
      subst hv
      (repeat' (first | (refine gG ?_; try intro _) | ((first | refine g_split rfl rfl tE (fun _ => ?_) (fun _ => ?_) | refine gk_cond rfl rfl tE (fun _ => ?_) (fun _ => ?_)) <;> (try first | (exfalso; omega; done) | (rename_i hx; exact absurd rfl hx) | (rename_i hx; cases hx; done)))))
      refine g_mv rfl (mv_entryR rfl rfl rfl mE mE hi ?_)
      refine g_say 18 (.tuple #[.int .u32 k, .int .i64 (l1.count k : Int)]) rfl rfl ?_
      (repeat (refine gG ?_; try intro _))
      refine g_yd rfl rfl ((ys_lookupG (S := [mpk r2 (Value.int .u32) M2]) k rfl rfl rfl rfl Try.underlying81 kok_u zero_I (.head _)).ydS sF) ?_
      have hg : (lkG k M2 0).map (·.2) = cntV l2 k := i2.get k
      by_cases h0 : l2.count k = 0
      · have hno : ¬ SameP l1 l2 := fun h => hc ((h k).trans h0)
        have e1 : lkG k M2 0 = none := by
          unfold cntV at hg
          rw [if_pos h0] at hg
          cases hl : lkG k M2 0 with
          | none => rfl
          | some p => rw [hl] at hg; cases hg
        refine g_say 24 (.tuple #[.int .i64 0, .bool false]) rfl (by rw [e1]; rfl) ?_
        (repeat' (first | (refine gG ?_; try intro _) | ((first | refine g_split rfl rfl tE (fun _ => ?_) (fun _ => ?_) | refine gk_cond rfl rfl tE (fun _ => ?_) (fun _ => ?_)) <;> (try first | (exfalso; omega; done) | (rename_i hx; exact absurd rfl hx) | (rename_i hx; cases hx; done)))))
        refine gk_ret hT rfl rfl (.tmp rfl .nil) (fun w' hk => ?_)
        exact ⟨by rw [tB_false hno]; rfl, hk.toBelow⟩
      · have e1 : ∃ j, lkG k M2 0 = some (j, .int .i64 (l2.count k : Int)) := by
          unfold cntV at hg
          rw [if_neg h0] at hg
          cases hl : lkG k M2 0 with
          | none => rw [hl] at hg; cases hg
          | some p =>
            rw [hl] at hg
            obtain ⟨j, u⟩ := p
            injection hg with hg
            exact ⟨j, by rw [← hg]⟩
        obtain ⟨j, e1⟩ := e1
        refine g_say 24 (.tuple #[.int .i64 (l2.count k : Int), .bool true]) rfl (by rw [e1]; rfl) ?_
        have hlt := leftN_lt (List.getElem?_eq_some_iff.1 hi).1 hq
        by_cases he : l1.count k = l2.count k
        · (repeat' (first | (refine gG ?_; try intro _) | ((first | refine g_split rfl rfl tE (fun _ => ?_) (fun _ => ?_) | refine gk_cond rfl rfl tE (fun _ => ?_) (fun _ => ?_)) <;> (try first | (exfalso; omega; done) | (rename_i hx; exact absurd rfl hx) | (rename_i hx; cases hx; done)))))
          have hI2 : ∀ i' k' v', i' ∈ i :: Q → M1[i']? = some (k', v') → mg k' M2 = some v' := fun i' k' v' hi' hm => by
            rcases List.mem_cons.1 hi' with rfl | hi'
            · rw [hi] at hm
              injection hm with hm
              injection hm with q1 q2
              subst q1
              subst q2
              rw [i2.get]
              unfold cntV
              rw [if_neg h0, he]
            · exact hI i' k' v' hi' hm
          refine gk_again_sel rfl (i :: Q, ()) hI2 (by dsimp only; omega) (by repeat (first | exact trivial | refine ⟨rfl, ?_⟩)) sA sS
        · have hno : ¬ SameP l1 l2 := fun h => he (h k)
          (repeat' (first | (refine gG ?_; try intro _) | ((first | refine g_split rfl rfl tE (fun _ => ?_) (fun _ => ?_) | refine gk_cond rfl rfl tE (fun _ => ?_) (fun _ => ?_)) <;> (try first | (exfalso; omega; done) | (rename_i hx; exact absurd rfl hx) | (rename_i hx; cases hx; done)))))
          refine gk_ret hT rfl rfl (.tmp rfl .nil) (fun w' hk => ?_)
          exact ⟨by rw [tB_false hno]; rfl, hk.toBelow⟩
  · have hno : ¬ SameP l1 l2 := fun h => hlen (same_len i1 i2 h)
    (repeat' (first | (refine gG ?_; try intro _) | ((first | refine g_split rfl rfl tE (fun _ => ?_) (fun _ => ?_) | refine gk_cond rfl rfl tE (fun _ => ?_) (fun _ => ?_)) <;> (try first | (exfalso; omega; done) | (rename_i hx; exact absurd rfl hx) | (rename_i hx; cases hx; done)))))
    refine gk_ret hT rfl rfl (.tmp rfl .nil) (fun w' hk => ?_)
    exact ⟨by rw [tB_false hno]; rfl, hk.toBelow⟩
end Go.Proofs.Ytdkgmgfadpnhbaa.Rf

