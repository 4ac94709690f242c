/- op: alive; the law OpTells. -/
import Derived.Test.YtkdphoacniigjaaOpF
import Derived.Test.YtkdphoacniigjaaTab
namespace Go.Proofs.Ytkdphoacniigjaa.OpA
open Go.RowKit Mem Gx Sls Bytes
set_option linter.unusedVariables false
set_option linter.unusedSimpArgs false
set_option maxRecDepth 100000
set_option maxHeartbeats 4000000
/-- An operation of a kind alone. -/
def kindO (k : Int) : OpD := ⟨k, 0, 0, 0, 0, 0, ⟨none, 0, 0⟩, [], ⟨none, 0, 0⟩, []⟩
theorem kind_ok (k : Int) : (kindO k).Ok := ⟨⟨rfl, Nat.le_refl _, Nat.zero_le _, fun _ => rfl⟩, ⟨rfl, Nat.le_refl _, Nat.zero_le _, fun _ => rfl⟩⟩
theorem kind_in (k : Int) (w : World) : (kindO k).In w := ⟨Sl.nil, Sl.nil⟩
def B14 : List Int := [14, 0, 0, 0, 0, 0, 0, 0, 0, 0, 0, 0, 0, 0, 0, 0, 0]
theorem put14 (p : OpD) (hp : PlainAt (kindO 14) (looks (kindO 14).k) p) : putL p = B14 := by
  have hl : looks (kindO 14).k = [] := by unfold looks kindO; simp
  rw [hl] at hp
  obtain ⟨ek, ev, ei, eb, ec, ep, eD, eM, ok⟩ := hp
  simp only [List.not_mem_nil, if_false] at ev ei eb ec ep eD eM
  unfold putL headL
  rw [ek, ev, ei, eb, ec, ep, eD, eM]
  decide
theorem rr_kind {k : Int} (h : k = 14 ∨ k = 17) : rrightB (kindO k) = true := by
  rcases h with rfl | rfl <;> simp [rrightB, kindO, looks, tB_eq]
theorem alive_any (w : World) : Calls Try.prog 29 [].toArray w fun e w' => e = .returned (.bool true) ∧ Below w.heap.size w w' := by
  have c2 := fun w => calls_b (rr_kind (.inr rfl)) (oright_any (kindO 17) w (kind_ok 17) Sl.nil (Nat.zero_le _))
  refine g_enter0 T [] [] [] Try.func29 rfl Try.ntmps29 rfl (Kn.start _) ?_
  (repeat (first | refine g_nil ?_ | refine g_pure true hT rfl rfl rfl sI ?_ | refine g_skip rfl rfl ?_ | refine g_skip0 rfl rfl ?_ | refine gk_region rfl ?_ | refine gk_cond_t rfl rfl ?_ | refine gk_cond_f rfl rfl ?_ | refine g_yd rfl rfl (yd_load_blk hT rfl rfl mE rfl rfl) ?_ | refine g_yd rfl rfl (yd_load_row hT rfl rfl mE rfl rfl) ?_ | refine g_yd rfl rfl (yd_load_row0 hT rfl rfl mE rfl rfl) ?_ | refine g_yd rfl rfl (yd_eql rfl rfl rfl rfl rfl (by kernel_rfl)) ?_ | refine g_yd rfl rfl (yd_neq rfl rfl rfl rfl rfl (by kernel_rfl)) ?_ | refine g_yd rfl rfl (yd_index hT rfl rfl rfl sI rfl) ?_ | refine g_yd rfl rfl (yd_slice_nil hT rfl rfl rfl rfl) ?_ | refine g_yd rfl rfl (yd_build_arr hT rfl rfl rfl rfl rfl rfl) ?_ | (refine g_mv rfl ?_; first | (refine mv_box rfl rfl rfl rfl ?_; intro _) | (refine mv_alloc rfl hT rfl rfl ?_; intro _) | refine mv_store hT rfl rfl rfl rfl rfl rfl sO rfl ?_ | (refine mv_buildSlice rfl hT rfl rfl rfl rfl rfl rfl rfl rfl ?_; intro _)) | refine g_yd rfl rfl (Ys.yd (ys_str_eql hT rfl rfl rfl rfl)) ?_ | refine g_yd rfl rfl (Ys.yd (ys_str_neq hT rfl rfl rfl rfl)) ?_))
  refine g_mv rfl ?_; refine mv_call_rt (fun w hk => put_yes (kindO 14) w (kind_ok 14) (kind_in 14 w) (Nat.zero_le _) (Nat.zero_le _) ⟨Int.le_refl _, by decide⟩ ⟨by decide, by decide, rr_kind (.inl rfl)⟩ B14 put14) rfl rfl rfl rfl rfl (by kernel_rfl) (fun _ => rfl) (fun s hs => ?_)
  have hn : s.n = 17 := hs.n
  (repeat' (first | (first | refine g_nil ?_ | refine g_pure true hT rfl rfl rfl sI ?_ | refine g_skip rfl rfl ?_ | refine g_skip0 rfl rfl ?_ | refine gk_region rfl ?_ | refine gk_cond_t rfl rfl ?_ | refine gk_cond_f rfl rfl ?_ | refine g_yd rfl rfl (yd_load_blk hT rfl rfl mE rfl rfl) ?_ | refine g_yd rfl rfl (yd_load_row hT rfl rfl mE rfl rfl) ?_ | refine g_yd rfl rfl (yd_load_row0 hT rfl rfl mE rfl rfl) ?_ | refine g_yd rfl rfl (yd_eql rfl rfl rfl rfl rfl (by kernel_rfl)) ?_ | refine g_yd rfl rfl (yd_neq rfl rfl rfl rfl rfl (by kernel_rfl)) ?_ | refine g_yd rfl rfl (yd_index hT rfl rfl rfl sI rfl) ?_ | refine g_yd rfl rfl (yd_slice_nil hT rfl rfl rfl rfl) ?_ | refine g_yd rfl rfl (yd_build_arr hT rfl rfl rfl rfl rfl rfl) ?_ | (refine g_mv rfl ?_; first | (refine mv_box rfl rfl rfl rfl ?_; intro _) | (refine mv_alloc rfl hT rfl rfl ?_; intro _) | refine mv_store hT rfl rfl rfl rfl rfl rfl sO rfl ?_ | (refine mv_buildSlice rfl hT rfl rfl rfl rfl rfl rfl rfl rfl ?_; intro _)) | refine g_yd rfl rfl (Ys.yd (ys_str_eql hT rfl rfl rfl rfl)) ?_ | refine g_yd rfl rfl (Ys.yd (ys_str_neq hT rfl rfl rfl rfl)) ?_) | ((first | refine g_split rfl rfl tE (fun _ => ?_) (fun _ => ?_) | refine gk_cond rfl rfl tE (fun _ => ?_) (fun _ => ?_)) <;> (try first | (exfalso; omega; done) | (rename_i hx; exact absurd rfl hx) | (rename_i hx; cases hx; done)))))
  refine g_share (φ := sl s.A 1 (IE .u8) B14) (by repeat (first | with_reducible exact Sel.here | with_reducible apply Sel.there)) ?_
  refine g_elem (enc := IE .u8) (L := B14) 0 mE (by decide) (by decide) (fun b off y eA hy => ?_)
  obtain rfl : 14 = y := by simpa [B14] using hy
  refine g_say 12 (.slice (some ⟨b, off, none⟩) s.n s.c) rfl (by rw [← eA]; rfl) ?_
  (repeat' (first | (first | refine g_nil ?_ | refine g_pure true hT rfl rfl rfl sI ?_ | refine g_skip rfl rfl ?_ | refine g_skip0 rfl rfl ?_ | refine gk_region rfl ?_ | refine gk_cond_t rfl rfl ?_ | refine gk_cond_f rfl rfl ?_ | refine g_yd rfl rfl (yd_load_blk hT rfl rfl mE rfl rfl) ?_ | refine g_yd rfl rfl (yd_load_row hT rfl rfl mE rfl rfl) ?_ | refine g_yd rfl rfl (yd_load_row0 hT rfl rfl mE rfl rfl) ?_ | refine g_yd rfl rfl (yd_eql rfl rfl rfl rfl rfl (by kernel_rfl)) ?_ | refine g_yd rfl rfl (yd_neq rfl rfl rfl rfl rfl (by kernel_rfl)) ?_ | refine g_yd rfl rfl (yd_index hT rfl rfl rfl sI rfl) ?_ | refine g_yd rfl rfl (yd_slice_nil hT rfl rfl rfl rfl) ?_ | refine g_yd rfl rfl (yd_build_arr hT rfl rfl rfl rfl rfl rfl) ?_ | (refine g_mv rfl ?_; first | (refine mv_box rfl rfl rfl rfl ?_; intro _) | (refine mv_alloc rfl hT rfl rfl ?_; intro _) | refine mv_store hT rfl rfl rfl rfl rfl rfl sO rfl ?_ | (refine mv_buildSlice rfl hT rfl rfl rfl rfl rfl rfl rfl rfl ?_; intro _)) | refine g_yd rfl rfl (Ys.yd (ys_str_eql hT rfl rfl rfl rfl)) ?_ | refine g_yd rfl rfl (Ys.yd (ys_str_neq hT rfl rfl rfl rfl)) ?_) | (refine g_mv rfl ?_; first | refine mv_call_bel (fun w hk => c2 w) rfl rfl rfl rfl rfl (by kernel_rfl) ?_) | ((first | refine g_split rfl rfl tE (fun _ => ?_) (fun _ => ?_) | refine gk_cond rfl rfl tE (fun _ => ?_) (fun _ => ?_)) <;> (try first | (exfalso; omega; done) | (rename_i hx; exact absurd rfl hx) | (rename_i hx; cases hx; done)))))
  all_goals first
    | (refine gk_ret hT rfl rfl (.tmp rfl .nil) (fun w' hk => ?_); exact ⟨rfl, hk.toBelow⟩)
    | (rename_i hx; exact absurd rfl hx)
    | (exfalso; omega)
theorem plain_same {o p q : OpD} {l : List Nat} (hp : PlainAt o l p) (hq : PlainAt o l q) : sameP p q :=
  ⟨hp.ek.trans hq.ek.symm, hp.ev.trans hq.ev.symm, hp.ei.trans hq.ei.symm, hp.eb.trans hq.eb.symm, hp.ec.trans hq.ec.symm, hp.ep.trans hq.ep.symm, hp.eD.trans hq.eD.symm, hp.eM.trans hq.eM.symm⟩
theorem plain_few {o p : OpD} {l : List Nat} (hp : PlainAt o l p) (h1 : o.D.length ≤ 100000000) (h2 : o.M.length ≤ 100000000) : p.D.length ≤ 100000000 ∧ p.M.length ≤ 100000000 := by
  rw [hp.eD, hp.eM]
  constructor
  · split
    · exact h1
    · simp
  · split
    · exact h2
    · simp
theorem tells_few (a b : OpD) (w : World) (ha : a.Ok) (hai : a.In w) (hb : b.Ok) (hbi : b.In w) (hl : a.D.length ≤ 300 ∧ a.M.length ≤ 100 ∧ b.D.length ≤ 300 ∧ b.M.length ≤ 100) (v18 v21 v25 : Bool) (hv : v18 = (v21 && v25))
    (h18 : tB (1 ≤ a.k ∧ a.k ≤ 14) = v18) (h21 : tB (1 ≤ a.k) = v21) (h25 : tB (a.k ≤ 14) = v25) : Calls Try.prog 5 [a.val, b.val].toArray w fun e w' => e = .returned (.bool true) ∧ Below w.heap.size w w' := by
  have g1 := fun w => calls_b (tB_false (show ¬ (300 < a.D.length ∨ 100 < a.M.length) by omega)) (great_any a w ha)
  have g2 := fun w => calls_b (tB_false (show ¬ (300 < b.D.length ∨ 100 < b.M.length) by omega)) (great_any b w hb)
  refine g_enter0 T [] [] [sl a.m.A 1 (IE .i64) a.M, sl a.a.A 1 (IE .u8) a.D, sl b.m.A 1 (IE .i64) b.M, sl b.a.A 1 (IE .u8) b.D] Try.func5 rfl Try.ntmps5 rfl (((((Kn.start w).argR hbi.a (by decide) (fun _ h => by cases h)).argR hbi.m (by decide) (fun _ h => by cases h)).argR hai.a (by decide) (fun _ h => by cases h)).argR hai.m (by decide) (fun _ h => by cases h)) ?_
  (repeat' (first | (first | refine g_nil ?_ | refine g_pure true hT rfl rfl rfl sI ?_ | refine g_skip rfl rfl ?_ | refine g_skip0 rfl rfl ?_ | refine gk_region rfl ?_ | refine gk_cond_t rfl rfl ?_ | refine gk_cond_f rfl rfl ?_ | refine g_yd rfl rfl (yd_load_blk hT rfl rfl mE rfl rfl) ?_ | refine g_yd rfl rfl (yd_load_row hT rfl rfl mE rfl rfl) ?_ | refine g_yd rfl rfl (yd_load_row0 hT rfl rfl mE rfl rfl) ?_ | refine g_yd rfl rfl (yd_eql rfl rfl rfl rfl rfl (by kernel_rfl)) ?_ | refine g_yd rfl rfl (yd_neq rfl rfl rfl rfl rfl (by kernel_rfl)) ?_ | refine g_yd rfl rfl (yd_index hT rfl rfl rfl sI rfl) ?_ | refine g_yd rfl rfl (yd_slice_nil hT rfl rfl rfl rfl) ?_ | refine g_yd rfl rfl (yd_build_arr hT rfl rfl rfl rfl rfl rfl) ?_ | (refine g_mv rfl ?_; first | (refine mv_box rfl rfl rfl rfl ?_; intro _) | (refine mv_alloc rfl hT rfl rfl ?_; intro _) | refine mv_store hT rfl rfl rfl rfl rfl rfl sO rfl ?_ | (refine mv_buildSlice rfl hT rfl rfl rfl rfl rfl rfl rfl rfl ?_; intro _)) | refine g_yd rfl rfl (Ys.yd (ys_str_eql hT rfl rfl rfl rfl)) ?_ | refine g_yd rfl rfl (Ys.yd (ys_str_neq hT rfl rfl rfl rfl)) ?_) | (refine g_mv rfl ?_; first | refine mv_call_bel (fun w hk => g1 w) rfl rfl rfl rfl rfl (by kernel_rfl) ?_ | refine mv_call_bel (fun w hk => g2 w) rfl rfl rfl rfl rfl (by kernel_rfl) ?_) | ((first | refine g_split rfl rfl tE (fun _ => ?_) (fun _ => ?_) | refine gk_cond rfl rfl tE (fun _ => ?_) (fun _ => ?_)) <;> (try first | (exfalso; omega; done) | (rename_i hx; exact absurd rfl hx) | (rename_i hx; cases hx; done)))))
  refine gk_any [0, 1] (Cut _ (fun _ : Unit => [(4, .bool true)]) (fun _ => []) (fun _ => [])) rfl rfl (by kernel_rfl) ?_ (cut_k fun _ => ?_)
  · cases v21 <;> cases v25 <;> subst hv
    · exfalso
      have h1 : ¬ (1 ≤ a.k) := fun h => by rw [tB_true h] at h21; cases h21
      have h2 : ¬ (a.k ≤ 14) := fun h => by rw [tB_true h] at h25; cases h25
      omega
    · skip
      refine gb_take 0 rfl (by decide +kernel) rfl rfl (by first | exact ys_blk hT rfl rfl mE rfl rfl | exact ys_row hT rfl rfl mE rfl rfl | exact ys_row0 hT rfl rfl mE rfl rfl) sF ?_
      refine gb_take 2 rfl (by decide +kernel) rfl rfl (by first | exact ys_blk hT rfl rfl mE rfl rfl | exact ys_row hT rfl rfl mE rfl rfl | exact ys_row0 hT rfl rfl mE rfl rfl) sF ?_
      refine gb_only 1 (by decide +kernel) rfl rfl ?_
      refine mv_call_bel (fun w hk => oright_any a w ha (hk.pR (sl a.m.A 1 (IE .i64) a.M) mE) (by omega)) rfl rfl rfl rfl rfl (by kernel_rfl) ?_
      refine ⟨sF, ?_⟩
      refine gb_only 3 (by decide +kernel) rfl rfl ?_
      refine mv_call_bel (fun w hk => rright_any a w ha ⟨hk.pR (sl a.a.A 1 (IE .u8) a.D) mE, hk.pR (sl a.m.A 1 (IE .i64) a.M) mE⟩ (by omega)) rfl rfl rfl rfl rfl (by kernel_rfl) ?_
      refine ⟨sF, ?_⟩
      refine gb_take 4 rfl (by decide +kernel) rfl rfl (ys_ev (nw := true) hT rfl sI) sF ?_
      try (refine gb_say 15 (.bool true) rfl (congrArg Value.bool (tB_true rfl)) ?_)
      refine gb_take 5 rfl (by decide +kernel) rfl rfl (ys_ev (nw := true) hT rfl sI) sF ?_
      first | refine gb_take 6 rfl (by decide +kernel) rfl rfl (by first | exact ys_blk hT rfl rfl mE rfl rfl | exact ys_row hT rfl rfl mE rfl rfl | exact ys_row0 hT rfl rfl mE rfl rfl) sF ?_ | refine gb_skip 6 rfl (by decide +kernel) rfl rfl sF ?_
      first | refine gb_take 8 rfl (by decide +kernel) rfl rfl (ys_ev (nw := true) hT rfl sI) sF ?_ | refine gb_skip 8 rfl (by decide +kernel) rfl rfl sF ?_
      first | refine gb_take 9 rfl (by decide +kernel) rfl rfl (by first | exact ys_blk hT rfl rfl mE rfl rfl | exact ys_row hT rfl rfl mE rfl rfl | exact ys_row0 hT rfl rfl mE rfl rfl) sF ?_ | refine gb_skip 9 rfl (by decide +kernel) rfl rfl sF ?_
      first | refine gb_take 10 rfl (by decide +kernel) rfl rfl (ys_ev (nw := true) hT rfl sI) sF ?_ | refine gb_skip 10 rfl (by decide +kernel) rfl rfl sF ?_
      try (refine gb_say 21 _ rfl (congrArg Value.bool h21) ?_)
      first | refine gb_skip 7 rfl (by decide +kernel) rfl rfl sF ?_ | (refine gb_only 7 (by decide +kernel) rfl rfl ?_; (refine mv_call_bel (fun w hk => calls_b h18 (event_any a.k a.v a.i a.b a.c a.p a.a.v a.m.v w)) rfl rfl rfl rfl rfl (by kernel_rfl) ?_); refine ⟨sF, ?_⟩)
      first | refine gb_take 11 rfl (by decide +kernel) rfl rfl (ys_ev (nw := true) hT rfl sI) sF ?_ | refine gb_skip 11 rfl (by decide +kernel) rfl rfl sF ?_
      first | refine gb_take 12 rfl (by decide +kernel) rfl rfl (ys_ev (nw := true) hT rfl sI) sF ?_ | refine gb_skip 12 rfl (by decide +kernel) rfl rfl sF ?_
      first | refine gb_take 13 rfl (by decide +kernel) rfl rfl (by first | exact ys_blk hT rfl rfl mE rfl rfl | exact ys_row hT rfl rfl mE rfl rfl | exact ys_row0 hT rfl rfl mE rfl rfl) sF ?_ | refine gb_skip 13 rfl (by decide +kernel) rfl rfl sF ?_
      first | refine gb_take 14 rfl (by decide +kernel) rfl rfl (ys_ev (nw := true) hT rfl sI) sF ?_ | refine gb_skip 14 rfl (by decide +kernel) rfl rfl sF ?_
      try (refine gb_say 25 _ rfl (congrArg Value.bool h25) ?_)
      first | refine gb_take 15 rfl (by decide +kernel) rfl rfl (ys_ev (nw := true) hT rfl sI) sF ?_ | refine gb_skip 15 rfl (by decide +kernel) rfl rfl sF ?_
      first | refine gb_take 16 rfl (by decide +kernel) rfl rfl (ys_ev (nw := true) hT rfl sI) sF ?_ | refine gb_skip 16 rfl (by decide +kernel) rfl rfl sF ?_
      try (refine gb_say 27 (.bool true) rfl (congrArg Value.bool (tB_true rfl)) ?_)
      refine gb_take 17 rfl (by decide +kernel) rfl rfl (ys_ev (nw := true) hT rfl sI) sF ?_
      refine gb_take 18 rfl (by decide +kernel) rfl rfl (ys_ev (nw := true) hT rfl sI) sF ?_
      first | refine gb_take 19 rfl (by decide +kernel) rfl rfl (by first | exact ys_blk hT rfl rfl mE rfl rfl | exact ys_row hT rfl rfl mE rfl rfl | exact ys_row0 hT rfl rfl mE rfl rfl) sF ?_ | refine gb_skip 19 rfl (by decide +kernel) rfl rfl sF ?_
      first | refine gb_take 21 rfl (by decide +kernel) rfl rfl (by first | exact ys_blk hT rfl rfl mE rfl rfl | exact ys_row hT rfl rfl mE rfl rfl | exact ys_row0 hT rfl rfl mE rfl rfl) sF ?_ | refine gb_skip 21 rfl (by decide +kernel) rfl rfl sF ?_
      first | refine gb_skip 20 rfl (by decide +kernel) rfl rfl sF ?_ | (refine gb_only 20 (by decide +kernel) rfl rfl ?_; (refine mv_call_rt (fun w hk => plain_any a w ha ⟨hk.pR (sl a.a.A 1 (IE .u8) a.D) mE, hk.pR (sl a.m.A 1 (IE .i64) a.M) mE⟩ (by omega) (by omega)) rfl rfl rfl rfl rfl (by kernel_rfl) (fun _ => rfl) (fun p hp => ?_)); refine ⟨sF, ?_⟩)
      first | refine gb_skip 22 rfl (by decide +kernel) rfl rfl sF ?_ | (refine gb_only 22 (by decide +kernel) rfl rfl ?_; (refine mv_call_rt (fun w hk => rplain_any a w ha ⟨hk.pR (sl a.a.A 1 (IE .u8) a.D) mE, hk.pR (sl a.m.A 1 (IE .i64) a.M) mE⟩ (by omega) (by omega)) rfl rfl rfl rfl rfl (by kernel_rfl) (fun _ => rfl) (fun q hq => ?_)); refine ⟨sF, ?_⟩)
      first | refine gb_skip 23 rfl (by decide +kernel) rfl rfl sF ?_ | (refine gb_only 23 (by decide +kernel) rfl rfl ?_; (refine mv_call_bel (fun w hk => calls_b (tB_true (plain_same hp hq)) (rsame_any p q w hp.ok ⟨hk.pO (sl p.a.A 1 (IE .u8) p.D) mE, hk.pO (sl p.m.A 1 (IE .i64) p.M) mE⟩ hq.ok ⟨hk.pO (sl q.a.A 1 (IE .u8) q.D) mE, hk.pO (sl q.m.A 1 (IE .i64) q.M) mE⟩ (plain_few hp (by omega) (by omega)))) rfl rfl rfl rfl rfl (by kernel_rfl) ?_); refine ⟨sF, ?_⟩)
      refine gb_take 24 rfl (by decide +kernel) rfl rfl (ys_ev (nw := true) hT rfl sI) sF ?_
      refine gb_take 25 rfl (by decide +kernel) rfl rfl (ys_ev (nw := true) hT rfl sI) sF ?_
      first | refine gb_take 26 rfl (by decide +kernel) rfl rfl (by first | exact ys_blk hT rfl rfl mE rfl rfl | exact ys_row hT rfl rfl mE rfl rfl | exact ys_row0 hT rfl rfl mE rfl rfl) sF ?_ | refine gb_skip 26 rfl (by decide +kernel) rfl rfl sF ?_
      first | refine gb_take 27 rfl (by decide +kernel) rfl rfl (by first | exact ys_blk hT rfl rfl mE rfl rfl | exact ys_row hT rfl rfl mE rfl rfl | exact ys_row0 hT rfl rfl mE rfl rfl) sF ?_ | refine gb_skip 27 rfl (by decide +kernel) rfl rfl sF ?_
      first | refine gb_take 29 rfl (by decide +kernel) rfl rfl (by first | exact ys_blk hT rfl rfl mE rfl rfl | exact ys_row hT rfl rfl mE rfl rfl | exact ys_row0 hT rfl rfl mE rfl rfl) sF ?_ | refine gb_skip 29 rfl (by decide +kernel) rfl rfl sF ?_
      first | refine gb_take 30 rfl (by decide +kernel) rfl rfl (by first | exact ys_blk hT rfl rfl mE rfl rfl | exact ys_row hT rfl rfl mE rfl rfl | exact ys_row0 hT rfl rfl mE rfl rfl) sF ?_ | refine gb_skip 30 rfl (by decide +kernel) rfl rfl sF ?_
      first | refine gb_skip 28 rfl (by decide +kernel) rfl rfl sF ?_ | (refine gb_only 28 (by decide +kernel) rfl rfl ?_; (refine mv_call_bel (fun w hk => same_any a b w ha ⟨hk.pR (sl a.a.A 1 (IE .u8) a.D) mE, hk.pR (sl a.m.A 1 (IE .i64) a.M) mE⟩ hb ⟨hk.pR (sl b.a.A 1 (IE .u8) b.D) mE, hk.pR (sl b.m.A 1 (IE .i64) b.M) mE⟩ (by omega)) rfl rfl rfl rfl rfl (by kernel_rfl) ?_); refine ⟨sF, ?_⟩)
      first | refine gb_skip 31 rfl (by decide +kernel) rfl rfl sF ?_ | (refine gb_only 31 (by decide +kernel) rfl rfl ?_; (refine mv_call_bel (fun w hk => rsame_any a b w ha ⟨hk.pR (sl a.a.A 1 (IE .u8) a.D) mE, hk.pR (sl a.m.A 1 (IE .i64) a.M) mE⟩ hb ⟨hk.pR (sl b.a.A 1 (IE .u8) b.D) mE, hk.pR (sl b.m.A 1 (IE .i64) b.M) mE⟩ (by omega)) rfl rfl rfl rfl rfl (by kernel_rfl) ?_); refine ⟨sF, ?_⟩)
      first | refine gb_take 32 rfl (by decide +kernel) rfl rfl (ys_ev (nw := true) hT rfl sI) sF ?_ | refine gb_skip 32 rfl (by decide +kernel) rfl rfl sF ?_
      try (refine gb_say 43 (.bool true) rfl (congrArg Value.bool (tB_true rfl)) ?_)
      refine gb_take 33 rfl (by decide +kernel) rfl rfl (ys_ev (nw := true) hT rfl sI) sF ?_
      refine gb_take 34 rfl (by decide +kernel) rfl rfl (ys_ev (nw := true) hT rfl sI) sF ?_
      first | refine gb_skip 35 rfl (by decide +kernel) rfl rfl sF ?_ | (refine gb_only 35 (by decide +kernel) rfl rfl ?_; (refine mv_call_bel (fun w hk => alive_any w) rfl rfl rfl rfl rfl (by kernel_rfl) ?_); refine ⟨sF, ?_⟩)
      refine gb_take 36 rfl (by decide +kernel) rfl rfl (ys_ev (nw := true) hT rfl sI) sF ?_
      refine gb_take 37 rfl (by decide +kernel) rfl rfl (ys_ev (nw := true) hT rfl sI) sF ?_
      refine gb_nil (by decide +kernel) ?_
      exact ⟨(), (by repeat (first | exact trivial | refine ⟨rfl, ?_⟩)), sA, List.nil_subset _⟩
    · skip
      refine gb_take 0 rfl (by decide +kernel) rfl rfl (by first | exact ys_blk hT rfl rfl mE rfl rfl | exact ys_row hT rfl rfl mE rfl rfl | exact ys_row0 hT rfl rfl mE rfl rfl) sF ?_
      refine gb_take 2 rfl (by decide +kernel) rfl rfl (by first | exact ys_blk hT rfl rfl mE rfl rfl | exact ys_row hT rfl rfl mE rfl rfl | exact ys_row0 hT rfl rfl mE rfl rfl) sF ?_
      refine gb_only 1 (by decide +kernel) rfl rfl ?_
      refine mv_call_bel (fun w hk => oright_any a w ha (hk.pR (sl a.m.A 1 (IE .i64) a.M) mE) (by omega)) rfl rfl rfl rfl rfl (by kernel_rfl) ?_
      refine ⟨sF, ?_⟩
      refine gb_only 3 (by decide +kernel) rfl rfl ?_
      refine mv_call_bel (fun w hk => rright_any a w ha ⟨hk.pR (sl a.a.A 1 (IE .u8) a.D) mE, hk.pR (sl a.m.A 1 (IE .i64) a.M) mE⟩ (by omega)) rfl rfl rfl rfl rfl (by kernel_rfl) ?_
      refine ⟨sF, ?_⟩
      refine gb_take 4 rfl (by decide +kernel) rfl rfl (ys_ev (nw := true) hT rfl sI) sF ?_
      try (refine gb_say 15 (.bool true) rfl (congrArg Value.bool (tB_true rfl)) ?_)
      refine gb_take 5 rfl (by decide +kernel) rfl rfl (ys_ev (nw := true) hT rfl sI) sF ?_
      first | refine gb_take 6 rfl (by decide +kernel) rfl rfl (by first | exact ys_blk hT rfl rfl mE rfl rfl | exact ys_row hT rfl rfl mE rfl rfl | exact ys_row0 hT rfl rfl mE rfl rfl) sF ?_ | refine gb_skip 6 rfl (by decide +kernel) rfl rfl sF ?_
      first | refine gb_take 8 rfl (by decide +kernel) rfl rfl (ys_ev (nw := true) hT rfl sI) sF ?_ | refine gb_skip 8 rfl (by decide +kernel) rfl rfl sF ?_
      first | refine gb_take 9 rfl (by decide +kernel) rfl rfl (by first | exact ys_blk hT rfl rfl mE rfl rfl | exact ys_row hT rfl rfl mE rfl rfl | exact ys_row0 hT rfl rfl mE rfl rfl) sF ?_ | refine gb_skip 9 rfl (by decide +kernel) rfl rfl sF ?_
      first | refine gb_take 10 rfl (by decide +kernel) rfl rfl (ys_ev (nw := true) hT rfl sI) sF ?_ | refine gb_skip 10 rfl (by decide +kernel) rfl rfl sF ?_
      try (refine gb_say 21 _ rfl (congrArg Value.bool h21) ?_)
      first | refine gb_skip 7 rfl (by decide +kernel) rfl rfl sF ?_ | (refine gb_only 7 (by decide +kernel) rfl rfl ?_; (refine mv_call_bel (fun w hk => calls_b h18 (event_any a.k a.v a.i a.b a.c a.p a.a.v a.m.v w)) rfl rfl rfl rfl rfl (by kernel_rfl) ?_); refine ⟨sF, ?_⟩)
      first | refine gb_take 11 rfl (by decide +kernel) rfl rfl (ys_ev (nw := true) hT rfl sI) sF ?_ | refine gb_skip 11 rfl (by decide +kernel) rfl rfl sF ?_
      first | refine gb_take 12 rfl (by decide +kernel) rfl rfl (ys_ev (nw := true) hT rfl sI) sF ?_ | refine gb_skip 12 rfl (by decide +kernel) rfl rfl sF ?_
      first | refine gb_take 13 rfl (by decide +kernel) rfl rfl (by first | exact ys_blk hT rfl rfl mE rfl rfl | exact ys_row hT rfl rfl mE rfl rfl | exact ys_row0 hT rfl rfl mE rfl rfl) sF ?_ | refine gb_skip 13 rfl (by decide +kernel) rfl rfl sF ?_
      first | refine gb_take 14 rfl (by decide +kernel) rfl rfl (ys_ev (nw := true) hT rfl sI) sF ?_ | refine gb_skip 14 rfl (by decide +kernel) rfl rfl sF ?_
      try (refine gb_say 25 _ rfl (congrArg Value.bool h25) ?_)
      first | refine gb_take 15 rfl (by decide +kernel) rfl rfl (ys_ev (nw := true) hT rfl sI) sF ?_ | refine gb_skip 15 rfl (by decide +kernel) rfl rfl sF ?_
      first | refine gb_take 16 rfl (by decide +kernel) rfl rfl (ys_ev (nw := true) hT rfl sI) sF ?_ | refine gb_skip 16 rfl (by decide +kernel) rfl rfl sF ?_
      try (refine gb_say 27 (.bool true) rfl (congrArg Value.bool (tB_true rfl)) ?_)
      refine gb_take 17 rfl (by decide +kernel) rfl rfl (ys_ev (nw := true) hT rfl sI) sF ?_
      refine gb_take 18 rfl (by decide +kernel) rfl rfl (ys_ev (nw := true) hT rfl sI) sF ?_
      first | refine gb_take 19 rfl (by decide +kernel) rfl rfl (by first | exact ys_blk hT rfl rfl mE rfl rfl | exact ys_row hT rfl rfl mE rfl rfl | exact ys_row0 hT rfl rfl mE rfl rfl) sF ?_ | refine gb_skip 19 rfl (by decide +kernel) rfl rfl sF ?_
      first | refine gb_take 21 rfl (by decide +kernel) rfl rfl (by first | exact ys_blk hT rfl rfl mE rfl rfl | exact ys_row hT rfl rfl mE rfl rfl | exact ys_row0 hT rfl rfl mE rfl rfl) sF ?_ | refine gb_skip 21 rfl (by decide +kernel) rfl rfl sF ?_
      first | refine gb_skip 20 rfl (by decide +kernel) rfl rfl sF ?_ | (refine gb_only 20 (by decide +kernel) rfl rfl ?_; (refine mv_call_rt (fun w hk => plain_any a w ha ⟨hk.pR (sl a.a.A 1 (IE .u8) a.D) mE, hk.pR (sl a.m.A 1 (IE .i64) a.M) mE⟩ (by omega) (by omega)) rfl rfl rfl rfl rfl (by kernel_rfl) (fun _ => rfl) (fun p hp => ?_)); refine ⟨sF, ?_⟩)
      first | refine gb_skip 22 rfl (by decide +kernel) rfl rfl sF ?_ | (refine gb_only 22 (by decide +kernel) rfl rfl ?_; (refine mv_call_rt (fun w hk => rplain_any a w ha ⟨hk.pR (sl a.a.A 1 (IE .u8) a.D) mE, hk.pR (sl a.m.A 1 (IE .i64) a.M) mE⟩ (by omega) (by omega)) rfl rfl rfl rfl rfl (by kernel_rfl) (fun _ => rfl) (fun q hq => ?_)); refine ⟨sF, ?_⟩)
      first | refine gb_skip 23 rfl (by decide +kernel) rfl rfl sF ?_ | (refine gb_only 23 (by decide +kernel) rfl rfl ?_; (refine mv_call_bel (fun w hk => calls_b (tB_true (plain_same hp hq)) (rsame_any p q w hp.ok ⟨hk.pO (sl p.a.A 1 (IE .u8) p.D) mE, hk.pO (sl p.m.A 1 (IE .i64) p.M) mE⟩ hq.ok ⟨hk.pO (sl q.a.A 1 (IE .u8) q.D) mE, hk.pO (sl q.m.A 1 (IE .i64) q.M) mE⟩ (plain_few hp (by omega) (by omega)))) rfl rfl rfl rfl rfl (by kernel_rfl) ?_); refine ⟨sF, ?_⟩)
      refine gb_take 24 rfl (by decide +kernel) rfl rfl (ys_ev (nw := true) hT rfl sI) sF ?_
      refine gb_take 25 rfl (by decide +kernel) rfl rfl (ys_ev (nw := true) hT rfl sI) sF ?_
      first | refine gb_take 26 rfl (by decide +kernel) rfl rfl (by first | exact ys_blk hT rfl rfl mE rfl rfl | exact ys_row hT rfl rfl mE rfl rfl | exact ys_row0 hT rfl rfl mE rfl rfl) sF ?_ | refine gb_skip 26 rfl (by decide +kernel) rfl rfl sF ?_
      first | refine gb_take 27 rfl (by decide +kernel) rfl rfl (by first | exact ys_blk hT rfl rfl mE rfl rfl | exact ys_row hT rfl rfl mE rfl rfl | exact ys_row0 hT rfl rfl mE rfl rfl) sF ?_ | refine gb_skip 27 rfl (by decide +kernel) rfl rfl sF ?_
      first | refine gb_take 29 rfl (by decide +kernel) rfl rfl (by first | exact ys_blk hT rfl rfl mE rfl rfl | exact ys_row hT rfl rfl mE rfl rfl | exact ys_row0 hT rfl rfl mE rfl rfl) sF ?_ | refine gb_skip 29 rfl (by decide +kernel) rfl rfl sF ?_
      first | refine gb_take 30 rfl (by decide +kernel) rfl rfl (by first | exact ys_blk hT rfl rfl mE rfl rfl | exact ys_row hT rfl rfl mE rfl rfl | exact ys_row0 hT rfl rfl mE rfl rfl) sF ?_ | refine gb_skip 30 rfl (by decide +kernel) rfl rfl sF ?_
      first | refine gb_skip 28 rfl (by decide +kernel) rfl rfl sF ?_ | (refine gb_only 28 (by decide +kernel) rfl rfl ?_; (refine mv_call_bel (fun w hk => same_any a b w ha ⟨hk.pR (sl a.a.A 1 (IE .u8) a.D) mE, hk.pR (sl a.m.A 1 (IE .i64) a.M) mE⟩ hb ⟨hk.pR (sl b.a.A 1 (IE .u8) b.D) mE, hk.pR (sl b.m.A 1 (IE .i64) b.M) mE⟩ (by omega)) rfl rfl rfl rfl rfl (by kernel_rfl) ?_); refine ⟨sF, ?_⟩)
      first | refine gb_skip 31 rfl (by decide +kernel) rfl rfl sF ?_ | (refine gb_only 31 (by decide +kernel) rfl rfl ?_; (refine mv_call_bel (fun w hk => rsame_any a b w ha ⟨hk.pR (sl a.a.A 1 (IE .u8) a.D) mE, hk.pR (sl a.m.A 1 (IE .i64) a.M) mE⟩ hb ⟨hk.pR (sl b.a.A 1 (IE .u8) b.D) mE, hk.pR (sl b.m.A 1 (IE .i64) b.M) mE⟩ (by omega)) rfl rfl rfl rfl rfl (by kernel_rfl) ?_); refine ⟨sF, ?_⟩)
      first | refine gb_take 32 rfl (by decide +kernel) rfl rfl (ys_ev (nw := true) hT rfl sI) sF ?_ | refine gb_skip 32 rfl (by decide +kernel) rfl rfl sF ?_
      try (refine gb_say 43 (.bool true) rfl (congrArg Value.bool (tB_true rfl)) ?_)
      refine gb_take 33 rfl (by decide +kernel) rfl rfl (ys_ev (nw := true) hT rfl sI) sF ?_
      refine gb_take 34 rfl (by decide +kernel) rfl rfl (ys_ev (nw := true) hT rfl sI) sF ?_
      first | refine gb_skip 35 rfl (by decide +kernel) rfl rfl sF ?_ | (refine gb_only 35 (by decide +kernel) rfl rfl ?_; (refine mv_call_bel (fun w hk => alive_any w) rfl rfl rfl rfl rfl (by kernel_rfl) ?_); refine ⟨sF, ?_⟩)
      refine gb_take 36 rfl (by decide +kernel) rfl rfl (ys_ev (nw := true) hT rfl sI) sF ?_
      refine gb_take 37 rfl (by decide +kernel) rfl rfl (ys_ev (nw := true) hT rfl sI) sF ?_
      refine gb_nil (by decide +kernel) ?_
      exact ⟨(), (by repeat (first | exact trivial | refine ⟨rfl, ?_⟩)), sA, List.nil_subset _⟩
    · skip
      refine gb_take 0 rfl (by decide +kernel) rfl rfl (by first | exact ys_blk hT rfl rfl mE rfl rfl | exact ys_row hT rfl rfl mE rfl rfl | exact ys_row0 hT rfl rfl mE rfl rfl) sF ?_
      refine gb_take 2 rfl (by decide +kernel) rfl rfl (by first | exact ys_blk hT rfl rfl mE rfl rfl | exact ys_row hT rfl rfl mE rfl rfl | exact ys_row0 hT rfl rfl mE rfl rfl) sF ?_
      refine gb_only 1 (by decide +kernel) rfl rfl ?_
      refine mv_call_bel (fun w hk => oright_any a w ha (hk.pR (sl a.m.A 1 (IE .i64) a.M) mE) (by omega)) rfl rfl rfl rfl rfl (by kernel_rfl) ?_
      refine ⟨sF, ?_⟩
      refine gb_only 3 (by decide +kernel) rfl rfl ?_
      refine mv_call_bel (fun w hk => rright_any a w ha ⟨hk.pR (sl a.a.A 1 (IE .u8) a.D) mE, hk.pR (sl a.m.A 1 (IE .i64) a.M) mE⟩ (by omega)) rfl rfl rfl rfl rfl (by kernel_rfl) ?_
      refine ⟨sF, ?_⟩
      refine gb_take 4 rfl (by decide +kernel) rfl rfl (ys_ev (nw := true) hT rfl sI) sF ?_
      try (refine gb_say 15 (.bool true) rfl (congrArg Value.bool (tB_true rfl)) ?_)
      refine gb_take 5 rfl (by decide +kernel) rfl rfl (ys_ev (nw := true) hT rfl sI) sF ?_
      first | refine gb_take 6 rfl (by decide +kernel) rfl rfl (by first | exact ys_blk hT rfl rfl mE rfl rfl | exact ys_row hT rfl rfl mE rfl rfl | exact ys_row0 hT rfl rfl mE rfl rfl) sF ?_ | refine gb_skip 6 rfl (by decide +kernel) rfl rfl sF ?_
      first | refine gb_take 8 rfl (by decide +kernel) rfl rfl (ys_ev (nw := true) hT rfl sI) sF ?_ | refine gb_skip 8 rfl (by decide +kernel) rfl rfl sF ?_
      first | refine gb_take 9 rfl (by decide +kernel) rfl rfl (by first | exact ys_blk hT rfl rfl mE rfl rfl | exact ys_row hT rfl rfl mE rfl rfl | exact ys_row0 hT rfl rfl mE rfl rfl) sF ?_ | refine gb_skip 9 rfl (by decide +kernel) rfl rfl sF ?_
      first | refine gb_take 10 rfl (by decide +kernel) rfl rfl (ys_ev (nw := true) hT rfl sI) sF ?_ | refine gb_skip 10 rfl (by decide +kernel) rfl rfl sF ?_
      try (refine gb_say 21 _ rfl (congrArg Value.bool h21) ?_)
      first | refine gb_skip 7 rfl (by decide +kernel) rfl rfl sF ?_ | (refine gb_only 7 (by decide +kernel) rfl rfl ?_; (refine mv_call_bel (fun w hk => calls_b h18 (event_any a.k a.v a.i a.b a.c a.p a.a.v a.m.v w)) rfl rfl rfl rfl rfl (by kernel_rfl) ?_); refine ⟨sF, ?_⟩)
      first | refine gb_take 11 rfl (by decide +kernel) rfl rfl (ys_ev (nw := true) hT rfl sI) sF ?_ | refine gb_skip 11 rfl (by decide +kernel) rfl rfl sF ?_
      first | refine gb_take 12 rfl (by decide +kernel) rfl rfl (ys_ev (nw := true) hT rfl sI) sF ?_ | refine gb_skip 12 rfl (by decide +kernel) rfl rfl sF ?_
      first | refine gb_take 13 rfl (by decide +kernel) rfl rfl (by first | exact ys_blk hT rfl rfl mE rfl rfl | exact ys_row hT rfl rfl mE rfl rfl | exact ys_row0 hT rfl rfl mE rfl rfl) sF ?_ | refine gb_skip 13 rfl (by decide +kernel) rfl rfl sF ?_
      first | refine gb_take 14 rfl (by decide +kernel) rfl rfl (ys_ev (nw := true) hT rfl sI) sF ?_ | refine gb_skip 14 rfl (by decide +kernel) rfl rfl sF ?_
      try (refine gb_say 25 _ rfl (congrArg Value.bool h25) ?_)
      first | refine gb_take 15 rfl (by decide +kernel) rfl rfl (ys_ev (nw := true) hT rfl sI) sF ?_ | refine gb_skip 15 rfl (by decide +kernel) rfl rfl sF ?_
      first | refine gb_take 16 rfl (by decide +kernel) rfl rfl (ys_ev (nw := true) hT rfl sI) sF ?_ | refine gb_skip 16 rfl (by decide +kernel) rfl rfl sF ?_
      try (refine gb_say 27 (.bool true) rfl (congrArg Value.bool (tB_true rfl)) ?_)
      refine gb_take 17 rfl (by decide +kernel) rfl rfl (ys_ev (nw := true) hT rfl sI) sF ?_
      refine gb_take 18 rfl (by decide +kernel) rfl rfl (ys_ev (nw := true) hT rfl sI) sF ?_
      first | refine gb_take 19 rfl (by decide +kernel) rfl rfl (by first | exact ys_blk hT rfl rfl mE rfl rfl | exact ys_row hT rfl rfl mE rfl rfl | exact ys_row0 hT rfl rfl mE rfl rfl) sF ?_ | refine gb_skip 19 rfl (by decide +kernel) rfl rfl sF ?_
      first | refine gb_take 21 rfl (by decide +kernel) rfl rfl (by first | exact ys_blk hT rfl rfl mE rfl rfl | exact ys_row hT rfl rfl mE rfl rfl | exact ys_row0 hT rfl rfl mE rfl rfl) sF ?_ | refine gb_skip 21 rfl (by decide +kernel) rfl rfl sF ?_
      first | refine gb_skip 20 rfl (by decide +kernel) rfl rfl sF ?_ | (refine gb_only 20 (by decide +kernel) rfl rfl ?_; (refine mv_call_rt (fun w hk => plain_any a w ha ⟨hk.pR (sl a.a.A 1 (IE .u8) a.D) mE, hk.pR (sl a.m.A 1 (IE .i64) a.M) mE⟩ (by omega) (by omega)) rfl rfl rfl rfl rfl (by kernel_rfl) (fun _ => rfl) (fun p hp => ?_)); refine ⟨sF, ?_⟩)
      first | refine gb_skip 22 rfl (by decide +kernel) rfl rfl sF ?_ | (refine gb_only 22 (by decide +kernel) rfl rfl ?_; (refine mv_call_rt (fun w hk => rplain_any a w ha ⟨hk.pR (sl a.a.A 1 (IE .u8) a.D) mE, hk.pR (sl a.m.A 1 (IE .i64) a.M) mE⟩ (by omega) (by omega)) rfl rfl rfl rfl rfl (by kernel_rfl) (fun _ => rfl) (fun q hq => ?_)); refine ⟨sF, ?_⟩)
      first | refine gb_skip 23 rfl (by decide +kernel) rfl rfl sF ?_ | (refine gb_only 23 (by decide +kernel) rfl rfl ?_; (refine mv_call_bel (fun w hk => calls_b (tB_true (plain_same hp hq)) (rsame_any p q w hp.ok ⟨hk.pO (sl p.a.A 1 (IE .u8) p.D) mE, hk.pO (sl p.m.A 1 (IE .i64) p.M) mE⟩ hq.ok ⟨hk.pO (sl q.a.A 1 (IE .u8) q.D) mE, hk.pO (sl q.m.A 1 (IE .i64) q.M) mE⟩ (plain_few hp (by omega) (by omega)))) rfl rfl rfl rfl rfl (by kernel_rfl) ?_); refine ⟨sF, ?_⟩)
      refine gb_take 24 rfl (by decide +kernel) rfl rfl (ys_ev (nw := true) hT rfl sI) sF ?_
      refine gb_take 25 rfl (by decide +kernel) rfl rfl (ys_ev (nw := true) hT rfl sI) sF ?_
      first | refine gb_take 26 rfl (by decide +kernel) rfl rfl (by first | exact ys_blk hT rfl rfl mE rfl rfl | exact ys_row hT rfl rfl mE rfl rfl | exact ys_row0 hT rfl rfl mE rfl rfl) sF ?_ | refine gb_skip 26 rfl (by decide +kernel) rfl rfl sF ?_
      first | refine gb_take 27 rfl (by decide +kernel) rfl rfl (by first | exact ys_blk hT rfl rfl mE rfl rfl | exact ys_row hT rfl rfl mE rfl rfl | exact ys_row0 hT rfl rfl mE rfl rfl) sF ?_ | refine gb_skip 27 rfl (by decide +kernel) rfl rfl sF ?_
      first | refine gb_take 29 rfl (by decide +kernel) rfl rfl (by first | exact ys_blk hT rfl rfl mE rfl rfl | exact ys_row hT rfl rfl mE rfl rfl | exact ys_row0 hT rfl rfl mE rfl rfl) sF ?_ | refine gb_skip 29 rfl (by decide +kernel) rfl rfl sF ?_
      first | refine gb_take 30 rfl (by decide +kernel) rfl rfl (by first | exact ys_blk hT rfl rfl mE rfl rfl | exact ys_row hT rfl rfl mE rfl rfl | exact ys_row0 hT rfl rfl mE rfl rfl) sF ?_ | refine gb_skip 30 rfl (by decide +kernel) rfl rfl sF ?_
      first | refine gb_skip 28 rfl (by decide +kernel) rfl rfl sF ?_ | (refine gb_only 28 (by decide +kernel) rfl rfl ?_; (refine mv_call_bel (fun w hk => same_any a b w ha ⟨hk.pR (sl a.a.A 1 (IE .u8) a.D) mE, hk.pR (sl a.m.A 1 (IE .i64) a.M) mE⟩ hb ⟨hk.pR (sl b.a.A 1 (IE .u8) b.D) mE, hk.pR (sl b.m.A 1 (IE .i64) b.M) mE⟩ (by omega)) rfl rfl rfl rfl rfl (by kernel_rfl) ?_); refine ⟨sF, ?_⟩)
      first | refine gb_skip 31 rfl (by decide +kernel) rfl rfl sF ?_ | (refine gb_only 31 (by decide +kernel) rfl rfl ?_; (refine mv_call_bel (fun w hk => rsame_any a b w ha ⟨hk.pR (sl a.a.A 1 (IE .u8) a.D) mE, hk.pR (sl a.m.A 1 (IE .i64) a.M) mE⟩ hb ⟨hk.pR (sl b.a.A 1 (IE .u8) b.D) mE, hk.pR (sl b.m.A 1 (IE .i64) b.M) mE⟩ (by omega)) rfl rfl rfl rfl rfl (by kernel_rfl) ?_); refine ⟨sF, ?_⟩)
      first | refine gb_take 32 rfl (by decide +kernel) rfl rfl (ys_ev (nw := true) hT rfl sI) sF ?_ | refine gb_skip 32 rfl (by decide +kernel) rfl rfl sF ?_
      try (refine gb_say 43 (.bool true) rfl (congrArg Value.bool (tB_true rfl)) ?_)
      refine gb_take 33 rfl (by decide +kernel) rfl rfl (ys_ev (nw := true) hT rfl sI) sF ?_
      refine gb_take 34 rfl (by decide +kernel) rfl rfl (ys_ev (nw := true) hT rfl sI) sF ?_
      first | refine gb_skip 35 rfl (by decide +kernel) rfl rfl sF ?_ | (refine gb_only 35 (by decide +kernel) rfl rfl ?_; (refine mv_call_bel (fun w hk => alive_any w) rfl rfl rfl rfl rfl (by kernel_rfl) ?_); refine ⟨sF, ?_⟩)
      refine gb_take 36 rfl (by decide +kernel) rfl rfl (ys_ev (nw := true) hT rfl sI) sF ?_
      refine gb_take 37 rfl (by decide +kernel) rfl rfl (ys_ev (nw := true) hT rfl sI) sF ?_
      refine gb_nil (by decide +kernel) ?_
      exact ⟨(), (by repeat (first | exact trivial | refine ⟨rfl, ?_⟩)), sA, List.nil_subset _⟩
  · (repeat (first | refine g_nil ?_ | refine g_pure true hT rfl rfl rfl sI ?_ | refine g_skip rfl rfl ?_ | refine g_skip0 rfl rfl ?_ | refine gk_region rfl ?_ | refine gk_cond_t rfl rfl ?_ | refine gk_cond_f rfl rfl ?_ | refine g_yd rfl rfl (yd_load_blk hT rfl rfl mE rfl rfl) ?_ | refine g_yd rfl rfl (yd_load_row hT rfl rfl mE rfl rfl) ?_ | refine g_yd rfl rfl (yd_load_row0 hT rfl rfl mE rfl rfl) ?_ | refine g_yd rfl rfl (yd_eql rfl rfl rfl rfl rfl (by kernel_rfl)) ?_ | refine g_yd rfl rfl (yd_neq rfl rfl rfl rfl rfl (by kernel_rfl)) ?_ | refine g_yd rfl rfl (yd_index hT rfl rfl rfl sI rfl) ?_ | refine g_yd rfl rfl (yd_slice_nil hT rfl rfl rfl rfl) ?_ | refine g_yd rfl rfl (yd_build_arr hT rfl rfl rfl rfl rfl rfl) ?_ | (refine g_mv rfl ?_; first | (refine mv_box rfl rfl rfl rfl ?_; intro _) | (refine mv_alloc rfl hT rfl rfl ?_; intro _) | refine mv_store hT rfl rfl rfl rfl rfl rfl sO rfl ?_ | (refine mv_buildSlice rfl hT rfl rfl rfl rfl rfl rfl rfl rfl ?_; intro _)) | refine g_yd rfl rfl (Ys.yd (ys_str_eql hT rfl rfl rfl rfl)) ?_ | refine g_yd rfl rfl (Ys.yd (ys_str_neq hT rfl rfl rfl rfl)) ?_))
    refine gk_ret hT rfl rfl (.tmp rfl .nil) (fun w' hk => ?_)
    exact ⟨rfl, hk.toBelow⟩
end Go.Proofs.Ytkdphoacniigjaa.OpA
