/- op.Plain. -/
import Derived.Test.YteajefmnbalofaaOpC
namespace Go.Proofs.Yteajefmnbalofaa.OpA
open Go.RowKit Mem Gx Sls
set_option linter.unusedVariables false
set_option linter.unusedSimpArgs false
set_option maxRecDepth 100000
set_option maxHeartbeats 4000000
theorem plain_of {o p : OpD} {l : List Nat} (hl : looks o.k = l) (hk : p.k = o.k) (hv : p.v = if 118 ∈ l then o.v else 0) (hi : p.i = if 105 ∈ l then o.i else 0) (hb : p.b = if 98 ∈ l then o.b else 0) (hc : p.c = if 110 ∈ l then o.c else 0)
    (hp : p.p = if 112 ∈ l then o.p else 0) (hD : p.D = if 100 ∈ l then o.D else []) (hM : p.M = if 109 ∈ l then o.M else []) (hok : p.Ok) : PlainAt o (looks o.k) p := by
  subst hl; exact ⟨hk, hv, hi, hb, hc, hp, hD, hM, hok⟩
theorem plain_any (o : OpD) (w : World) (ho : o.Ok) (hi : o.In w) (hD9 : o.D.length ≤ 100000) (hM9 : o.M.length ≤ 100000) : Calls Try.prog 74 [o.val].toArray w (Ret (PlainAt o (looks o.k)) OpD.val OpD.fs w) := by
  have en := ho.a.n
  have em := ho.m.n
  refine g_enter0 T [] [] [sl o.m.A 1 (IE .i64) o.M, sl o.a.A 1 (IE .u8) o.D] Try.func74 rfl Try.ntmps74 rfl (((Kn.start w).argR hi.a (by decide) (fun _ h => by cases h)).argR hi.m (by decide) (fun _ h => by cases h)) ?_
  refine gk_nilsl none 1 (IE .u8) ?_
  refine gk_nilsl none 1 (IE .i64) ?_
  (repeat (refine gG1 ?_; try intro _))
  rename_i g1 g2 g3
  (repeat' (first | (refine gG1 ?_; try intro _) | ((first | refine g_split rfl rfl tE (fun _ => ?_) (fun _ => ?_) | refine gk_cond rfl rfl tE (fun _ => ?_) (fun _ => ?_)) <;> (try first | (exfalso; omega; done) | (rename_i hx; exact absurd rfl hx) | (rename_i hx; cases hx; done)))))
  all_goals first
    | (refine gk_ret hT rfl rfl (.cell rfl mE rfl rfl .nil) (fun w' hk => ?_)
       refine Ret.mk ⟨o.k, _, _, _, _, _, ⟨_, _, _⟩, _, ⟨_, _, _⟩, _⟩ ?_ rfl hk sA
       refine ⟨rfl, ?_, ?_, ?_, ?_, ?_, ?_, ?_, ⟨⟨rfl, Nat.le_refl _, Nat.zero_le _, fun _ => rfl⟩, ⟨rfl, Nat.le_refl _, Nat.zero_le _, fun _ => rfl⟩⟩⟩
       all_goals (simp [looks, *]))
    | (refine gk_drawn_at [2] rfl rfl (by kernel_rfl) ?_
       (repeat (first | refine ga_nil (by decide +kernel) ?_ | refine ga_take (by decide +kernel) rfl rfl (ys_ev (nw := true) hT rfl sI) sF ?_ | refine ga_skip (by decide +kernel) rfl rfl sF ?_ | refine ga_take (by decide +kernel) rfl rfl (ys_blk hT rfl rfl mE rfl rfl) sF ?_ | refine ga_take (by decide +kernel) rfl rfl (ys_row hT rfl rfl mE rfl rfl) sF ?_ | refine ga_take (by decide +kernel) rfl rfl (ys_row0 hT rfl rfl mE rfl rfl) sF ?_ | (refine ga_mv (by decide +kernel) rfl ?_; (first | (refine mv_box rfl rfl rfl rfl ?_; intro _) | (refine mv_alloc rfl hT rfl rfl ?_; intro _) | refine mv_store hT rfl rfl rfl rfl rfl rfl sO rfl ?_ | (refine mv_buildSlice rfl hT rfl rfl rfl rfl rfl rfl rfl rfl ?_; intro _)); refine ⟨sF, ?_⟩) | refine ga_take (by decide +kernel) rfl rfl (ys_eql rfl rfl rfl rfl rfl (by kernel_rfl)) sF ?_ | refine ga_take (by decide +kernel) rfl rfl (ys_neq rfl rfl rfl rfl rfl (by kernel_rfl)) sF ?_))
       (repeat (refine gG1 ?_; try intro _))
       refine gk_ret hT rfl rfl (.cell rfl mE rfl rfl .nil) (fun w' hk => ?_)
       refine Ret.mk ⟨o.k, _, _, _, _, _, ⟨_, _, _⟩, _, ⟨_, _, _⟩, _⟩ ?_ rfl hk sA
       refine ⟨rfl, ?_, ?_, ?_, ?_, ?_, ?_, ?_, ⟨⟨rfl, Nat.le_refl _, Nat.zero_le _, fun _ => rfl⟩, ⟨rfl, Nat.le_refl _, Nat.zero_le _, fun _ => rfl⟩⟩⟩
       all_goals (simp [looks, *]))
    | (refine g_mv rfl ?_
       refine mv_call_ret (fun w hk => clone_I o.m.A o.m.n o.m.c o.M w em (by omega) (hk.pR (sl o.m.A 1 (IE .i64) o.M) mE)) rfl rfl rfl rfl rfl (by kernel_rfl) (fun s hs => ?_)
       (repeat (refine gG1 ?_; try intro _))
       refine gk_ret hT rfl rfl (.cell rfl mE rfl rfl .nil) (fun w' hk => ?_)
       refine Ret.mk ⟨o.k, _, _, _, _, _, ⟨_, _, _⟩, _, ⟨_, _, _⟩, _⟩ ?_ rfl hk sA
       refine ⟨rfl, ?_, ?_, ?_, ?_, ?_, ?_, ?_, ⟨⟨rfl, Nat.le_refl _, Nat.zero_le _, fun _ => rfl⟩, hs⟩⟩
       all_goals (simp [looks, *]))
    | skip
  refine gk_any [2] (Cut _ (fun s : { s : SlV // s.Ok o.D.length } => [(2, .pointer (some ⟨g2, 0, none⟩)), (3, .pointer (some ⟨g3, 0, none⟩))])
    (fun s => [blk g3 [.int .i64 o.k, .int .i64 o.v, .int .i64 0, .int .i64 o.b, .int .i64 0, .int .u64 0, s.1.v, .slice none 0 0] 39, blk g2 [.int .i64 0, .int .i64 0, .int .i64 0, .int .i64 0, .int .i64 0, .int .u64 0, .slice none 0 0, .slice none 0 0] 39, sl s.1.A 1 (IE .u8) o.D, sl none 1 (IE .i64) ([] : List Int)]) (fun _ => [])) rfl rfl (by kernel_rfl) ?_ (cut_k fun s => ?_)
  · skip
    refine gb_take 0 rfl (by decide +kernel) rfl rfl (ys_ev (nw := true) hT rfl sI) sF ?_
    refine gb_take 1 rfl (by decide +kernel) rfl rfl (by first | exact ys_blk hT rfl rfl mE rfl rfl | exact ys_row hT rfl rfl mE rfl rfl | exact ys_row0 hT rfl rfl mE rfl rfl) sF ?_
    refine gb_take 2 rfl (by decide +kernel) rfl rfl (ys_ev (nw := true) hT rfl sI) sF ?_
    refine gb_take 3 rfl (by decide +kernel) rfl rfl (by first | exact ys_blk hT rfl rfl mE rfl rfl | exact ys_row hT rfl rfl mE rfl rfl | exact ys_row0 hT rfl rfl mE rfl rfl) sF ?_
    refine gb_take 4 rfl (by decide +kernel) rfl rfl (ys_ev (nw := true) hT rfl sI) sF ?_
    refine gb_take 5 rfl (by decide +kernel) rfl rfl (by first | exact ys_blk hT rfl rfl mE rfl rfl | exact ys_row hT rfl rfl mE rfl rfl | exact ys_row0 hT rfl rfl mE rfl rfl) sF ?_
    refine gb_take 7 rfl (by decide +kernel) rfl rfl (ys_ev (nw := true) hT rfl sI) sF ?_
    refine gb_all (by decide +kernel) ?_
    refine gball_not (by decide +kernel) ?_
    refine gball_not (by decide +kernel) ?_
    refine gball_not (by decide +kernel) ?_
    refine gball_not (by decide +kernel) ?_
    refine gball_not (by decide +kernel) ?_
    refine gball_not (by decide +kernel) ?_
    refine gball_yes rfl rfl ?_ ?_
    · refine mv_call_ret (fun w hk => clone_B o.a.A o.a.n o.a.c o.D w en (by omega) (hk.pR (sl o.a.A 1 (IE .u8) o.D) mE)) rfl rfl rfl rfl rfl (by kernel_rfl) (fun s hs => ?_)
      refine ⟨sF, ?_⟩
      refine gb_all (by decide +kernel) ?_
      refine gball_not (by decide +kernel) ?_
      refine gball_not (by decide +kernel) ?_
      refine gball_not (by decide +kernel) ?_
      refine gball_not (by decide +kernel) ?_
      refine gball_not (by decide +kernel) ?_
      refine gball_not (by decide +kernel) ?_
      refine gball_not (by decide +kernel) ?_
      refine gball_not (by decide +kernel) ?_
      refine gball_yes rfl rfl ?_ ?_
      · first | (refine mv_box rfl rfl rfl rfl ?_; intro _) | (refine mv_alloc rfl hT rfl rfl ?_; intro _) | refine mv_store hT rfl rfl rfl rfl rfl rfl sO rfl ?_ | (refine mv_buildSlice rfl hT rfl rfl rfl rfl rfl rfl rfl rfl ?_; intro _)
        refine ⟨sF, ?_⟩
        refine gb_take 9 rfl (by decide +kernel) rfl rfl (ys_ev (nw := true) hT rfl sI) sF ?_
        refine gb_all (by decide +kernel) ?_
        refine gball_not (by decide +kernel) ?_
        refine gball_not (by decide +kernel) ?_
        refine gball_not (by decide +kernel) ?_
        refine gball_not (by decide +kernel) ?_
        refine gball_not (by decide +kernel) ?_
        refine gball_not (by decide +kernel) ?_
        refine gball_not (by decide +kernel) ?_
        refine gball_not (by decide +kernel) ?_
        refine gball_not (by decide +kernel) ?_
        refine gball_not (by decide +kernel) ?_
        refine gball_yes rfl rfl ?_ ?_
        · first | (refine mv_box rfl rfl rfl rfl ?_; intro _) | (refine mv_alloc rfl hT rfl rfl ?_; intro _) | refine mv_store hT rfl rfl rfl rfl rfl rfl sO rfl ?_ | (refine mv_buildSlice rfl hT rfl rfl rfl rfl rfl rfl rfl rfl ?_; intro _)
          refine ⟨sF, ?_⟩
          refine gb_take 11 rfl (by decide +kernel) rfl rfl (ys_ev (nw := true) hT rfl sI) sF ?_
          refine gb_all (by decide +kernel) ?_
          refine gball_not (by decide +kernel) ?_
          refine gball_not (by decide +kernel) ?_
          refine gball_not (by decide +kernel) ?_
          refine gball_not (by decide +kernel) ?_
          refine gball_not (by decide +kernel) ?_
          refine gball_not (by decide +kernel) ?_
          refine gball_not (by decide +kernel) ?_
          refine gball_not (by decide +kernel) ?_
          refine gball_not (by decide +kernel) ?_
          refine gball_not (by decide +kernel) ?_
          refine gball_not (by decide +kernel) ?_
          refine gball_not (by decide +kernel) ?_
          refine gball_yes rfl rfl ?_ ?_
          · first | (refine mv_box rfl rfl rfl rfl ?_; intro _) | (refine mv_alloc rfl hT rfl rfl ?_; intro _) | refine mv_store hT rfl rfl rfl rfl rfl rfl sO rfl ?_ | (refine mv_buildSlice rfl hT rfl rfl rfl rfl rfl rfl rfl rfl ?_; intro _)
            refine ⟨sF, ?_⟩
            refine gb_nil (by decide +kernel) ?_
            exact ⟨⟨s, hs⟩, ⟨rfl, rfl, trivial⟩, sA, List.nil_subset _⟩
          exact gball_end (by decide +kernel)
        refine gball_not (by decide +kernel) ?_
        refine gball_not (by decide +kernel) ?_
        exact gball_end (by decide +kernel)
      refine gball_not (by decide +kernel) ?_
      refine gball_not (by decide +kernel) ?_
      refine gball_not (by decide +kernel) ?_
      refine gball_not (by decide +kernel) ?_
      exact gball_end (by decide +kernel)
    refine gball_not (by decide +kernel) ?_
    refine gball_not (by decide +kernel) ?_
    refine gball_not (by decide +kernel) ?_
    refine gball_not (by decide +kernel) ?_
    refine gball_not (by decide +kernel) ?_
    refine gball_not (by decide +kernel) ?_
    exact gball_end (by decide +kernel)
  · (repeat (refine gG1 ?_; try intro _))
    refine gk_ret hT rfl rfl (.cell rfl mE rfl rfl .nil) (fun w' hk => ?_)
    refine Ret.mk ⟨o.k, _, _, _, _, _, s.1, o.D, ⟨_, _, _⟩, _⟩ ?_ rfl hk sA
    refine ⟨rfl, ?_, ?_, ?_, ?_, ?_, ?_, ?_, ⟨s.2, ⟨rfl, Nat.le_refl _, Nat.zero_le _, fun _ => rfl⟩⟩⟩
    all_goals (simp [looks, *])
end Go.Proofs.Yteajefmnbalofaa.OpA
