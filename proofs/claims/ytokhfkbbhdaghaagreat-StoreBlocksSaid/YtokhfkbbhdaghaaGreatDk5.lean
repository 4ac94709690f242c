/- A disk: Write, New. -/
import Derived.Test.YtokhfkbbhdaghaaGreatDk4
namespace Go.Proofs.YtokhfkbbhdaghaaGreat.Dk
open Go.RowKit Mem Gx Bytes
set_option linter.unusedVariables false
set_option linter.unusedSimpArgs false
set_option maxRecDepth 100000
set_option maxHeartbeats 1000000
theorem dwrite_bad (g : Nat) (sv lv : Value) (S : List SecD) (W : List WrD) (a : Int) (bA : Option Addr) (bn bc : Nat) (w : World) (ha : a < 0 ∨ (S.length : Int) ≤ a) (h : Rd1 w (dkF g ⟨sv, lv, S, W⟩)) :
    Calls Tryz.prog 12 [.pointer (some ⟨g, 0, none⟩), .int .i64 a, .slice bA bn bc].toArray w fun e w' => e = .returned (.int .i64 11) ∧ Below w.heap.size w w' := by
  obtain ⟨uA, uc, rfl, _, _, _, _⟩ := own_rdv (α := SecD) (Rd1.unpack h (φ := own 0 23 1 sv SE S) (.tail _ (.head _)))
  refine g_enter0 T [] [] [blk g [.slice uA S.length uc, lv, .bool false, .int .i64 0] 66] Tryz.func12 rfl Tryz.ntmps12 rfl (Rds.cons (Rd1.unpack h (.head _)) .nil).kn ?_
  refine gk_rowR (g := g) mE ?_
  (repeat' (first | (refine gG ?_; try intro _) | ((first | refine g_split rfl rfl tE (fun _ => ?_) (fun _ => ?_) | refine gk_cond rfl rfl tE (fun _ => ?_) (fun _ => ?_)) <;> (try first | (exfalso; omega; done) | (rename_i hx; exact absurd rfl hx) | (rename_i hx; cases hx; done)))))
  all_goals (refine gk_ret hT rfl rfl (.tmp rfl .nil) (fun w' hk => ?_); exact ⟨rfl, hk.toBelow⟩)
theorem dwrite_any (g : Nat) (sv lv : Value) (S : List SecD) (W : List WrD) (a : Nat) (bA : Option Addr) (bn bc : Nat) (B : List Int) (w : World) (ho : DkOk S W) (hl : W.length ≤ 100000) (ha : a < S.length) (hbn : bn = B.length) (hB : SecOk B) (h : Rd1 w (dkF g ⟨sv, lv, S, W⟩)) (hb : Rd1 w (sl bA 1 (IE .u8) B)) (hbd : ∀ b, (dkF g ⟨sv, lv, S, W⟩).S b → ¬ (sl bA 1 (IE .u8) B).S b) :
    Calls Tryz.prog 12 [.pointer (some ⟨g, 0, none⟩), .int .i64 (a : Nat), .slice bA bn bc].toArray w (RetM (dkF g ⟨sv, lv, S, W⟩) (fun q : Value × SecD => q.2.Ok ∧ q.2.L = B) (fun _ => .int .i64 0) (fun q => dkF g ⟨sv, q.1, S, W ++ [(⟨a, q.2⟩ : WrD)]⟩) w) := by
  obtain ⟨uA, uc, rfl, _, _, _, _⟩ := own_rdv (α := SecD) (Rd1.unpack h (φ := own 0 23 1 sv SE S) (.tail _ (.head _)))
  have hk0 : Kn (finE (dkF g ⟨.slice uA S.length uc, lv, S, W⟩) w) w w (dkL g ⟨.slice uA S.length uc, lv, S, W⟩) [sl bA 1 (IE .u8) B] := Kn.startP h (fun b hb => (finE_mem h.2 b).2 hb) (fun ψ hψ => by obtain rfl := List.mem_singleton.1 hψ; exact ⟨hb, hbd⟩)
  have hfin : ∀ b, b ∈ finE (dkF g ⟨.slice uA S.length uc, lv, S, W⟩) w → (dkF g ⟨.slice uA S.length uc, lv, S, W⟩).S b := fun b hb => (finE_mem h.2 b).1 hb
  have hn := ho.n
  have h128 : B.length = 128 := hB.1
  refine g_enter0 T (finE (dkF g ⟨.slice uA S.length uc, lv, S, W⟩) w) [blk g [.slice uA S.length uc, lv, .bool false, .int .i64 0] 66, own 0 23 1 (.slice uA S.length uc) SE S, own 0 71 2 lv WE W, allF S secF, allF W wrF] [sl bA 1 (IE .u8) B] Tryz.func12 rfl Tryz.ntmps12 rfl hk0 ?_
  (repeat' (first | (refine gG ?_; try intro _) | ((first | refine g_split rfl rfl tE (fun _ => ?_) (fun _ => ?_) | refine gk_cond rfl rfl tE (fun _ => ?_) (fun _ => ?_)) <;> (try first | (exfalso; omega; done) | (rename_i hx; exact absurd rfl hx) | (rename_i hx; cases hx; done)))))
  (repeat' (first | (refine gG ?_; try intro _) | (refine g_mv rfl ?_; first | refine mv_call_bel (fun w hk => spend_any g (.slice uA S.length uc) lv w (hk.rO (φ := blk g [.slice uA S.length uc, lv, .bool false, .int .i64 0] 66) mE)) rfl rfl rfl rfl rfl (by kernel_rfl) ?_) | ((first | refine g_split rfl rfl tE (fun _ => ?_) (fun _ => ?_) | refine gk_cond rfl rfl tE (fun _ => ?_) (fun _ => ?_)) <;> (try first | (exfalso; omega; done) | (rename_i hx; exact absurd rfl hx) | (rename_i hx; cases hx; done)))))
  refine gk_any [] (Cut _ (fun _ : Value × {d : SecD // d.Ok ∧ d.L = B} => []) (fun q => [blk g [.slice uA S.length uc, q.1, .bool false, .int .i64 0] 66, own 0 23 1 (.slice uA S.length uc) SE S, own 0 71 2 q.1 WE (W ++ [⟨a, q.2.1⟩]), allF S secF, allF W wrF, secF q.2.1]) (fun _ => [])) rfl rfl (by kernel_rfl) ?_ (cut_k fun q => ?_)
  · skip
    refine gb_take 0 rfl (by decide +kernel) rfl rfl (ys_ev (nw := true) hT rfl sI) sF ?_
    refine gb_take 1 rfl (by decide +kernel) rfl rfl (ys_ev (nw := true) hT rfl sI) sF ?_
    refine gb_take 2 rfl (by decide +kernel) rfl rfl (ys_ev (nw := true) hT rfl sI) sF ?_
    refine gb_take 3 rfl (by decide +kernel) rfl rfl (ys_ev (nw := true) hT rfl sI) sF ?_
    refine gb_take 5 rfl (by decide +kernel) rfl rfl (ys_ev (nw := true) hT rfl sI) sF ?_
    refine gb_take 6 rfl (by decide +kernel) rfl rfl (ys_ev (nw := true) hT rfl sI) sF ?_
    refine gb_all (by decide +kernel) ?_
    refine gball_not (by decide +kernel) ?_
    refine gball_not (by decide +kernel) ?_
    refine gball_not (by decide +kernel) ?_
    refine gball_not (by decide +kernel) ?_
    refine gball_yes rfl rfl ?_ ?_
    · refine mv_yd rfl (yd_load_blk hT rfl rfl mE rfl rfl) ?_
      refine ⟨sF, ?_⟩
      refine gb_only 7 (by decide +kernel) rfl rfl ?_
      refine mv_call_rt (fun w hk => clone_B bA bn bc B w hbn (by omega) (hk.rR (φ := sl bA 1 (IE .u8) B) mE).1) rfl rfl rfl rfl rfl (by kernel_rfl) (fun _ => rfl) (fun ⟨cA, cn, cc⟩ hs => ?_)
      refine ⟨sF, ?_⟩
      try (refine gb_say 32 (.slice cA cn cc) rfl rfl ?_)
      refine gb_take 8 rfl (by decide +kernel) rfl rfl (ys_ev (nw := true) hT rfl sI) sF ?_
      refine gb_only 9 (by decide +kernel) rfl rfl ?_
      first | (refine mv_box rfl rfl rfl rfl ?_; intro _) | (refine mv_alloc rfl hT rfl rfl ?_; intro _) | refine mv_store hT rfl rfl rfl rfl rfl rfl sO rfl ?_ | (refine mv_buildSlice rfl hT rfl rfl rfl rfl rfl rfl rfl rfl ?_; intro _)
      refine ⟨sF, ?_⟩
      refine gb_only 10 (by decide +kernel) rfl rfl ?_
      refine mv_append (L := W) rfl [(⟨a, ⟨⟨cA, cn, cc⟩, B⟩⟩ : WrD)] rfl rfl rfl rfl elt_W (by intro _; first | ((repeat (first | with_reducible exact Upd.here _ | with_reducible apply Upd.there)); done) | ((repeat (first | exact Upd.here _ | apply Upd.there)); done) | fail) (src_blk mE rfl) rfl oneW (by simp only [maxLen, List.length_cons, List.length_nil]; omega) (by simp only [List.length_cons, List.length_nil]; omega) (Nat.zero_le _) (fun v1 => ?_)
      refine ⟨sF, ?_⟩
      refine gb_ownv v1 mE (fun A1 c1 hv1 _ _ _ => ?_); subst hv1
      refine gb_take 11 rfl (by decide +kernel) rfl rfl (ys_ev (nw := true) hT rfl sI) sF ?_
      refine gb_take 12 rfl (by decide +kernel) rfl rfl (ys_ev (nw := true) hT rfl sI) sF ?_
      refine gb_only 13 (by decide +kernel) rfl rfl ?_
      first | (refine mv_box rfl rfl rfl rfl ?_; intro _) | (refine mv_alloc rfl hT rfl rfl ?_; intro _) | refine mv_store hT rfl rfl rfl rfl rfl rfl sO rfl ?_ | (refine mv_buildSlice rfl hT rfl rfl rfl rfl rfl rfl rfl rfl ?_; intro _)
      refine ⟨sF, ?_⟩
      refine gb_nil (by decide +kernel) ?_
      exact ⟨(.slice A1 (W ++ [(⟨a, ⟨⟨cA, cn, cc⟩, B⟩⟩ : WrD)]).length c1, ⟨⟨⟨cA, cn, cc⟩, B⟩, ⟨hs, hB⟩, rfl⟩), (by repeat (first | exact trivial | refine ⟨rfl, ?_⟩)), sA, sS⟩
    refine gball_not (by decide +kernel) ?_
    refine gball_not (by decide +kernel) ?_
    refine gball_yes rfl rfl ?_ ?_
    · refine mv_call_rt (fun w hk => clone_B bA bn bc B w hbn (by omega) (hk.rR (φ := sl bA 1 (IE .u8) B) mE).1) rfl rfl rfl rfl rfl (by kernel_rfl) (fun _ => rfl) (fun ⟨cA, cn, cc⟩ hs => ?_)
      refine ⟨sF, ?_⟩
      try (refine gb_say 32 (.slice cA cn cc) rfl rfl ?_)
      refine gb_take 8 rfl (by decide +kernel) rfl rfl (ys_ev (nw := true) hT rfl sI) sF ?_
      refine gb_all (by decide +kernel) ?_
      refine gball_not (by decide +kernel) ?_
      refine gball_not (by decide +kernel) ?_
      refine gball_not (by decide +kernel) ?_
      refine gball_not (by decide +kernel) ?_
      refine gball_yes rfl rfl ?_ ?_
      · refine mv_yd rfl (yd_load_blk hT rfl rfl mE rfl rfl) ?_
        refine ⟨sF, ?_⟩
        refine gb_only 9 (by decide +kernel) rfl rfl ?_
        first | (refine mv_box rfl rfl rfl rfl ?_; intro _) | (refine mv_alloc rfl hT rfl rfl ?_; intro _) | refine mv_store hT rfl rfl rfl rfl rfl rfl sO rfl ?_ | (refine mv_buildSlice rfl hT rfl rfl rfl rfl rfl rfl rfl rfl ?_; intro _)
        refine ⟨sF, ?_⟩
        refine gb_only 10 (by decide +kernel) rfl rfl ?_
        refine mv_append (L := W) rfl [(⟨a, ⟨⟨cA, cn, cc⟩, B⟩⟩ : WrD)] rfl rfl rfl rfl elt_W (by intro _; first | ((repeat (first | with_reducible exact Upd.here _ | with_reducible apply Upd.there)); done) | ((repeat (first | exact Upd.here _ | apply Upd.there)); done) | fail) (src_blk mE rfl) rfl oneW (by simp only [maxLen, List.length_cons, List.length_nil]; omega) (by simp only [List.length_cons, List.length_nil]; omega) (Nat.zero_le _) (fun v1 => ?_)
        refine ⟨sF, ?_⟩
        refine gb_ownv v1 mE (fun A1 c1 hv1 _ _ _ => ?_); subst hv1
        refine gb_take 11 rfl (by decide +kernel) rfl rfl (ys_ev (nw := true) hT rfl sI) sF ?_
        refine gb_take 12 rfl (by decide +kernel) rfl rfl (ys_ev (nw := true) hT rfl sI) sF ?_
        refine gb_only 13 (by decide +kernel) rfl rfl ?_
        first | (refine mv_box rfl rfl rfl rfl ?_; intro _) | (refine mv_alloc rfl hT rfl rfl ?_; intro _) | refine mv_store hT rfl rfl rfl rfl rfl rfl sO rfl ?_ | (refine mv_buildSlice rfl hT rfl rfl rfl rfl rfl rfl rfl rfl ?_; intro _)
        refine ⟨sF, ?_⟩
        refine gb_nil (by decide +kernel) ?_
        exact ⟨(.slice A1 (W ++ [(⟨a, ⟨⟨cA, cn, cc⟩, B⟩⟩ : WrD)]).length c1, ⟨⟨⟨cA, cn, cc⟩, B⟩, ⟨hs, hB⟩, rfl⟩), (by repeat (first | exact trivial | refine ⟨rfl, ?_⟩)), sA, sS⟩
      refine gball_not (by decide +kernel) ?_
      refine gball_not (by decide +kernel) ?_
      refine gball_not (by decide +kernel) ?_
      refine gball_not (by decide +kernel) ?_
      refine gball_yes rfl rfl ?_ ?_
      · first | (refine mv_box rfl rfl rfl rfl ?_; intro _) | (refine mv_alloc rfl hT rfl rfl ?_; intro _) | refine mv_store hT rfl rfl rfl rfl rfl rfl sO rfl ?_ | (refine mv_buildSlice rfl hT rfl rfl rfl rfl rfl rfl rfl rfl ?_; intro _)
        refine ⟨sF, ?_⟩
        refine gb_only 4 (by decide +kernel) rfl rfl ?_
        refine mv_yd rfl (yd_load_blk hT rfl rfl mE rfl rfl) ?_
        refine ⟨sF, ?_⟩
        refine gb_only 10 (by decide +kernel) rfl rfl ?_
        refine mv_append (L := W) rfl [(⟨a, ⟨⟨cA, cn, cc⟩, B⟩⟩ : WrD)] rfl rfl rfl rfl elt_W (by intro _; first | ((repeat (first | with_reducible exact Upd.here _ | with_reducible apply Upd.there)); done) | ((repeat (first | exact Upd.here _ | apply Upd.there)); done) | fail) (src_blk mE rfl) rfl oneW (by simp only [maxLen, List.length_cons, List.length_nil]; omega) (by simp only [List.length_cons, List.length_nil]; omega) (Nat.zero_le _) (fun v1 => ?_)
        refine ⟨sF, ?_⟩
        refine gb_ownv v1 mE (fun A1 c1 hv1 _ _ _ => ?_); subst hv1
        refine gb_take 11 rfl (by decide +kernel) rfl rfl (ys_ev (nw := true) hT rfl sI) sF ?_
        refine gb_take 12 rfl (by decide +kernel) rfl rfl (ys_ev (nw := true) hT rfl sI) sF ?_
        refine gb_only 13 (by decide +kernel) rfl rfl ?_
        first | (refine mv_box rfl rfl rfl rfl ?_; intro _) | (refine mv_alloc rfl hT rfl rfl ?_; intro _) | refine mv_store hT rfl rfl rfl rfl rfl rfl sO rfl ?_ | (refine mv_buildSlice rfl hT rfl rfl rfl rfl rfl rfl rfl rfl ?_; intro _)
        refine ⟨sF, ?_⟩
        refine gb_nil (by decide +kernel) ?_
        exact ⟨(.slice A1 (W ++ [(⟨a, ⟨⟨cA, cn, cc⟩, B⟩⟩ : WrD)]).length c1, ⟨⟨⟨cA, cn, cc⟩, B⟩, ⟨hs, hB⟩, rfl⟩), (by repeat (first | exact trivial | refine ⟨rfl, ?_⟩)), sA, sS⟩
      refine gball_not (by decide +kernel) ?_
      refine gball_not (by decide +kernel) ?_
      refine gball_not (by decide +kernel) ?_
      refine gball_not (by decide +kernel) ?_
      exact gball_end (by decide +kernel)
    refine gball_not (by decide +kernel) ?_
    refine gball_not (by decide +kernel) ?_
    refine gball_not (by decide +kernel) ?_
    refine gball_not (by decide +kernel) ?_
    refine gball_not (by decide +kernel) ?_
    refine gball_not (by decide +kernel) ?_
    exact gball_end (by decide +kernel)
  · obtain ⟨v1, d, hd, hdB⟩ := q
    dsimp only
    (repeat (refine gG ?_; try intro _))
    refine gk_derO [allF W wrF, secF d] [blk g [.slice uA S.length uc, v1, .bool false, .int .i64 0] 66, own 0 23 1 (.slice uA S.length uc) SE S, own 0 71 2 v1 WE (W ++ [⟨a, d⟩]), allF S secF] (all_snoc (x := ⟨a, d⟩)) sA ?_
    refine gk_ret hT rfl rfl (.tmp rfl .nil) (fun w' hk => ?_)
    exact RetM.mkP (ll := fun q : Value × SecD => dkL g ⟨.slice uA S.length uc, q.1, S, W ++ [(⟨a, q.2⟩ : WrD)]⟩) (v1, d) ⟨hd, hdB⟩ rfl hk hfin sA
end Go.Proofs.YtokhfkbbhdaghaaGreat.Dk
