/- tree.Ceil. -/
import Derived.Test.YtajmjfnecmknnaaTq
namespace Go.Proofs.Ytajmjfnecmknnaa.Tw
open Go.RowKit Mem Nd Gx Sk
open Tr hiding T row
set_option linter.unusedVariables false
set_option linter.unusedSimpArgs false
set_option maxRecDepth 100000
set_option maxHeartbeats 4000000
theorem ents_first {h : Nat} {t : Tr.T (h + 1)} {c : Tr.T h} (ok : Tr.Ok (h + 1) t) (hc : t.2[0]? = some c) : (ents (h + 1) t)[0]? = (ents h c)[0]? := by
  show ((t.2.map (ents h)).flatten)[0]? = _
  obtain ⟨d, ks⟩ := t
  match ks, hc with
  | x :: r, hc =>
    have hx : x = c := Option.some.inj hc
    subst hx
    have hp := (first_key h x (ok.2.2 x (.head _))).1
    show (ents h x ++ (r.map (ents h)).flatten)[0]? = _
    rw [List.getElem?_append_left hp]
theorem drop_first {h : Nat} {ks : List (Tr.T h)} {j : Nat} {c : Tr.T h} (ok : ∀ k ∈ ks, Tr.Ok h k) (hc : ks[j]? = some c) (R : List EntD) : (((ks.map (ents h)).drop j).flatten ++ R)[0]? = (ents h c)[0]? := by
  have hj := (List.getElem?_eq_some_iff.1 hc)
  obtain ⟨hj1, hj2⟩ := hj
  rw [← List.map_drop, List.drop_eq_getElem_cons hj1, hj2]
  have hp := (first_key h c (ok c (List.mem_of_getElem? hc))).1
  show (ents h c ++ (((ks.drop (j + 1)).map (ents h)).flatten) ++ R)[0]? = _
  rw [List.append_assoc, List.getElem?_append_left hp]
/-- What Ceil is at when it comes up again. -/
structure CeL where
  h : Nat
  c : Tr.T h
  A : List EntD
  C : List EntD
  xs : List (Nat × Nat)
  g : Nat
theorem ceil_any {H : Nat} (t : Tr.T H) (k : KeyD) (L : List EntD) (tg : Nat) (n : Int) (w : World) (hh : Has H t L) (h9 : L.length ≤ 160) (hB : Rd1 w (blk tg [.pointer (some ⟨(nd H t).g, 0, none⟩), .int .i64 n] 49)) (hF : Rd1 w (treeF H t)) :
    Calls Try.prog 65 [.pointer (some ⟨tg, 0, none⟩), k.val].toArray w (Ret (fun p : Nat => PosK (keysOf L) k p) (fun p => .tuple #[oV L[p]?, .bool L[p]?.isSome]) (fun _ => []) w) := by
  have ha : AscK (keysOf (ents H t)) := by rw [hh.row]; exact hh.asc
  have hH : H ≤ 3 := hh.low h9
  refine g_enter0 T [] [] [blk tg [.pointer (some ⟨(nd H t).g, 0, none⟩), .int .i64 n] 49, treeF H t] Try.func65 rfl Try.ntmps65 rfl (Rds.cons hB (.cons hF .nil)).kn ?_
  (repeat (first | refine g_nil ?_ | refine g_pure true hT rfl rfl rfl sI ?_ | refine g_skip rfl rfl ?_ | refine g_skip0 rfl rfl ?_ | refine gk_region rfl ?_ | refine gk_cond_t rfl rfl ?_ | refine gk_cond_f rfl rfl ?_ | refine g_yd rfl rfl (yd_load_blk hT rfl rfl mE rfl rfl) ?_ | refine g_yd rfl rfl (yd_load_row hT rfl rfl mE rfl rfl) ?_ | refine g_yd rfl rfl (yd_load_row0 hT rfl rfl mE rfl rfl) ?_ | refine g_yd rfl rfl (yd_eql rfl rfl rfl rfl rfl (by kernel_rfl)) ?_ | refine g_yd rfl rfl (yd_neq rfl rfl rfl rfl rfl (by kernel_rfl)) ?_ | refine g_yd rfl rfl (yd_index hT rfl rfl rfl sI rfl) ?_ | refine g_yd rfl rfl (yd_slice_nil hT rfl rfl rfl rfl) ?_ | refine g_yd rfl rfl (yd_build_arr hT rfl rfl rfl rfl rfl rfl) ?_ | (refine g_mv rfl ?_; first | (refine mv_box rfl rfl rfl rfl ?_; intro _) | (refine mv_alloc rfl hT rfl rfl ?_; intro _) | refine mv_store hT rfl rfl rfl rfl rfl rfl sO rfl ?_ | (refine mv_buildSlice rfl hT rfl rfl rfl rfl rfl rfl rfl rfl ?_; intro _)) | refine g_yd rfl rfl (Ys.yd (ys_str_eql hT rfl rfl rfl rfl)) ?_ | refine g_yd rfl rfl (Ys.yd (ys_str_neq hT rfl rfl rfl rfl)) ?_))
  rename_i g3 g4
  refine g_mv rfl ?_; refine mv_call_rt (fun w hk => way_any t k tg n w hh.ok hh.size ha (by omega) (hk.rR mE) (hk.rR mE)) rfl rfl rfl rfl rfl (by kernel_rfl) (fun _ => rfl) (fun pw hp => ?_)
  obtain ⟨sg, xs, lf, A, C⟩ := pw
  replace hp : Pth t k 0 lf xs A C := hp
  have hok := hp.ok hh.ok
  have hasc := hp.asc ha
  have hll := hp.len
  have hsz := root_ln (pth_size hp hh.size)
  have hlf : IsLeaf lf.2 (nd 0 lf) := hok.1
  have hl6 : lf.2.length ≤ 6 := hsz
  have hKs : (nd 0 lf).Ks = keysOf lf.2 := hlf.Ks
  have hKn : (nd 0 lf).K.n = (keysOf lf.2).length := by rw [hlf.ok.K.n, hKs]
  have hKl : (keysOf lf.2).length = lf.2.length := List.length_map ..
  (repeat (first | refine g_nil ?_ | refine g_pure true hT rfl rfl rfl sI ?_ | refine g_skip rfl rfl ?_ | refine g_skip0 rfl rfl ?_ | refine gk_region rfl ?_ | refine gk_cond_t rfl rfl ?_ | refine gk_cond_f rfl rfl ?_ | refine g_yd rfl rfl (yd_load_blk hT rfl rfl mE rfl rfl) ?_ | refine g_yd rfl rfl (yd_load_row hT rfl rfl mE rfl rfl) ?_ | refine g_yd rfl rfl (yd_load_row0 hT rfl rfl mE rfl rfl) ?_ | refine g_yd rfl rfl (yd_eql rfl rfl rfl rfl rfl (by kernel_rfl)) ?_ | refine g_yd rfl rfl (yd_neq rfl rfl rfl rfl rfl (by kernel_rfl)) ?_ | refine g_yd rfl rfl (yd_index hT rfl rfl rfl sI rfl) ?_ | refine g_yd rfl rfl (yd_slice_nil hT rfl rfl rfl rfl) ?_ | refine g_yd rfl rfl (yd_build_arr hT rfl rfl rfl rfl rfl rfl) ?_ | (refine g_mv rfl ?_; first | (refine mv_box rfl rfl rfl rfl ?_; intro _) | (refine mv_alloc rfl hT rfl rfl ?_; intro _) | refine mv_store hT rfl rfl rfl rfl rfl rfl sO rfl ?_ | (refine mv_buildSlice rfl hT rfl rfl rfl rfl rfl rfl rfl rfl ?_; intro _)) | refine g_yd rfl rfl (Ys.yd (ys_str_eql hT rfl rfl rfl rfl)) ?_ | refine g_yd rfl rfl (Ys.yd (ys_str_neq hT rfl rfl rfl rfl)) ?_))
  refine gk_der [treeF H t] ((der_nd lf).trans fun ψ hψ => by obtain rfl := List.mem_singleton.1 hψ; exact der_pth hp) sS ?_
  refine gk_nB (d := nd 0 lf) mE ?_
  refine gk_nK (d := nd 0 lf) mE ?_
  rw [hKs]
  refine gk_any [2, 4] (Cut _ (fun q : { q : Nat // PosK (keysOf lf.2) k q } => [(4, .pointer (some ⟨g4, 0, none⟩)), (6, .pointer (some ⟨sg, 0, none⟩)), (7, .pointer (some ⟨(nd 0 lf).g, 0, none⟩)), (8, .int .i64 (q.1 : Int))]) (fun _ => [blk sg (stC xs) 122, blk g4 [.int .u16 0, .int .u32 0, .int .u64 0, .int .u32 0] 29]) (fun _ => [nodeF (nd 0 lf), treeF H t])) rfl rfl (by kernel_rfl) ?_ (cut_k fun q => ?_)
  · skip
    refine gb_take 0 rfl (by decide +kernel) rfl rfl (ys_ev (nw := true) hT rfl sI) sF ?_
    refine gb_take 1 rfl (by decide +kernel) rfl rfl (ys_ev (nw := true) hT rfl sI) sF ?_
    refine gb_take 2 rfl (by decide +kernel) rfl rfl (ys_ev (nw := true) hT rfl sI) sF ?_
    refine gb_take 3 rfl (by decide +kernel) rfl rfl (by first | exact ys_blk hT rfl rfl mE rfl rfl | exact ys_row hT rfl rfl mE rfl rfl | exact ys_row0 hT rfl rfl mE rfl rfl) sF ?_
    try (refine gb_say 25 (.slice (nd 0 lf).K.A (nd 0 lf).K.n (nd 0 lf).K.c) rfl rfl ?_)
    refine gb_take 4 rfl (by decide +kernel) rfl rfl (by first | exact ys_blk hT rfl rfl mE rfl rfl | exact ys_row hT rfl rfl mE rfl rfl | exact ys_row0 hT rfl rfl mE rfl rfl) sF ?_
    refine gb_only 5 (by decide +kernel) rfl rfl ?_
    refine mv_call_rt (fun w hk => bsearch_any (nd 0 lf).K.A (nd 0 lf).K.n (nd 0 lf).K.c (keysOf lf.2) k w hKn (by omega) hasc (hk.pR (sl (nd 0 lf).K.A 3 KE (keysOf lf.2)) mE)) rfl rfl rfl rfl rfl (by kernel_rfl) (fun _ => rfl) (fun q hq => ?_)
    refine ⟨sF, ?_⟩
    refine gb_take 6 rfl (by decide +kernel) rfl rfl (ys_ev (nw := true) hT rfl sI) sF ?_
    refine gb_take 7 rfl (by decide +kernel) rfl rfl (ys_ev (nw := true) hT rfl sI) sF ?_
    refine gb_take 8 rfl (by decide +kernel) rfl rfl (ys_ev (nw := true) hT rfl sI) sF ?_
    refine gb_take 9 rfl (by decide +kernel) rfl rfl (ys_ev (nw := true) hT rfl sI) sF ?_
    refine gb_take 10 rfl (by decide +kernel) rfl rfl (ys_ev (nw := true) hT rfl sI) sF ?_
    refine gb_nil (by decide +kernel) ?_
    exact ⟨⟨q, hq⟩, (by repeat (first | exact trivial | refine ⟨rfl, ?_⟩)), sA, sS⟩
  · obtain ⟨q, hq⟩ := q
    dsimp only
    have hql := hq.le
    rw [hKl] at hql
    obtain ⟨hL, hpL, hfd, hget⟩ := way_pos hp hh hq
    have hce : L[A.length + q]? = if q < lf.2.length then lf.2[q]? else C[0]? := by
      rw [hL]; exact ceil_mid hql
    have hKnl : (nd 0 lf).K.n = lf.2.length := by rw [hKn, hKl]
    by_cases hlt : q < lf.2.length
    · obtain ⟨y, hy⟩ : ∃ y, lf.2[q]? = some y := ⟨lf.2[q], List.getElem?_eq_getElem hlt⟩
      (repeat' (first | (first | refine g_nil ?_ | refine g_pure true hT rfl rfl rfl sI ?_ | refine g_skip rfl rfl ?_ | refine g_skip0 rfl rfl ?_ | refine gk_region rfl ?_ | refine gk_cond_t rfl rfl ?_ | refine gk_cond_f rfl rfl ?_ | refine g_yd rfl rfl (yd_load_blk hT rfl rfl mE rfl rfl) ?_ | refine g_yd rfl rfl (yd_load_row hT rfl rfl mE rfl rfl) ?_ | refine g_yd rfl rfl (yd_load_row0 hT rfl rfl mE rfl rfl) ?_ | refine g_yd rfl rfl (yd_eql rfl rfl rfl rfl rfl (by kernel_rfl)) ?_ | refine g_yd rfl rfl (yd_neq rfl rfl rfl rfl rfl (by kernel_rfl)) ?_ | refine g_yd rfl rfl (yd_index hT rfl rfl rfl sI rfl) ?_ | refine g_yd rfl rfl (yd_slice_nil hT rfl rfl rfl rfl) ?_ | refine g_yd rfl rfl (yd_build_arr hT rfl rfl rfl rfl rfl rfl) ?_ | (refine g_mv rfl ?_; first | (refine mv_box rfl rfl rfl rfl ?_; intro _) | (refine mv_alloc rfl hT rfl rfl ?_; intro _) | refine mv_store hT rfl rfl rfl rfl rfl rfl sO rfl ?_ | (refine mv_buildSlice rfl hT rfl rfl rfl rfl rfl rfl rfl rfl ?_; intro _)) | refine g_yd rfl rfl (Ys.yd (ys_str_eql hT rfl rfl rfl rfl)) ?_ | refine g_yd rfl rfl (Ys.yd (ys_str_neq hT rfl rfl rfl rfl)) ?_) | (refine g_mv rfl ?_; first | refine mv_call_bel (fun w hk => nlen_any (nd 0 lf).g [] (nd 0 lf).leaf (nd 0 lf).K (nd 0 lf).V (nd 0 lf).C (nd 0 lf).a w (rd_nb (hk.rR (φ := nodeF (nd 0 lf)) mE)).1) rfl rfl rfl rfl rfl (by kernel_rfl) ?_ | refine mv_call_bel (fun w hk => entry_any (nd 0 lf) lf.2 q y w hlf (by omega) hy (hk.rR mE)) rfl rfl rfl rfl rfl (by kernel_rfl) ?_) | ((first | refine g_split rfl rfl tE (fun _ => ?_) (fun _ => ?_) | refine gk_cond rfl rfl tE (fun _ => ?_) (fun _ => ?_)) <;> (try first | (exfalso; omega; done) | (rename_i hx; exact absurd rfl hx) | (rename_i hx; cases hx; done)))))
      refine gk_ret hT rfl rfl (.cell rfl mE rfl rfl (.tmp rfl .nil)) (fun w' hk => ?_)
      exact Ret.mk (A.length + q) hpL (by rw [hce, if_pos hlt, hy]; rfl) hk sA
    · rw [if_neg hlt] at hce
      (repeat' (first | (first | refine g_nil ?_ | refine g_pure true hT rfl rfl rfl sI ?_ | refine g_skip rfl rfl ?_ | refine g_skip0 rfl rfl ?_ | refine gk_region rfl ?_ | refine gk_cond_t rfl rfl ?_ | refine gk_cond_f rfl rfl ?_ | refine g_yd rfl rfl (yd_load_blk hT rfl rfl mE rfl rfl) ?_ | refine g_yd rfl rfl (yd_load_row hT rfl rfl mE rfl rfl) ?_ | refine g_yd rfl rfl (yd_load_row0 hT rfl rfl mE rfl rfl) ?_ | refine g_yd rfl rfl (yd_eql rfl rfl rfl rfl rfl (by kernel_rfl)) ?_ | refine g_yd rfl rfl (yd_neq rfl rfl rfl rfl rfl (by kernel_rfl)) ?_ | refine g_yd rfl rfl (yd_index hT rfl rfl rfl sI rfl) ?_ | refine g_yd rfl rfl (yd_slice_nil hT rfl rfl rfl rfl) ?_ | refine g_yd rfl rfl (yd_build_arr hT rfl rfl rfl rfl rfl rfl) ?_ | (refine g_mv rfl ?_; first | (refine mv_box rfl rfl rfl rfl ?_; intro _) | (refine mv_alloc rfl hT rfl rfl ?_; intro _) | refine mv_store hT rfl rfl rfl rfl rfl rfl sO rfl ?_ | (refine mv_buildSlice rfl hT rfl rfl rfl rfl rfl rfl rfl rfl ?_; intro _)) | refine g_yd rfl rfl (Ys.yd (ys_str_eql hT rfl rfl rfl rfl)) ?_ | refine g_yd rfl rfl (Ys.yd (ys_str_neq hT rfl rfl rfl rfl)) ?_) | (refine g_mv rfl ?_; first | refine mv_call_bel (fun w hk => nlen_any (nd 0 lf).g [] (nd 0 lf).leaf (nd 0 lf).K (nd 0 lf).V (nd 0 lf).C (nd 0 lf).a w (rd_nb (hk.rR (φ := nodeF (nd 0 lf)) mE)).1) rfl rfl rfl rfl rfl (by kernel_rfl) ?_) | ((first | refine g_split rfl rfl tE (fun _ => ?_) (fun _ => ?_) | refine gk_cond rfl rfl tE (fun _ => ?_) (fun _ => ?_)) <;> (try first | (exfalso; omega; done) | (rename_i hx; exact absurd rfl hx) | (rename_i hx; cases hx; done)))))
      refine g_mv rfl ?_; refine mv_call_w (fun w hk => spop_any sg xs w (by omega) (hk.pO (blk sg (stC xs) 122) mE)) rfl rfl rfl rfl rfl (by kernel_rfl) (by intro _; repeat (first | exact Upd.here _ | apply Upd.there)) (fun ψ hψ => by first | (cases hψ; done) | (obtain rfl := List.mem_singleton.1 hψ; exact mE)) (fun _ => rfl) (fun _ => rfl) (fun _ _ => ?_)
      (repeat (first | refine g_nil ?_ | refine g_pure true hT rfl rfl rfl sI ?_ | refine g_skip rfl rfl ?_ | refine g_skip0 rfl rfl ?_ | refine gk_region rfl ?_ | refine gk_cond_t rfl rfl ?_ | refine gk_cond_f rfl rfl ?_ | refine g_yd rfl rfl (yd_load_blk hT rfl rfl mE rfl rfl) ?_ | refine g_yd rfl rfl (yd_load_row hT rfl rfl mE rfl rfl) ?_ | refine g_yd rfl rfl (yd_load_row0 hT rfl rfl mE rfl rfl) ?_ | refine g_yd rfl rfl (yd_eql rfl rfl rfl rfl rfl (by kernel_rfl)) ?_ | refine g_yd rfl rfl (yd_neq rfl rfl rfl rfl rfl (by kernel_rfl)) ?_ | refine g_yd rfl rfl (yd_index hT rfl rfl rfl sI rfl) ?_ | refine g_yd rfl rfl (yd_slice_nil hT rfl rfl rfl rfl) ?_ | refine g_yd rfl rfl (yd_build_arr hT rfl rfl rfl rfl rfl rfl) ?_ | (refine g_mv rfl ?_; first | (refine mv_box rfl rfl rfl rfl ?_; intro _) | (refine mv_alloc rfl hT rfl rfl ?_; intro _) | refine mv_store hT rfl rfl rfl rfl rfl rfl sO rfl ?_ | (refine mv_buildSlice rfl hT rfl rfl rfl rfl rfl rfl rfl rfl ?_; intro _)) | refine g_yd rfl rfl (Ys.yd (ys_str_eql hT rfl rfl rfl rfl)) ?_ | refine g_yd rfl rfl (Ys.yd (ys_str_neq hT rfl rfl rfl rfl)) ?_))
      refine g_mv rfl (mv_store hT rfl rfl rfl rfl rfl (p_one xs) sO rfl ?_)
      (repeat (first | refine g_nil ?_ | refine g_pure true hT rfl rfl rfl sI ?_ | refine g_skip rfl rfl ?_ | refine g_skip0 rfl rfl ?_ | refine gk_region rfl ?_ | refine gk_cond_t rfl rfl ?_ | refine gk_cond_f rfl rfl ?_ | refine g_yd rfl rfl (yd_load_blk hT rfl rfl mE rfl rfl) ?_ | refine g_yd rfl rfl (yd_load_row hT rfl rfl mE rfl rfl) ?_ | refine g_yd rfl rfl (yd_load_row0 hT rfl rfl mE rfl rfl) ?_ | refine g_yd rfl rfl (yd_eql rfl rfl rfl rfl rfl (by kernel_rfl)) ?_ | refine g_yd rfl rfl (yd_neq rfl rfl rfl rfl rfl (by kernel_rfl)) ?_ | refine g_yd rfl rfl (yd_index hT rfl rfl rfl sI rfl) ?_ | refine g_yd rfl rfl (yd_slice_nil hT rfl rfl rfl rfl) ?_ | refine g_yd rfl rfl (yd_build_arr hT rfl rfl rfl rfl rfl rfl) ?_ | (refine g_mv rfl ?_; first | (refine mv_box rfl rfl rfl rfl ?_; intro _) | (refine mv_alloc rfl hT rfl rfl ?_; intro _) | refine mv_store hT rfl rfl rfl rfl rfl rfl sO rfl ?_ | (refine mv_buildSlice rfl hT rfl rfl rfl rfl rfl rfl rfl rfl ?_; intro _)) | refine g_yd rfl rfl (Ys.yd (ys_str_eql hT rfl rfl rfl rfl)) ?_ | refine g_yd rfl rfl (Ys.yd (ys_str_neq hT rfl rfl rfl rfl)) ?_))
      rename_i g10
      refine gk_loop_sel (fun (z : CeL) => (Pth t k z.h z.c z.xs z.A z.C ∧ z.C[0]? = C[0]?)) (fun (z : CeL) => [(4, .pointer (some ⟨g4, 0, none⟩)), (6, .pointer (some ⟨sg, 0, none⟩)), (10, .pointer (some ⟨z.g, 0, none⟩)), (11, .bool (!z.xs.isEmpty))]) (fun (z : CeL) => [blk z.g [pA z.xs, pI z.xs] 93, blk sg (stC z.xs.dropLast) 122, blk g4 [.int .u16 0, .int .u32 0, .int .u64 0, .int .u32 0] 29]) (fun (z : CeL) => [treeF H t]) (fun (z : CeL) => z.xs.length) ⟨0, lf, A, C, xs, g10⟩ rfl ⟨hp, rfl⟩ (by repeat (first | exact trivial | refine ⟨rfl, ?_⟩)) sA sS ?_
      rintro z hI
      replace hI : (Pth t k z.h z.c z.xs z.A z.C ∧ z.C[0]? = C[0]?) := hI
      change GK _ _ [(4, .pointer (some ⟨g4, 0, none⟩)), (6, .pointer (some ⟨sg, 0, none⟩)), (10, .pointer (some ⟨z.g, 0, none⟩)), (11, .bool (!z.xs.isEmpty))] [blk z.g [pA z.xs, pI z.xs] 93, blk sg (stC z.xs.dropLast) 122, blk g4 [.int .u16 0, .int .u32 0, .int .u64 0, .int .u32 0] 29] [treeF H t]
      obtain ⟨h, c, A1, C1, xs1, g11⟩ := z
      obtain ⟨zp, hC1⟩ := hI
      dsimp only at zp hC1
      change GK _ _ [(4, .pointer (some ⟨g4, 0, none⟩)), (6, .pointer (some ⟨sg, 0, none⟩)), (10, .pointer (some ⟨g11, 0, none⟩)), (11, .bool (!xs1.isEmpty))] [blk g11 [pA xs1, pI xs1] 93, blk sg (stC xs1.dropLast) 122, blk g4 [.int .u16 0, .int .u32 0, .int .u64 0, .int .u32 0] 29] [treeF H t]
      rcases List.eq_nil_or_concat xs1 with rfl | ⟨l, x, rfl⟩
      · have hC0 := (zp.top (P := fun _ _ => True) trivial).2
        rw [hC0] at hC1
        (repeat (first | refine g_nil ?_ | refine g_pure true hT rfl rfl rfl sI ?_ | refine g_skip rfl rfl ?_ | refine g_skip0 rfl rfl ?_ | refine gk_region rfl ?_ | refine gk_cond_t rfl rfl ?_ | refine gk_cond_f rfl rfl ?_ | refine g_yd rfl rfl (yd_load_blk hT rfl rfl mE rfl rfl) ?_ | refine g_yd rfl rfl (yd_load_row hT rfl rfl mE rfl rfl) ?_ | refine g_yd rfl rfl (yd_load_row0 hT rfl rfl mE rfl rfl) ?_ | refine g_yd rfl rfl (yd_eql rfl rfl rfl rfl rfl (by kernel_rfl)) ?_ | refine g_yd rfl rfl (yd_neq rfl rfl rfl rfl rfl (by kernel_rfl)) ?_ | refine g_yd rfl rfl (yd_index hT rfl rfl rfl sI rfl) ?_ | refine g_yd rfl rfl (yd_slice_nil hT rfl rfl rfl rfl) ?_ | refine g_yd rfl rfl (yd_build_arr hT rfl rfl rfl rfl rfl rfl) ?_ | (refine g_mv rfl ?_; first | (refine mv_box rfl rfl rfl rfl ?_; intro _) | (refine mv_alloc rfl hT rfl rfl ?_; intro _) | refine mv_store hT rfl rfl rfl rfl rfl rfl sO rfl ?_ | (refine mv_buildSlice rfl hT rfl rfl rfl rfl rfl rfl rfl rfl ?_; intro _)) | refine g_yd rfl rfl (Ys.yd (ys_str_eql hT rfl rfl rfl rfl)) ?_ | refine g_yd rfl rfl (Ys.yd (ys_str_neq hT rfl rfl rfl rfl)) ?_))
        refine gk_ret hT rfl rfl (.cell rfl mE rfl rfl (.tmp rfl .nil)) (fun w' hk => ?_)
        exact Ret.mk (A.length + q) hpL (by rw [hce, ← hC1]; rfl) hk sA
      · rw [List.concat_eq_append] at zp ⊢
        obtain ⟨s, A', C', k1, hps, hk1, hk2, hx, hC⟩ := zp.last
        obtain ⟨i0, hi0⟩ : ∃ i0, i0 = kidIx ((s.2.map (ents h)).map fstK) k k1 := ⟨_, rfl⟩
        rw [← hi0] at hx hC
        subst hx
        rw [pA_snoc, pI_snoc, List.dropLast_concat]
        have hok1 := hps.ok hh.ok
        have hsz1 := pth_size hps hh.size
        have hl1 := hps.len
        have hl61 : s.2.length ≤ 6 := hsz1.2.1
        have hi1 : i0 < s.2.length := by
          have := (List.getElem?_eq_some_iff.1 hk2).1
          rw [hi0]; exact this
        have hCs : (nd (h + 1) s).Cs = (s.2.map (nd h)).map NodeD.g := hok1.1.Cs
        have hCn : (nd (h + 1) s).C.n = s.2.length := by rw [(nd_ok hok1).C.n, hCs, List.length_map, List.length_map]
        have hKn1 : (nd (h + 1) s).K.n = s.2.length := by rw [(nd_ok hok1).K.n, len_inner hok1]; rfl
        refine gk_der [treeF H t] (der_pth hps) sS ?_
        refine gk_der [treeF (h + 1) s] (der_nd s) sS ?_
        refine gk_nC (d := nd (h + 1) s) mE ?_
        refine gk_nB (d := nd (h + 1) s) mE ?_
        refine gk_say 11 (.bool true) rfl (by simp) ?_
        (repeat (first | refine g_nil ?_ | refine g_pure true hT rfl rfl rfl sI ?_ | refine g_skip rfl rfl ?_ | refine g_skip0 rfl rfl ?_ | refine gk_region rfl ?_ | refine gk_cond_t rfl rfl ?_ | refine gk_cond_f rfl rfl ?_ | refine g_yd rfl rfl (yd_load_blk hT rfl rfl mE rfl rfl) ?_ | refine g_yd rfl rfl (yd_load_row hT rfl rfl mE rfl rfl) ?_ | refine g_yd rfl rfl (yd_load_row0 hT rfl rfl mE rfl rfl) ?_ | refine g_yd rfl rfl (yd_eql rfl rfl rfl rfl rfl (by kernel_rfl)) ?_ | refine g_yd rfl rfl (yd_neq rfl rfl rfl rfl rfl (by kernel_rfl)) ?_ | refine g_yd rfl rfl (yd_index hT rfl rfl rfl sI rfl) ?_ | refine g_yd rfl rfl (yd_slice_nil hT rfl rfl rfl rfl) ?_ | refine g_yd rfl rfl (yd_build_arr hT rfl rfl rfl rfl rfl rfl) ?_ | (refine g_mv rfl ?_; first | (refine mv_box rfl rfl rfl rfl ?_; intro _) | (refine mv_alloc rfl hT rfl rfl ?_; intro _) | refine mv_store hT rfl rfl rfl rfl rfl rfl sO rfl ?_ | (refine mv_buildSlice rfl hT rfl rfl rfl rfl rfl rfl rfl rfl ?_; intro _)) | refine g_yd rfl rfl (Ys.yd (ys_str_eql hT rfl rfl rfl rfl)) ?_ | refine g_yd rfl rfl (Ys.yd (ys_str_neq hT rfl rfl rfl rfl)) ?_))
        refine gk_any [0, 3] (Cut _ (fun _ : Unit => [(4, .pointer (some ⟨g4, 0, none⟩)), (6, .pointer (some ⟨sg, 0, none⟩)), (10, .pointer (some ⟨g11, 0, none⟩)), (54, .bool (tB ((i0 : Int) + 1 < ((nd (h + 1) s).K.n : Int))))]) (fun _ => [blk g11 [.pointer (some ⟨(nd (h + 1) s).g, 0, none⟩), .int .i64 i0] 93, blk sg (stC l) 122, blk g4 [.int .u16 0, .int .u32 0, .int .u64 0, .int .u32 0] 29]) (fun _ => [row (nd (h + 1) s).g 0 [.bool (nd (h + 1) s).leaf, (nd (h + 1) s).K.v, (nd (h + 1) s).V.v, (nd (h + 1) s).C.v, .int .u32 (nd (h + 1) s).a], sl (nd (h + 1) s).C.A 1 PE (nd (h + 1) s).Cs, nodeF (nd (h + 1) s), treeF (h + 1) s, treeF H t])) rfl rfl (by kernel_rfl) ?_ (cut_k fun _ => ?_)
        · skip
          refine gb_take 0 rfl (by decide +kernel) rfl rfl (ys_ev (nw := true) hT rfl sI) sF ?_
          refine gb_take 1 rfl (by decide +kernel) rfl rfl (by first | exact ys_blk hT rfl rfl mE rfl rfl | exact ys_row hT rfl rfl mE rfl rfl | exact ys_row0 hT rfl rfl mE rfl rfl) sF ?_
          refine gb_take 2 rfl (by decide +kernel) rfl rfl (ys_ev (nw := true) hT rfl sI) sF ?_
          refine gb_take 3 rfl (by decide +kernel) rfl rfl (ys_ev (nw := true) hT rfl sI) sF ?_
          refine gb_take 4 rfl (by decide +kernel) rfl rfl (by first | exact ys_blk hT rfl rfl mE rfl rfl | exact ys_row hT rfl rfl mE rfl rfl | exact ys_row0 hT rfl rfl mE rfl rfl) sF ?_
          refine gb_only 5 (by decide +kernel) rfl rfl ?_
          refine mv_call_bel (fun w hk => nlen_any (nd (h + 1) s).g [] (nd (h + 1) s).leaf (nd (h + 1) s).K (nd (h + 1) s).V (nd (h + 1) s).C (nd (h + 1) s).a w (rd_nb (hk.rR (φ := nodeF (nd (h + 1) s)) mE)).1) rfl rfl rfl rfl rfl (by kernel_rfl) ?_
          refine ⟨sF, ?_⟩
          refine gb_take 6 rfl (by decide +kernel) rfl rfl (ys_ev (nw := true) hT rfl sI) sF ?_
          refine gb_nil (by decide +kernel) ?_
          exact ⟨(), (by repeat (first | exact trivial | refine ⟨rfl, ?_⟩)), sA, sS⟩
        · by_cases hlt2 : i0 + 1 < s.2.length
          · obtain ⟨kd, hkd⟩ : ∃ kd, s.2[i0 + 1]? = some kd := ⟨s.2[i0 + 1], List.getElem?_eq_getElem hlt2⟩
            have hC2 : (ents h kd)[0]? = C[0]? := by rw [← hC1, hC]; exact (drop_first hok1.2.2 hkd C').symm
            refine gk_elem (enc := PE) (L := (nd (h + 1) s).Cs) (i0 + 1) mE (by rw [hCs, List.length_map, List.length_map]; omega) (by decide) (fun b1 o1 y1 eA hy1 => ?_)
            obtain rfl : (nd h kd).g = y1 := by
              rw [hCs, List.getElem?_map, List.getElem?_map, hkd] at hy1
              exact Option.some.inj hy1
            refine gk_cond_p rfl rfl (by omega) ?_
            (repeat (first | refine g_nil ?_ | refine g_pure true hT rfl rfl rfl sI ?_ | refine g_skip rfl rfl ?_ | refine g_skip0 rfl rfl ?_ | refine gk_region rfl ?_ | refine gk_cond_t rfl rfl ?_ | refine gk_cond_f rfl rfl ?_ | refine g_yd rfl rfl (yd_load_blk hT rfl rfl mE rfl rfl) ?_ | refine g_yd rfl rfl (yd_load_row hT rfl rfl mE rfl rfl) ?_ | refine g_yd rfl rfl (yd_load_row0 hT rfl rfl mE rfl rfl) ?_ | refine g_yd rfl rfl (yd_eql rfl rfl rfl rfl rfl (by kernel_rfl)) ?_ | refine g_yd rfl rfl (yd_neq rfl rfl rfl rfl rfl (by kernel_rfl)) ?_ | refine g_yd rfl rfl (yd_index hT rfl rfl rfl sI rfl) ?_ | refine g_yd rfl rfl (yd_slice_nil hT rfl rfl rfl rfl) ?_ | refine g_yd rfl rfl (yd_build_arr hT rfl rfl rfl rfl rfl rfl) ?_ | (refine g_mv rfl ?_; first | (refine mv_box rfl rfl rfl rfl ?_; intro _) | (refine mv_alloc rfl hT rfl rfl ?_; intro _) | refine mv_store hT rfl rfl rfl rfl rfl rfl sO rfl ?_ | (refine mv_buildSlice rfl hT rfl rfl rfl rfl rfl rfl rfl rfl ?_; intro _)) | refine g_yd rfl rfl (Ys.yd (ys_str_eql hT rfl rfl rfl rfl)) ?_ | refine g_yd rfl rfl (Ys.yd (ys_str_neq hT rfl rfl rfl rfl)) ?_))
            refine gk_any [0, 3, 4] (Cut _ (fun _ : Unit => [(4, .pointer (some ⟨g4, 0, none⟩)), (7, .pointer (some ⟨(nd h kd).g, 0, none⟩))]) (fun _ => [blk g4 [.int .u16 0, .int .u32 0, .int .u64 0, .int .u32 0] 29]) (fun _ => [treeF (h + 1) s, treeF H t])) rfl rfl (by kernel_rfl) ?_ (cut_k fun _ => ?_)
            · skip
              refine gb_take 0 rfl (by decide +kernel) rfl rfl (ys_ev (nw := true) hT rfl sI) sF ?_
              refine gb_take 1 rfl (by decide +kernel) rfl rfl (by first | exact ys_blk hT rfl rfl mE rfl rfl | exact ys_row hT rfl rfl mE rfl rfl | exact ys_row0 hT rfl rfl mE rfl rfl) sF ?_
              refine gb_take 2 rfl (by decide +kernel) rfl rfl (ys_ev (nw := true) hT rfl sI) sF ?_
              refine gb_take 3 rfl (by decide +kernel) rfl rfl (ys_ev (nw := true) hT rfl sI) sF ?_
              refine gb_take 4 rfl (by decide +kernel) rfl rfl (by first | exact ys_blk hT rfl rfl mE rfl rfl | exact ys_row hT rfl rfl mE rfl rfl | exact ys_row0 hT rfl rfl mE rfl rfl) sF ?_
              try (refine gb_say 59 (.slice (some ⟨b1, o1, none⟩) (nd (h + 1) s).C.n (nd (h + 1) s).C.c) rfl (by rw [← eA]; rfl) ?_)
              refine gb_take 5 rfl (by decide +kernel) rfl rfl (ys_ev (nw := true) hT rfl sI) sF ?_
              refine gb_take 6 rfl (by decide +kernel) rfl rfl (by first | exact ys_blk hT rfl rfl mE rfl rfl | exact ys_row hT rfl rfl mE rfl rfl | exact ys_row0 hT rfl rfl mE rfl rfl) sF ?_
              refine gb_take 7 rfl (by decide +kernel) rfl rfl (ys_ev (nw := true) hT rfl sI) sF ?_
              try (refine gb_say 62 (.int .i64 ((i0 + 1 : Nat) : Int)) rfl rfl ?_)
              refine gb_take 8 rfl (by decide +kernel) rfl rfl (ys_ev (nw := true) hT rfl sI) sF ?_
              refine gb_take 9 rfl (by decide +kernel) rfl rfl (by first | exact ys_blk hT rfl rfl mE rfl rfl | exact ys_row hT rfl rfl mE rfl rfl | exact ys_row0 hT rfl rfl mE rfl rfl) sF ?_
              refine gb_take 10 rfl (by decide +kernel) rfl rfl (ys_ev (nw := true) hT rfl sI) sF ?_
              refine gb_nil (by decide +kernel) ?_
              exact ⟨(), (by repeat (first | exact trivial | refine ⟨rfl, ?_⟩)), sA, sS⟩
            · refine gk_tkid (t := s) (c := kd) mE (List.mem_of_getElem? hkd) ?_
              refine gk_loop_sel (fun (a : AT) => (Tr.Ok a.h a.t ∧ Root a.h a.t ∧ (ents a.h a.t)[0]? = C[0]?)) (fun (a : AT) => [(4, .pointer (some ⟨g4, 0, none⟩)), (7, .pointer (some ⟨(nd a.h a.t).g, 0, none⟩))]) (fun (a : AT) => [blk g4 [.int .u16 0, .int .u32 0, .int .u64 0, .int .u32 0] 29]) (fun (a : AT) => [treeF a.h a.t]) (fun (a : AT) => a.h) ⟨h, kd⟩ rfl ⟨hok1.2.2 kd (List.mem_of_getElem? hkd), (hsz1.2.2 kd (List.mem_of_getElem? hkd)).near.root, hC2⟩ (by repeat (first | exact trivial | refine ⟨rfl, ?_⟩)) sA sS ?_
              rintro a hI
              replace hI : (Tr.Ok a.h a.t ∧ Root a.h a.t ∧ (ents a.h a.t)[0]? = C[0]?) := hI
              change GK _ _ [(4, .pointer (some ⟨g4, 0, none⟩)), (7, .pointer (some ⟨(nd a.h a.t).g, 0, none⟩))] [blk g4 [.int .u16 0, .int .u32 0, .int .u64 0, .int .u32 0] 29] [treeF a.h a.t]
              obtain ⟨h2, c2⟩ := a
              obtain ⟨ao, ar, ae⟩ := hI
              dsimp only at ao ar ae
              change GK _ _ [(4, .pointer (some ⟨g4, 0, none⟩)), (7, .pointer (some ⟨(nd h2 c2).g, 0, none⟩))] [blk g4 [.int .u16 0, .int .u32 0, .int .u64 0, .int .u32 0] 29] [treeF h2 c2]
              refine gk_tnd (t := c2) mE ?_
              refine gk_nB (d := nd h2 c2) mE ?_
              cases h2 with
              | zero =>
                rw [show (nd 0 c2).leaf = true from ao.1.leaf]
                obtain ⟨y, hy⟩ : ∃ y, c2.2[0]? = some y := ⟨c2.2[0]'ao.2, List.getElem?_eq_getElem ao.2⟩
                have hy2 : C[0]? = some y := by rw [← ae]; exact hy
                have hc26 : c2.2.length ≤ 6 := root_ln ar
                (repeat' (first | (first | refine g_nil ?_ | refine g_pure true hT rfl rfl rfl sI ?_ | refine g_skip rfl rfl ?_ | refine g_skip0 rfl rfl ?_ | refine gk_region rfl ?_ | refine gk_cond_t rfl rfl ?_ | refine gk_cond_f rfl rfl ?_ | refine g_yd rfl rfl (yd_load_blk hT rfl rfl mE rfl rfl) ?_ | refine g_yd rfl rfl (yd_load_row hT rfl rfl mE rfl rfl) ?_ | refine g_yd rfl rfl (yd_load_row0 hT rfl rfl mE rfl rfl) ?_ | refine g_yd rfl rfl (yd_eql rfl rfl rfl rfl rfl (by kernel_rfl)) ?_ | refine g_yd rfl rfl (yd_neq rfl rfl rfl rfl rfl (by kernel_rfl)) ?_ | refine g_yd rfl rfl (yd_index hT rfl rfl rfl sI rfl) ?_ | refine g_yd rfl rfl (yd_slice_nil hT rfl rfl rfl rfl) ?_ | refine g_yd rfl rfl (yd_build_arr hT rfl rfl rfl rfl rfl rfl) ?_ | (refine g_mv rfl ?_; first | (refine mv_box rfl rfl rfl rfl ?_; intro _) | (refine mv_alloc rfl hT rfl rfl ?_; intro _) | refine mv_store hT rfl rfl rfl rfl rfl rfl sO rfl ?_ | (refine mv_buildSlice rfl hT rfl rfl rfl rfl rfl rfl rfl rfl ?_; intro _)) | refine g_yd rfl rfl (Ys.yd (ys_str_eql hT rfl rfl rfl rfl)) ?_ | refine g_yd rfl rfl (Ys.yd (ys_str_neq hT rfl rfl rfl rfl)) ?_) | (refine g_mv rfl ?_; first | refine mv_call_bel (fun w hk => entry_any (nd 0 c2) c2.2 0 y w ao.1 (by omega) hy (hk.rR mE)) rfl rfl rfl rfl rfl (by kernel_rfl) ?_) | ((first | refine g_split rfl rfl tE (fun _ => ?_) (fun _ => ?_) | refine gk_cond rfl rfl tE (fun _ => ?_) (fun _ => ?_)) <;> (try first | (exfalso; omega; done) | (rename_i hx; exact absurd rfl hx) | (rename_i hx; cases hx; done)))))
                refine gk_ret hT rfl rfl (.cell rfl mE rfl rfl (.tmp rfl .nil)) (fun w' hk => ?_)
                exact Ret.mk (A.length + q) hpL (by rw [hce, hy2]; rfl) hk sA
              | succ h2 =>
                rw [show (nd (h2 + 1) c2).leaf = false from ao.1.leaf]
                have hl0 : 0 < c2.2.length := ao.2.1
                obtain ⟨kd2, hkd2⟩ : ∃ kd, c2.2[0]? = some kd := ⟨c2.2[0]'hl0, List.getElem?_eq_getElem hl0⟩
                have hCs2 : (nd (h2 + 1) c2).Cs = (c2.2.map (nd h2)).map NodeD.g := ao.1.Cs
                have hCn2 : (nd (h2 + 1) c2).C.n = c2.2.length := by rw [(nd_ok ao).C.n, hCs2, List.length_map, List.length_map]
                refine gk_nC (d := nd (h2 + 1) c2) mE ?_
                refine gk_elem (enc := PE) (L := (nd (h2 + 1) c2).Cs) 0 mE (by rw [hCs2, List.length_map, List.length_map]; omega) (by decide) (fun b2 o2 y2 eA2 hy2 => ?_)
                obtain rfl : (nd h2 kd2).g = y2 := by
                  rw [hCs2, List.getElem?_map, List.getElem?_map, hkd2] at hy2
                  exact Option.some.inj hy2
                (repeat (first | refine g_nil ?_ | refine g_pure true hT rfl rfl rfl sI ?_ | refine g_skip rfl rfl ?_ | refine g_skip0 rfl rfl ?_ | refine gk_region rfl ?_ | refine gk_cond_t rfl rfl ?_ | refine gk_cond_f rfl rfl ?_ | refine g_yd rfl rfl (yd_load_blk hT rfl rfl mE rfl rfl) ?_ | refine g_yd rfl rfl (yd_load_row hT rfl rfl mE rfl rfl) ?_ | refine g_yd rfl rfl (yd_load_row0 hT rfl rfl mE rfl rfl) ?_ | refine g_yd rfl rfl (yd_eql rfl rfl rfl rfl rfl (by kernel_rfl)) ?_ | refine g_yd rfl rfl (yd_neq rfl rfl rfl rfl rfl (by kernel_rfl)) ?_ | refine g_yd rfl rfl (yd_index hT rfl rfl rfl sI rfl) ?_ | refine g_yd rfl rfl (yd_slice_nil hT rfl rfl rfl rfl) ?_ | refine g_yd rfl rfl (yd_build_arr hT rfl rfl rfl rfl rfl rfl) ?_ | (refine g_mv rfl ?_; first | (refine mv_box rfl rfl rfl rfl ?_; intro _) | (refine mv_alloc rfl hT rfl rfl ?_; intro _) | refine mv_store hT rfl rfl rfl rfl rfl rfl sO rfl ?_ | (refine mv_buildSlice rfl hT rfl rfl rfl rfl rfl rfl rfl rfl ?_; intro _)) | refine g_yd rfl rfl (Ys.yd (ys_str_eql hT rfl rfl rfl rfl)) ?_ | refine g_yd rfl rfl (Ys.yd (ys_str_neq hT rfl rfl rfl rfl)) ?_))
                refine g_say 73 (.slice (some ⟨b2, o2, none⟩) (nd (h2 + 1) c2).C.n (nd (h2 + 1) c2).C.c) rfl (by rw [← eA2]; rfl) ?_
                (repeat (first | refine g_nil ?_ | refine g_pure true hT rfl rfl rfl sI ?_ | refine g_skip rfl rfl ?_ | refine g_skip0 rfl rfl ?_ | refine gk_region rfl ?_ | refine gk_cond_t rfl rfl ?_ | refine gk_cond_f rfl rfl ?_ | refine g_yd rfl rfl (yd_load_blk hT rfl rfl mE rfl rfl) ?_ | refine g_yd rfl rfl (yd_load_row hT rfl rfl mE rfl rfl) ?_ | refine g_yd rfl rfl (yd_load_row0 hT rfl rfl mE rfl rfl) ?_ | refine g_yd rfl rfl (yd_eql rfl rfl rfl rfl rfl (by kernel_rfl)) ?_ | refine g_yd rfl rfl (yd_neq rfl rfl rfl rfl rfl (by kernel_rfl)) ?_ | refine g_yd rfl rfl (yd_index hT rfl rfl rfl sI rfl) ?_ | refine g_yd rfl rfl (yd_slice_nil hT rfl rfl rfl rfl) ?_ | refine g_yd rfl rfl (yd_build_arr hT rfl rfl rfl rfl rfl rfl) ?_ | (refine g_mv rfl ?_; first | (refine mv_box rfl rfl rfl rfl ?_; intro _) | (refine mv_alloc rfl hT rfl rfl ?_; intro _) | refine mv_store hT rfl rfl rfl rfl rfl rfl sO rfl ?_ | (refine mv_buildSlice rfl hT rfl rfl rfl rfl rfl rfl rfl rfl ?_; intro _)) | refine g_yd rfl rfl (Ys.yd (ys_str_eql hT rfl rfl rfl rfl)) ?_ | refine g_yd rfl rfl (Ys.yd (ys_str_neq hT rfl rfl rfl rfl)) ?_))
                refine gk_tkid (t := c2) (c := kd2) mE (List.mem_of_getElem? hkd2) ?_
                refine gk_again_sel rfl ⟨h2, kd2⟩ ⟨ao.2.2 kd2 (List.mem_of_getElem? hkd2), (ar.2.2 kd2 (List.mem_of_getElem? hkd2)).near.root, by rw [← ae]; exact (ents_first ao hkd2).symm⟩ (Nat.lt_succ_self _) (by repeat (first | exact trivial | refine ⟨rfl, ?_⟩)) sA sS
          · refine gk_cond_n rfl rfl (by omega) ?_
            have hdr : (s.2.map (ents h)).drop (i0 + 1) = [] := List.drop_of_length_le (by rw [List.length_map]; omega)
            rw [hdr] at hC
            (repeat (first | refine g_nil ?_ | refine g_pure true hT rfl rfl rfl sI ?_ | refine g_skip rfl rfl ?_ | refine g_skip0 rfl rfl ?_ | refine gk_region rfl ?_ | refine gk_cond_t rfl rfl ?_ | refine gk_cond_f rfl rfl ?_ | refine g_yd rfl rfl (yd_load_blk hT rfl rfl mE rfl rfl) ?_ | refine g_yd rfl rfl (yd_load_row hT rfl rfl mE rfl rfl) ?_ | refine g_yd rfl rfl (yd_load_row0 hT rfl rfl mE rfl rfl) ?_ | refine g_yd rfl rfl (yd_eql rfl rfl rfl rfl rfl (by kernel_rfl)) ?_ | refine g_yd rfl rfl (yd_neq rfl rfl rfl rfl rfl (by kernel_rfl)) ?_ | refine g_yd rfl rfl (yd_index hT rfl rfl rfl sI rfl) ?_ | refine g_yd rfl rfl (yd_slice_nil hT rfl rfl rfl rfl) ?_ | refine g_yd rfl rfl (yd_build_arr hT rfl rfl rfl rfl rfl rfl) ?_ | (refine g_mv rfl ?_; first | (refine mv_box rfl rfl rfl rfl ?_; intro _) | (refine mv_alloc rfl hT rfl rfl ?_; intro _) | refine mv_store hT rfl rfl rfl rfl rfl rfl sO rfl ?_ | (refine mv_buildSlice rfl hT rfl rfl rfl rfl rfl rfl rfl rfl ?_; intro _)) | refine g_yd rfl rfl (Ys.yd (ys_str_eql hT rfl rfl rfl rfl)) ?_ | refine g_yd rfl rfl (Ys.yd (ys_str_neq hT rfl rfl rfl rfl)) ?_))
            rename_i g12
            refine g_mv rfl ?_; refine mv_call_w (fun w hk => spop_any sg l w (by omega) (hk.pO (blk sg (stC l) 122) mE)) rfl rfl rfl rfl rfl (by kernel_rfl) (by intro _; repeat (first | exact Upd.here _ | apply Upd.there)) (fun ψ hψ => by first | (cases hψ; done) | (obtain rfl := List.mem_singleton.1 hψ; exact mE)) (fun _ => rfl) (fun _ => rfl) (fun _ _ => ?_)
            (repeat (first | refine g_nil ?_ | refine g_pure true hT rfl rfl rfl sI ?_ | refine g_skip rfl rfl ?_ | refine g_skip0 rfl rfl ?_ | refine gk_region rfl ?_ | refine gk_cond_t rfl rfl ?_ | refine gk_cond_f rfl rfl ?_ | refine g_yd rfl rfl (yd_load_blk hT rfl rfl mE rfl rfl) ?_ | refine g_yd rfl rfl (yd_load_row hT rfl rfl mE rfl rfl) ?_ | refine g_yd rfl rfl (yd_load_row0 hT rfl rfl mE rfl rfl) ?_ | refine g_yd rfl rfl (yd_eql rfl rfl rfl rfl rfl (by kernel_rfl)) ?_ | refine g_yd rfl rfl (yd_neq rfl rfl rfl rfl rfl (by kernel_rfl)) ?_ | refine g_yd rfl rfl (yd_index hT rfl rfl rfl sI rfl) ?_ | refine g_yd rfl rfl (yd_slice_nil hT rfl rfl rfl rfl) ?_ | refine g_yd rfl rfl (yd_build_arr hT rfl rfl rfl rfl rfl rfl) ?_ | (refine g_mv rfl ?_; first | (refine mv_box rfl rfl rfl rfl ?_; intro _) | (refine mv_alloc rfl hT rfl rfl ?_; intro _) | refine mv_store hT rfl rfl rfl rfl rfl rfl sO rfl ?_ | (refine mv_buildSlice rfl hT rfl rfl rfl rfl rfl rfl rfl rfl ?_; intro _)) | refine g_yd rfl rfl (Ys.yd (ys_str_eql hT rfl rfl rfl rfl)) ?_ | refine g_yd rfl rfl (Ys.yd (ys_str_neq hT rfl rfl rfl rfl)) ?_))
            refine g_mv rfl (mv_store hT rfl rfl rfl rfl rfl (p_one l) sO rfl ?_)
            (repeat (first | refine g_nil ?_ | refine g_pure true hT rfl rfl rfl sI ?_ | refine g_skip rfl rfl ?_ | refine g_skip0 rfl rfl ?_ | refine gk_region rfl ?_ | refine gk_cond_t rfl rfl ?_ | refine gk_cond_f rfl rfl ?_ | refine g_yd rfl rfl (yd_load_blk hT rfl rfl mE rfl rfl) ?_ | refine g_yd rfl rfl (yd_load_row hT rfl rfl mE rfl rfl) ?_ | refine g_yd rfl rfl (yd_load_row0 hT rfl rfl mE rfl rfl) ?_ | refine g_yd rfl rfl (yd_eql rfl rfl rfl rfl rfl (by kernel_rfl)) ?_ | refine g_yd rfl rfl (yd_neq rfl rfl rfl rfl rfl (by kernel_rfl)) ?_ | refine g_yd rfl rfl (yd_index hT rfl rfl rfl sI rfl) ?_ | refine g_yd rfl rfl (yd_slice_nil hT rfl rfl rfl rfl) ?_ | refine g_yd rfl rfl (yd_build_arr hT rfl rfl rfl rfl rfl rfl) ?_ | (refine g_mv rfl ?_; first | (refine mv_box rfl rfl rfl rfl ?_; intro _) | (refine mv_alloc rfl hT rfl rfl ?_; intro _) | refine mv_store hT rfl rfl rfl rfl rfl rfl sO rfl ?_ | (refine mv_buildSlice rfl hT rfl rfl rfl rfl rfl rfl rfl rfl ?_; intro _)) | refine g_yd rfl rfl (Ys.yd (ys_str_eql hT rfl rfl rfl rfl)) ?_ | refine g_yd rfl rfl (Ys.yd (ys_str_neq hT rfl rfl rfl rfl)) ?_))
            refine gk_again_sel rfl ⟨h + 1, s, A', C', l, g12⟩ ⟨hps, by rw [← hC1, hC]; rfl⟩ (by simp) (by repeat (first | exact trivial | refine ⟨rfl, ?_⟩)) sA sS
end Go.Proofs.Ytajmjfnecmknnaa.Tw

