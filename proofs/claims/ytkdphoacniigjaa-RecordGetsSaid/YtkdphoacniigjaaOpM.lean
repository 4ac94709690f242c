/- The reference's Put; the law OpPuts. -/
import Derived.Test.YtkdphoacniigjaaOpL
namespace Go.Proofs.Ytkdphoacniigjaa.OpA
open Go.RowKit Mem Gx Sls Bytes Rd
set_option linter.unusedVariables false
set_option linter.unusedSimpArgs false
set_option maxRecDepth 100000
set_option maxHeartbeats 4000000
theorem own_sl {E : List Nat} {w0 w : World} {O R : List Fact} {α : Type} [Inhabited α] {base e sz n c : Nat} {A : Option Addr} {enc : α → Nat → Value} {L : List α} (hk : Kn E w0 w O R) (h : own base e sz (.slice A n c) enc L ∈ O) : Sl w A sz enc L := by
  obtain ⟨A', c', hv, hs, _⟩ := hk.ownSl h
  injection hv with h1 h2 h3
  subst h1
  exact hs
/-- bytes.Equal. -/
theorem bequal_any (A A' : Option Addr) (n c n' c' : Nat) (L L' : List Int) (w : World) (hn : n = L.length) (hn' : n' = L'.length) (hs : Sl w A 1 (IE .u8) L) (hs' : Sl w A' 1 (IE .u8) L') (hB : IsB L) (hB' : IsB L') :
    Calls Try.prog 16 [.slice A n c, .slice A' n' c'].toArray w fun e w' => e = .returned (.bool (tB (L = L'))) ∧ Below w.heap.size w w' := by
  refine g_enter0 T [] [] [sl A' 1 (IE .u8) L', sl A 1 (IE .u8) L] Try.func16 rfl Try.ntmps16 rfl (((Kn.start w).argR hs (by decide) (fun _ h => by cases h)).argR hs' (by decide) (fun _ h => by cases h)) ?_
  (repeat (first | refine g_nil ?_ | refine g_pure true hT rfl rfl rfl sI ?_ | refine g_skip rfl rfl ?_ | refine g_skip0 rfl rfl ?_ | refine gk_region rfl ?_ | refine gk_cond_t rfl rfl ?_ | refine gk_cond_f rfl rfl ?_ | refine g_yd rfl rfl (yd_load_blk hT rfl rfl mE rfl rfl) ?_ | refine g_yd rfl rfl (yd_load_row hT rfl rfl mE rfl rfl) ?_ | refine g_yd rfl rfl (yd_load_row0 hT rfl rfl mE rfl rfl) ?_ | refine g_yd rfl rfl (yd_eql rfl rfl rfl rfl rfl (by kernel_rfl)) ?_ | refine g_yd rfl rfl (yd_neq rfl rfl rfl rfl rfl (by kernel_rfl)) ?_ | refine g_yd rfl rfl (yd_index hT rfl rfl rfl sI rfl) ?_ | refine g_yd rfl rfl (yd_slice_nil hT rfl rfl rfl rfl) ?_ | refine g_yd rfl rfl (yd_build_arr hT rfl rfl rfl rfl rfl rfl) ?_ | (refine g_mv rfl ?_; first | (refine mv_box rfl rfl rfl rfl ?_; intro _) | (refine mv_alloc rfl hT rfl rfl ?_; intro _) | refine mv_store hT rfl rfl rfl rfl rfl rfl sO rfl ?_ | (refine mv_buildSlice rfl hT rfl rfl rfl rfl rfl rfl rfl rfl ?_; intro _)) | refine g_yd rfl rfl (Ys.yd (ys_str_eql hT rfl rfl rfl rfl)) ?_ | refine g_yd rfl rfl (Ys.yd (ys_str_neq hT rfl rfl rfl rfl)) ?_))
  refine g_yd rfl rfl (yd_conv_bytes hT (.inr (show sl A 1 (IE .u8) L ∈ _ from mE)) hn rfl rfl rfl rfl rfl) ?_
  (repeat (first | refine g_nil ?_ | refine g_pure true hT rfl rfl rfl sI ?_ | refine g_skip rfl rfl ?_ | refine g_skip0 rfl rfl ?_ | refine gk_region rfl ?_ | refine gk_cond_t rfl rfl ?_ | refine gk_cond_f rfl rfl ?_ | refine g_yd rfl rfl (yd_load_blk hT rfl rfl mE rfl rfl) ?_ | refine g_yd rfl rfl (yd_load_row hT rfl rfl mE rfl rfl) ?_ | refine g_yd rfl rfl (yd_load_row0 hT rfl rfl mE rfl rfl) ?_ | refine g_yd rfl rfl (yd_eql rfl rfl rfl rfl rfl (by kernel_rfl)) ?_ | refine g_yd rfl rfl (yd_neq rfl rfl rfl rfl rfl (by kernel_rfl)) ?_ | refine g_yd rfl rfl (yd_index hT rfl rfl rfl sI rfl) ?_ | refine g_yd rfl rfl (yd_slice_nil hT rfl rfl rfl rfl) ?_ | refine g_yd rfl rfl (yd_build_arr hT rfl rfl rfl rfl rfl rfl) ?_ | (refine g_mv rfl ?_; first | (refine mv_box rfl rfl rfl rfl ?_; intro _) | (refine mv_alloc rfl hT rfl rfl ?_; intro _) | refine mv_store hT rfl rfl rfl rfl rfl rfl sO rfl ?_ | (refine mv_buildSlice rfl hT rfl rfl rfl rfl rfl rfl rfl rfl ?_; intro _)) | refine g_yd rfl rfl (Ys.yd (ys_str_eql hT rfl rfl rfl rfl)) ?_ | refine g_yd rfl rfl (Ys.yd (ys_str_neq hT rfl rfl rfl rfl)) ?_))
  refine g_yd rfl rfl (yd_conv_bytes hT (.inr (show sl A' 1 (IE .u8) L' ∈ _ from mE)) hn' rfl rfl rfl rfl rfl) ?_
  (repeat (first | refine g_nil ?_ | refine g_pure true hT rfl rfl rfl sI ?_ | refine g_skip rfl rfl ?_ | refine g_skip0 rfl rfl ?_ | refine gk_region rfl ?_ | refine gk_cond_t rfl rfl ?_ | refine gk_cond_f rfl rfl ?_ | refine g_yd rfl rfl (yd_load_blk hT rfl rfl mE rfl rfl) ?_ | refine g_yd rfl rfl (yd_load_row hT rfl rfl mE rfl rfl) ?_ | refine g_yd rfl rfl (yd_load_row0 hT rfl rfl mE rfl rfl) ?_ | refine g_yd rfl rfl (yd_eql rfl rfl rfl rfl rfl (by kernel_rfl)) ?_ | refine g_yd rfl rfl (yd_neq rfl rfl rfl rfl rfl (by kernel_rfl)) ?_ | refine g_yd rfl rfl (yd_index hT rfl rfl rfl sI rfl) ?_ | refine g_yd rfl rfl (yd_slice_nil hT rfl rfl rfl rfl) ?_ | refine g_yd rfl rfl (yd_build_arr hT rfl rfl rfl rfl rfl rfl) ?_ | (refine g_mv rfl ?_; first | (refine mv_box rfl rfl rfl rfl ?_; intro _) | (refine mv_alloc rfl hT rfl rfl ?_; intro _) | refine mv_store hT rfl rfl rfl rfl rfl rfl sO rfl ?_ | (refine mv_buildSlice rfl hT rfl rfl rfl rfl rfl rfl rfl rfl ?_; intro _)) | refine g_yd rfl rfl (Ys.yd (ys_str_eql hT rfl rfl rfl rfl)) ?_ | refine g_yd rfl rfl (Ys.yd (ys_str_neq hT rfl rfl rfl rfl)) ?_))
  refine gk_ret hT rfl rfl (.tmp rfl .nil) (fun w' hk => ?_)
  refine ⟨?_, hk.toBelow⟩
  rw [tB_congr (p := strOfNums L = strOfNums L') (q := L = L') ⟨strOf_inj hB hB', fun h => by rw [h]⟩]
  rfl
theorem rput13_any (o : OpD) (w : World) (ho : o.Ok) (hi : o.In w) (hD9 : o.D.length ≤ 100000) (hM9 : o.M.length ≤ 100000) (hpp : 0 ≤ o.p ∧ o.p ≤ 18446744073709551615) (h : 1 ≤ o.k ∧ o.k ≤ 14 ∧ rrightB o = true) (B : List Int) (hB : ∀ p, PlainAt o (looks o.k) p → putL p = B) :
    Calls Try.prog 33 [o.val].toArray w (Ret (fun s : SlV => s.Ok B.length) (fun s => s.v) (fun s => [sl s.A 1 (IE .u8) B]) w) := by
  refine g_enter0 T [] [] [sl o.m.A 1 (IE .i64) o.M, sl o.a.A 1 (IE .u8) o.D] Try.func33 rfl Try.ntmps33 rfl (((Kn.start w).argR hi.a (by decide) (fun _ h => by cases h)).argR hi.m (by decide) (fun _ h => by cases h)) ?_
  (repeat (first | refine g_nil ?_ | refine g_pure true hT rfl rfl rfl sI ?_ | refine g_skip rfl rfl ?_ | refine g_skip0 rfl rfl ?_ | refine gk_region rfl ?_ | refine gk_cond_t rfl rfl ?_ | refine gk_cond_f rfl rfl ?_ | refine g_yd rfl rfl (yd_load_blk hT rfl rfl mE rfl rfl) ?_ | refine g_yd rfl rfl (yd_load_row hT rfl rfl mE rfl rfl) ?_ | refine g_yd rfl rfl (yd_load_row0 hT rfl rfl mE rfl rfl) ?_ | refine g_yd rfl rfl (yd_eql rfl rfl rfl rfl rfl (by kernel_rfl)) ?_ | refine g_yd rfl rfl (yd_neq rfl rfl rfl rfl rfl (by kernel_rfl)) ?_ | refine g_yd rfl rfl (yd_index hT rfl rfl rfl sI rfl) ?_ | refine g_yd rfl rfl (yd_slice_nil hT rfl rfl rfl rfl) ?_ | refine g_yd rfl rfl (yd_build_arr hT rfl rfl rfl rfl rfl rfl) ?_ | (refine g_mv rfl ?_; first | (refine mv_box rfl rfl rfl rfl ?_; intro _) | (refine mv_alloc rfl hT rfl rfl ?_; intro _) | refine mv_store hT rfl rfl rfl rfl rfl rfl sO rfl ?_ | (refine mv_buildSlice rfl hT rfl rfl rfl rfl rfl rfl rfl rfl ?_; intro _)) | refine g_yd rfl rfl (Ys.yd (ys_str_eql hT rfl rfl rfl rfl)) ?_ | refine g_yd rfl rfl (Ys.yd (ys_str_neq hT rfl rfl rfl rfl)) ?_))
  rename_i g1
  refine g_mv rfl ?_; refine mv_call_rt (fun w hk => rplain_any o w ho ⟨hk.pR (sl o.a.A 1 (IE .u8) o.D) mE, hk.pR (sl o.m.A 1 (IE .i64) o.M) mE⟩ hD9 hM9) rfl rfl rfl rfl rfl (by kernel_rfl) (fun _ => rfl) (fun p hp => ?_)
  have hf := fits_of h.2.1 h.2.2 hp hpp
  have hBp := hB p hp
  have hok := hp.ok
  clear hp hB
  have en := hok.a.n
  have em := hok.m.n
  obtain ⟨f1, f2, f3, f4, f5, f6, f7, f8, f9⟩ := hf
  (repeat (first | refine g_nil ?_ | refine g_pure true hT rfl rfl rfl sI ?_ | refine g_skip rfl rfl ?_ | refine g_skip0 rfl rfl ?_ | refine gk_region rfl ?_ | refine gk_cond_t rfl rfl ?_ | refine gk_cond_f rfl rfl ?_ | refine g_yd rfl rfl (yd_load_blk hT rfl rfl mE rfl rfl) ?_ | refine g_yd rfl rfl (yd_load_row hT rfl rfl mE rfl rfl) ?_ | refine g_yd rfl rfl (yd_load_row0 hT rfl rfl mE rfl rfl) ?_ | refine g_yd rfl rfl (yd_eql rfl rfl rfl rfl rfl (by kernel_rfl)) ?_ | refine g_yd rfl rfl (yd_neq rfl rfl rfl rfl rfl (by kernel_rfl)) ?_ | refine g_yd rfl rfl (yd_index hT rfl rfl rfl sI rfl) ?_ | refine g_yd rfl rfl (yd_slice_nil hT rfl rfl rfl rfl) ?_ | refine g_yd rfl rfl (yd_build_arr hT rfl rfl rfl rfl rfl rfl) ?_ | (refine g_mv rfl ?_; first | (refine mv_box rfl rfl rfl rfl ?_; intro _) | (refine mv_alloc rfl hT rfl rfl ?_; intro _) | refine mv_store hT rfl rfl rfl rfl rfl rfl sO rfl ?_ | (refine mv_buildSlice rfl hT rfl rfl rfl rfl rfl rfl rfl rfl ?_; intro _)) | refine g_yd rfl rfl (Ys.yd (ys_str_eql hT rfl rfl rfl rfl)) ?_ | refine g_yd rfl rfl (Ys.yd (ys_str_neq hT rfl rfl rfl rfl)) ?_))
  rename_i g2
  refine gk_any [3] (Cut _ (fun v : Value => [(1, .pointer (some ⟨g1, 0, none⟩)), (3, v)]) (fun v => [own 0 5 1 v (IE .u8) ([p.k] ++ le p.v 2 ++ le p.i 2), blk g1 [.int .i64 p.k, .int .i64 p.v, .int .i64 p.i, .int .i64 p.b, .int .i64 p.c, .int .u64 p.p, p.a.v, p.m.v] 39, sl p.a.A 1 (IE .u8) p.D, sl p.m.A 1 (IE .i64) p.M]) (fun _ => [])) rfl rfl (by kernel_rfl) ?_ (cut_k fun v2 => ?_)
  · skip
    refine gb_take 0 rfl (by decide +kernel) rfl rfl (ys_ev (nw := true) hT rfl sI) sF ?_
    refine gb_take 1 rfl (by decide +kernel) rfl rfl (ys_ev (nw := true) hT rfl sI) sF ?_
    refine gb_take 2 rfl (by decide +kernel) rfl rfl (by first | exact ys_blk hT rfl rfl mE rfl rfl | exact ys_row hT rfl rfl mE rfl rfl | exact ys_row0 hT rfl rfl mE rfl rfl) sF ?_
    refine gb_take 3 rfl (by decide +kernel) rfl rfl (ys_ev (nw := true) hT rfl sI) sF ?_
    refine gb_take 5 rfl (by decide +kernel) rfl rfl (ys_ev (nw := true) hT rfl sI) sF ?_
    refine gb_take 6 rfl (by decide +kernel) rfl rfl (by first | exact ys_blk hT rfl rfl mE rfl rfl | exact ys_row hT rfl rfl mE rfl rfl | exact ys_row0 hT rfl rfl mE rfl rfl) sF ?_
    refine gb_take 7 rfl (by decide +kernel) rfl rfl (ys_ev (nw := true) hT rfl sI) sF ?_
    refine gb_only 4 (by decide +kernel) rfl rfl ?_
    refine mv_call_own (fun w hk => Fix.rput_any (some ⟨g2, 0, none⟩) 1 1 [p.k] p.v 2 2 w rfl (by omega) f2.1 (by omega) rfl (src_blk (M := [p.k]) mE rfl w hk) (by omega)) rfl rfl rfl rfl rfl (by kernel_rfl) (fun v1 => ?_)
    refine ⟨sF, ?_⟩
    refine gb_ownv v1 mE (fun A1 c1 hv _ _ _ => ?_); subst hv
    refine gb_only 8 (by decide +kernel) rfl rfl ?_
    refine mv_call_own (fun w hk => Fix.rput_any A1 _ c1 ([p.k] ++ le p.v 2) p.i 2 2 w rfl (by omega) f3.1 (by omega) rfl (own_sl hk mE) (by simp only [List.length_append, List.length_cons, List.length_nil, le_length]; omega)) rfl rfl rfl rfl rfl (by kernel_rfl) (fun v2 => ?_)
    refine ⟨sF, ?_⟩
    refine gb_take 9 rfl (by decide +kernel) rfl rfl (ys_ev (nw := true) hT rfl sI) sF ?_
    refine gb_nil (by decide +kernel) ?_
    exact ⟨v2, (by repeat (first | exact trivial | refine ⟨rfl, ?_⟩)), sA, sS⟩
  refine gk_any [1] (Cut _ (fun v : Value => [(1, .pointer (some ⟨g1, 0, none⟩)), (3, v)]) (fun v => [own 0 5 1 v (IE .u8) ([p.k] ++ le p.v 2 ++ le p.i 2 ++ [p.b, p.c] ++ le p.p 8), blk g1 [.int .i64 p.k, .int .i64 p.v, .int .i64 p.i, .int .i64 p.b, .int .i64 p.c, .int .u64 p.p, p.a.v, p.m.v] 39, sl p.a.A 1 (IE .u8) p.D, sl p.m.A 1 (IE .i64) p.M]) (fun _ => [])) rfl rfl (by kernel_rfl) ?_ (cut_k fun v4 => ?_)
  · skip
    refine gb_take 0 rfl (by decide +kernel) rfl rfl (ys_ev (nw := true) hT rfl sI) sF ?_
    refine gb_take 1 rfl (by decide +kernel) rfl rfl (ys_ev (nw := true) hT rfl sI) sF ?_
    refine gb_take 2 rfl (by decide +kernel) rfl rfl (by first | exact ys_blk hT rfl rfl mE rfl rfl | exact ys_row hT rfl rfl mE rfl rfl | exact ys_row0 hT rfl rfl mE rfl rfl) sF ?_
    refine gb_take 3 rfl (by decide +kernel) rfl rfl (ys_ev (nw := true) hT rfl sI) sF ?_
    refine gb_take 4 rfl (by decide +kernel) rfl rfl (ys_ev (nw := true) hT rfl sI) sF ?_
    refine gb_take 5 rfl (by decide +kernel) rfl rfl (by first | exact ys_blk hT rfl rfl mE rfl rfl | exact ys_row hT rfl rfl mE rfl rfl | exact ys_row0 hT rfl rfl mE rfl rfl) sF ?_
    refine gb_take 6 rfl (by decide +kernel) rfl rfl (ys_ev (nw := true) hT rfl sI) sF ?_
    refine gb_take 9 rfl (by decide +kernel) rfl rfl (ys_ev (nw := true) hT rfl sI) sF ?_
    refine gb_take 10 rfl (by decide +kernel) rfl rfl (by first | exact ys_blk hT rfl rfl mE rfl rfl | exact ys_row hT rfl rfl mE rfl rfl | exact ys_row0 hT rfl rfl mE rfl rfl) sF ?_
    refine gb_only 7 (by decide +kernel) rfl rfl ?_
    (refine mv_buildSlice (len := 2) rfl hT rfl rfl rfl rfl rfl rfl rfl rfl ?_; intro g3)
    refine ⟨sF, ?_⟩
    refine gb_only 8 (by decide +kernel) rfl rfl ?_
    refine mv_append rfl [p.b, p.c] rfl rfl rfl rfl elt_B (by intro _; repeat (first | exact Upd.here _ | apply Upd.there)) (src_blk mE rfl) rfl (by intro x j; rfl) (by simp only [maxLen, List.length_append, List.length_cons, List.length_nil, le_length]; omega) (by simp only [List.length_append, List.length_cons, List.length_nil, le_length]; omega) (Nat.zero_le _) (fun v3 => ?_)
    refine ⟨sF, ?_⟩
    refine gb_ownv v3 mE (fun A1 c1 hv _ _ _ => ?_); subst hv
    refine gb_only 11 (by decide +kernel) rfl rfl ?_
    refine mv_call_own (fun w hk => Fix.rput_any A1 _ c1 ([p.k] ++ le p.v 2 ++ le p.i 2 ++ [p.b, p.c]) p.p 8 8 w rfl (by omega) f6.1 (by omega) rfl (own_sl hk mE) (by simp only [List.length_append, List.length_cons, List.length_nil, le_length]; omega)) rfl rfl rfl rfl rfl (by kernel_rfl) (fun v4 => ?_)
    refine ⟨sF, ?_⟩
    refine gb_take 12 rfl (by decide +kernel) rfl rfl (ys_ev (nw := true) hT rfl sI) sF ?_
    refine gb_nil (by decide +kernel) ?_
    exact ⟨v4, (by repeat (first | exact trivial | refine ⟨rfl, ?_⟩)), sA, sS⟩
  refine gk_any [1] (Cut _ (fun v : Value => [(1, .pointer (some ⟨g1, 0, none⟩)), (3, v)]) (fun v => [own 0 5 1 v (IE .u8) (headL p ++ p.D), blk g1 [.int .i64 p.k, .int .i64 p.v, .int .i64 p.i, .int .i64 p.b, .int .i64 p.c, .int .u64 p.p, p.a.v, p.m.v] 39, sl p.a.A 1 (IE .u8) p.D, sl p.m.A 1 (IE .i64) p.M]) (fun _ => [])) rfl rfl (by kernel_rfl) ?_ (cut_k fun v6 => ?_)
  · skip
    refine gb_take 0 rfl (by decide +kernel) rfl rfl (ys_ev (nw := true) hT rfl sI) sF ?_
    refine gb_take 1 rfl (by decide +kernel) rfl rfl (ys_ev (nw := true) hT rfl sI) sF ?_
    refine gb_take 2 rfl (by decide +kernel) rfl rfl (by first | exact ys_blk hT rfl rfl mE rfl rfl | exact ys_row hT rfl rfl mE rfl rfl | exact ys_row0 hT rfl rfl mE rfl rfl) sF ?_
    refine gb_take 3 rfl (by decide +kernel) rfl rfl (ys_ev (nw := true) hT rfl sI) sF ?_
    refine gb_take 4 rfl (by decide +kernel) rfl rfl (ys_ev (nw := true) hT rfl sI) sF ?_
    refine gb_take 5 rfl (by decide +kernel) rfl rfl (ys_ev (nw := true) hT rfl sI) sF ?_
    refine gb_take 6 rfl (by decide +kernel) rfl rfl (by first | exact ys_blk hT rfl rfl mE rfl rfl | exact ys_row hT rfl rfl mE rfl rfl | exact ys_row0 hT rfl rfl mE rfl rfl) sF ?_
    refine gb_take 7 rfl (by decide +kernel) rfl rfl (ys_ev (nw := true) hT rfl sI) sF ?_
    refine gb_take 8 rfl (by decide +kernel) rfl rfl (ys_ev (nw := true) hT rfl sI) sF ?_
    refine gb_take 11 rfl (by decide +kernel) rfl rfl (ys_ev (nw := true) hT rfl sI) sF ?_
    refine gb_take 12 rfl (by decide +kernel) rfl rfl (by first | exact ys_blk hT rfl rfl mE rfl rfl | exact ys_row hT rfl rfl mE rfl rfl | exact ys_row0 hT rfl rfl mE rfl rfl) sF ?_
    refine gb_only 9 (by decide +kernel) rfl rfl ?_
    (refine mv_buildSlice (len := 2) rfl hT rfl rfl rfl rfl rfl rfl rfl rfl ?_; intro g4)
    refine ⟨sF, ?_⟩
    refine gb_only 10 (by decide +kernel) rfl rfl ?_
    refine mv_append rfl [(p.D.length : Int), (p.M.length : Int)] rfl rfl rfl rfl elt_B (by intro _; repeat (first | exact Upd.here _ | apply Upd.there)) (src_blk mE (by rw [← en, ← em]; rfl)) rfl (by intro x j; rfl) (by simp only [maxLen, List.length_append, List.length_cons, List.length_nil, le_length]; omega) (by simp only [List.length_append, List.length_cons, List.length_nil, le_length]; omega) (Nat.zero_le _) (fun v5 => ?_)
    refine ⟨sF, ?_⟩
    refine gb_only 13 (by decide +kernel) rfl rfl ?_
    refine mv_append rfl p.D rfl rfl rfl rfl elt_B (by intro _; repeat (first | exact Upd.here _ | apply Upd.there)) (src_O mE) en (by intro x j; rfl) (by simp only [maxLen, List.length_append, List.length_cons, List.length_nil, le_length]; omega) (by simp only [List.length_append, List.length_cons, List.length_nil, le_length]; omega) (Nat.zero_le _) (fun v6 => ?_)
    refine ⟨sF, ?_⟩
    refine gb_take 14 rfl (by decide +kernel) rfl rfl (ys_ev (nw := true) hT rfl sI) sF ?_
    refine gb_nil (by decide +kernel) ?_
    exact ⟨v6, (by repeat (first | exact trivial | refine ⟨rfl, ?_⟩)), sA, sS⟩
  (repeat (first | refine g_nil ?_ | refine g_pure true hT rfl rfl rfl sI ?_ | refine g_skip rfl rfl ?_ | refine g_skip0 rfl rfl ?_ | refine gk_region rfl ?_ | refine gk_cond_t rfl rfl ?_ | refine gk_cond_f rfl rfl ?_ | refine g_yd rfl rfl (yd_load_blk hT rfl rfl mE rfl rfl) ?_ | refine g_yd rfl rfl (yd_load_row hT rfl rfl mE rfl rfl) ?_ | refine g_yd rfl rfl (yd_load_row0 hT rfl rfl mE rfl rfl) ?_ | refine g_yd rfl rfl (yd_eql rfl rfl rfl rfl rfl (by kernel_rfl)) ?_ | refine g_yd rfl rfl (yd_neq rfl rfl rfl rfl rfl (by kernel_rfl)) ?_ | refine g_yd rfl rfl (yd_index hT rfl rfl rfl sI rfl) ?_ | refine g_yd rfl rfl (yd_slice_nil hT rfl rfl rfl rfl) ?_ | refine g_yd rfl rfl (yd_build_arr hT rfl rfl rfl rfl rfl rfl) ?_ | (refine g_mv rfl ?_; first | (refine mv_box rfl rfl rfl rfl ?_; intro _) | (refine mv_alloc rfl hT rfl rfl ?_; intro _) | refine mv_store hT rfl rfl rfl rfl rfl rfl sO rfl ?_ | (refine mv_buildSlice rfl hT rfl rfl rfl rfl rfl rfl rfl rfl ?_; intro _)) | refine g_yd rfl rfl (Ys.yd (ys_str_eql hT rfl rfl rfl rfl)) ?_ | refine g_yd rfl rfl (Ys.yd (ys_str_neq hT rfl rfl rfl rfl)) ?_))
  refine gk_share (φ := sl p.m.A 1 (IE .i64) p.M) (by repeat (first | exact Sel.here | apply Sel.there)) ?_
  refine gk_loop_sel (fun (q : Nat × Value × (List Int)) => match q with | (j, v, L) => j ≤ p.M.length ∧ L = headL p ++ p.D ++ memL (p.M.take j)) (fun (q : Nat × Value × (List Int)) => match q with | (j, v, L) => [(1, .pointer (some ⟨g1, 0, none⟩)), (3, v), (4, .int .i64 j)]) (fun (q : Nat × Value × (List Int)) => match q with | (j, v, L) => [own 0 5 1 v (IE .u8) L, blk g1 [.int .i64 p.k, .int .i64 p.v, .int .i64 p.i, .int .i64 p.b, .int .i64 p.c, .int .u64 p.p, p.a.v, p.m.v] 39]) (fun (q : Nat × Value × (List Int)) => match q with | (j, v, L) => [sl p.m.A 1 (IE .i64) p.M]) (fun (q : Nat × Value × (List Int)) => match q with | (j, v, L) => p.M.length - j) (0, v6, headL p ++ p.D) rfl ⟨Nat.zero_le _, by simp [memL]⟩ (by repeat (first | exact trivial | refine ⟨rfl, ?_⟩)) sA sS ?_
  rintro ⟨j, v, L⟩ hI
  replace hI : j ≤ p.M.length ∧ L = headL p ++ p.D ++ memL (p.M.take j) := hI
  change GK _ _ [(1, .pointer (some ⟨g1, 0, none⟩)), (3, v), (4, .int .i64 j)] [own 0 5 1 v (IE .u8) L, blk g1 [.int .i64 p.k, .int .i64 p.v, .int .i64 p.i, .int .i64 p.b, .int .i64 p.c, .int .u64 p.p, p.a.v, p.m.v] 39] [sl p.m.A 1 (IE .i64) p.M]
  obtain ⟨hj, hL⟩ := hI
  have hLl : L.length = 17 + p.D.length + 2 * (p.M.take j).length := by
    rw [hL, List.length_append, List.length_append, headL_len, memL_len]
  have hjt : (p.M.take j).length ≤ 8 := by rw [List.length_take]; omega
  (repeat (first | refine g_nil ?_ | refine g_pure true hT rfl rfl rfl sI ?_ | refine g_skip rfl rfl ?_ | refine g_skip0 rfl rfl ?_ | refine gk_region rfl ?_ | refine gk_cond_t rfl rfl ?_ | refine gk_cond_f rfl rfl ?_ | refine g_yd rfl rfl (yd_load_blk hT rfl rfl mE rfl rfl) ?_ | refine g_yd rfl rfl (yd_load_row hT rfl rfl mE rfl rfl) ?_ | refine g_yd rfl rfl (yd_load_row0 hT rfl rfl mE rfl rfl) ?_ | refine g_yd rfl rfl (yd_eql rfl rfl rfl rfl rfl (by kernel_rfl)) ?_ | refine g_yd rfl rfl (yd_neq rfl rfl rfl rfl rfl (by kernel_rfl)) ?_ | refine g_yd rfl rfl (yd_index hT rfl rfl rfl sI rfl) ?_ | refine g_yd rfl rfl (yd_slice_nil hT rfl rfl rfl rfl) ?_ | refine g_yd rfl rfl (yd_build_arr hT rfl rfl rfl rfl rfl rfl) ?_ | (refine g_mv rfl ?_; first | (refine mv_box rfl rfl rfl rfl ?_; intro _) | (refine mv_alloc rfl hT rfl rfl ?_; intro _) | refine mv_store hT rfl rfl rfl rfl rfl rfl sO rfl ?_ | (refine mv_buildSlice rfl hT rfl rfl rfl rfl rfl rfl rfl rfl ?_; intro _)) | refine g_yd rfl rfl (Ys.yd (ys_str_eql hT rfl rfl rfl rfl)) ?_ | refine g_yd rfl rfl (Ys.yd (ys_str_neq hT rfl rfl rfl rfl)) ?_))
  refine gk_cond rfl rfl (tells_tB _) (fun h1 => ?_) (fun h1 => ?_)
  · refine gk_elem (enc := IE .i64) (L := p.M) j mE (by omega) (by decide) (fun b off y eA hy => ?_)
    have hy9 := f9 y (List.mem_of_getElem? hy)
    (repeat (first | refine g_nil ?_ | refine g_pure true hT rfl rfl rfl sI ?_ | refine g_skip rfl rfl ?_ | refine g_skip0 rfl rfl ?_ | refine gk_region rfl ?_ | refine gk_cond_t rfl rfl ?_ | refine gk_cond_f rfl rfl ?_ | refine g_yd rfl rfl (yd_load_blk hT rfl rfl mE rfl rfl) ?_ | refine g_yd rfl rfl (yd_load_row hT rfl rfl mE rfl rfl) ?_ | refine g_yd rfl rfl (yd_load_row0 hT rfl rfl mE rfl rfl) ?_ | refine g_yd rfl rfl (yd_eql rfl rfl rfl rfl rfl (by kernel_rfl)) ?_ | refine g_yd rfl rfl (yd_neq rfl rfl rfl rfl rfl (by kernel_rfl)) ?_ | refine g_yd rfl rfl (yd_index hT rfl rfl rfl sI rfl) ?_ | refine g_yd rfl rfl (yd_slice_nil hT rfl rfl rfl rfl) ?_ | refine g_yd rfl rfl (yd_build_arr hT rfl rfl rfl rfl rfl rfl) ?_ | (refine g_mv rfl ?_; first | (refine mv_box rfl rfl rfl rfl ?_; intro _) | (refine mv_alloc rfl hT rfl rfl ?_; intro _) | refine mv_store hT rfl rfl rfl rfl rfl rfl sO rfl ?_ | (refine mv_buildSlice rfl hT rfl rfl rfl rfl rfl rfl rfl rfl ?_; intro _)) | refine g_yd rfl rfl (Ys.yd (ys_str_eql hT rfl rfl rfl rfl)) ?_ | refine g_yd rfl rfl (Ys.yd (ys_str_neq hT rfl rfl rfl rfl)) ?_))
    refine g_say 55 (.slice (some ⟨b, off, none⟩) p.m.n p.m.c) rfl (by rw [← eA]; rfl) ?_
    (repeat (first | refine g_nil ?_ | refine g_pure true hT rfl rfl rfl sI ?_ | refine g_skip rfl rfl ?_ | refine g_skip0 rfl rfl ?_ | refine gk_region rfl ?_ | refine gk_cond_t rfl rfl ?_ | refine gk_cond_f rfl rfl ?_ | refine g_yd rfl rfl (yd_load_blk hT rfl rfl mE rfl rfl) ?_ | refine g_yd rfl rfl (yd_load_row hT rfl rfl mE rfl rfl) ?_ | refine g_yd rfl rfl (yd_load_row0 hT rfl rfl mE rfl rfl) ?_ | refine g_yd rfl rfl (yd_eql rfl rfl rfl rfl rfl (by kernel_rfl)) ?_ | refine g_yd rfl rfl (yd_neq rfl rfl rfl rfl rfl (by kernel_rfl)) ?_ | refine g_yd rfl rfl (yd_index hT rfl rfl rfl sI rfl) ?_ | refine g_yd rfl rfl (yd_slice_nil hT rfl rfl rfl rfl) ?_ | refine g_yd rfl rfl (yd_build_arr hT rfl rfl rfl rfl rfl rfl) ?_ | (refine g_mv rfl ?_; first | (refine mv_box rfl rfl rfl rfl ?_; intro _) | (refine mv_alloc rfl hT rfl rfl ?_; intro _) | refine mv_store hT rfl rfl rfl rfl rfl rfl sO rfl ?_ | (refine mv_buildSlice rfl hT rfl rfl rfl rfl rfl rfl rfl rfl ?_; intro _)) | refine g_yd rfl rfl (Ys.yd (ys_str_eql hT rfl rfl rfl rfl)) ?_ | refine g_yd rfl rfl (Ys.yd (ys_str_neq hT rfl rfl rfl rfl)) ?_))
    refine g_ownv v mE (fun A1 c1 hv _ _ _ => ?_)
    subst hv
    refine g_mv rfl ?_; refine mv_call_own (fun w hk => Fix.rput_any A1 _ c1 L y 2 2 w rfl (by omega) (by omega) (by omega) rfl (own_sl hk mE) (by omega)) rfl rfl rfl rfl rfl (by kernel_rfl) (fun v' => ?_)
    (repeat (first | refine g_nil ?_ | refine g_pure true hT rfl rfl rfl sI ?_ | refine g_skip rfl rfl ?_ | refine g_skip0 rfl rfl ?_ | refine gk_region rfl ?_ | refine gk_cond_t rfl rfl ?_ | refine gk_cond_f rfl rfl ?_ | refine g_yd rfl rfl (yd_load_blk hT rfl rfl mE rfl rfl) ?_ | refine g_yd rfl rfl (yd_load_row hT rfl rfl mE rfl rfl) ?_ | refine g_yd rfl rfl (yd_load_row0 hT rfl rfl mE rfl rfl) ?_ | refine g_yd rfl rfl (yd_eql rfl rfl rfl rfl rfl (by kernel_rfl)) ?_ | refine g_yd rfl rfl (yd_neq rfl rfl rfl rfl rfl (by kernel_rfl)) ?_ | refine g_yd rfl rfl (yd_index hT rfl rfl rfl sI rfl) ?_ | refine g_yd rfl rfl (yd_slice_nil hT rfl rfl rfl rfl) ?_ | refine g_yd rfl rfl (yd_build_arr hT rfl rfl rfl rfl rfl rfl) ?_ | (refine g_mv rfl ?_; first | (refine mv_box rfl rfl rfl rfl ?_; intro _) | (refine mv_alloc rfl hT rfl rfl ?_; intro _) | refine mv_store hT rfl rfl rfl rfl rfl rfl sO rfl ?_ | (refine mv_buildSlice rfl hT rfl rfl rfl rfl rfl rfl rfl rfl ?_; intro _)) | refine g_yd rfl rfl (Ys.yd (ys_str_eql hT rfl rfl rfl rfl)) ?_ | refine g_yd rfl rfl (Ys.yd (ys_str_neq hT rfl rfl rfl rfl)) ?_))
    refine gk_again_sel rfl (j + 1, v', L ++ le y 2) ⟨by omega, by rw [memL_take hy, hL, List.append_assoc]⟩ (by dsimp only; omega) (by repeat (first | exact trivial | refine ⟨rfl, ?_⟩)) sA sS
  · have hjl : j = p.M.length := by omega
    rw [hjl, List.take_length] at hL
    have hLB : L = B := by rw [hL, ← hBp]; rfl
    subst hLB
    (repeat (first | refine g_nil ?_ | refine g_pure true hT rfl rfl rfl sI ?_ | refine g_skip rfl rfl ?_ | refine g_skip0 rfl rfl ?_ | refine gk_region rfl ?_ | refine gk_cond_t rfl rfl ?_ | refine gk_cond_f rfl rfl ?_ | refine g_yd rfl rfl (yd_load_blk hT rfl rfl mE rfl rfl) ?_ | refine g_yd rfl rfl (yd_load_row hT rfl rfl mE rfl rfl) ?_ | refine g_yd rfl rfl (yd_load_row0 hT rfl rfl mE rfl rfl) ?_ | refine g_yd rfl rfl (yd_eql rfl rfl rfl rfl rfl (by kernel_rfl)) ?_ | refine g_yd rfl rfl (yd_neq rfl rfl rfl rfl rfl (by kernel_rfl)) ?_ | refine g_yd rfl rfl (yd_index hT rfl rfl rfl sI rfl) ?_ | refine g_yd rfl rfl (yd_slice_nil hT rfl rfl rfl rfl) ?_ | refine g_yd rfl rfl (yd_build_arr hT rfl rfl rfl rfl rfl rfl) ?_ | (refine g_mv rfl ?_; first | (refine mv_box rfl rfl rfl rfl ?_; intro _) | (refine mv_alloc rfl hT rfl rfl ?_; intro _) | refine mv_store hT rfl rfl rfl rfl rfl rfl sO rfl ?_ | (refine mv_buildSlice rfl hT rfl rfl rfl rfl rfl rfl rfl rfl ?_; intro _)) | refine g_yd rfl rfl (Ys.yd (ys_str_eql hT rfl rfl rfl rfl)) ?_ | refine g_yd rfl rfl (Ys.yd (ys_str_neq hT rfl rfl rfl rfl)) ?_))
    refine gk_freeze _ (by intro _; repeat (first | exact Upd.here _ | apply Upd.there)) (fun A2 c2 hA2 hA21 hA22 hA23 => ?_); subst hA2
    refine gk_ret hT rfl rfl (.tmp rfl .nil) (fun w' hk => ?_)
    exact ret_own (F := fun v => v) hk sA rfl hA21 hA22 hA23
/-! ### the law -/
theorem same_trans {a b c : OpD} (h : sameP a b) (h' : sameP b c) : sameP a c := by
  obtain ⟨a1, a2, a3, a4, a5, a6, a7, a8⟩ := h
  obtain ⟨b1, b2, b3, b4, b5, b6, b7, b8⟩ := h'
  exact ⟨a1.trans b1, a2.trans b2, a3.trans b3, a4.trans b4, a5.trans b5, a6.trans b6, a7.trans b7, a8.trans b8⟩
theorem plain_idem {o p : OpD} {l : List Nat} (h : PlainAt o l p) : PlainAt p l p := by
  obtain ⟨ek, ev, ei, eb, ec, ep, eD, eM, ok⟩ := h
  refine ⟨rfl, ?_, ?_, ?_, ?_, ?_, ?_, ?_, ok⟩
  all_goals (split <;> simp_all)
theorem may_plain {o p : OpD} {l : List Nat} (h : PlainAt o l p) {c : Nat} (hc : c ∈ l) : mayB p c = mayB o c := by
  obtain ⟨ek, ev, ei, eb, ec, ep, eD, eM, ok⟩ := h
  unfold mayB
  by_cases h1 : (c : Int) = 118
  · have : c = 118 := by omega
    subst this
    rw [if_pos h1, if_pos h1, ev, if_pos hc]
  rw [if_neg h1, if_neg h1]
  by_cases h2 : (c : Int) = 105
  · have : c = 105 := by omega
    subst this
    rw [if_pos h2, if_pos h2, ei, if_pos hc]
  rw [if_neg h2, if_neg h2]
  by_cases h3 : (c : Int) = 98
  · have : c = 98 := by omega
    subst this
    rw [if_pos h3, if_pos h3, eb, if_pos hc]
  rw [if_neg h3, if_neg h3]
  by_cases h4 : (c : Int) = 110
  · have : c = 110 := by omega
    subst this
    rw [if_pos h4, if_pos h4, ec, if_pos hc]
  rw [if_neg h4, if_neg h4]
  by_cases h5 : (c : Int) = 100
  · have : c = 100 := by omega
    subst this
    rw [if_pos h5, if_pos h5, eD, if_pos hc]
  rw [if_neg h5, if_neg h5]
  by_cases h6 : (c : Int) = 109
  · have : c = 109 := by omega
    subst this
    rw [if_pos h6, if_pos h6, eM, if_pos hc]
  rw [if_neg h6, if_neg h6]
theorem right_plain {o p : OpD} (h : PlainAt o (looks o.k) p) : rrightB p = rrightB o := by
  unfold rrightB
  rw [h.ek]
  congr 1
  rw [Bool.eq_iff_iff, List.all_eq_true, List.all_eq_true]
  constructor
  · intro h1 c hc; rw [← may_plain h hc]; exact h1 c hc
  · intro h1 c hc; rw [may_plain h hc]; exact h1 c hc
theorem code_put {o p : OpD} (hk : 1 ≤ o.k ∧ o.k ≤ 14) (hr : rrightB o = true) (hp : PlainAt o (looks o.k) p) (hf : Fits p) : codeL (putL p) = 0 ∧ sameP (dec (putL p) nS nS) p := by
  obtain ⟨e1, e2, e3⟩ := dec_put (fits_rg hf) nS nS
  refine ⟨?_, e3⟩
  have hl := putL_len p
  rw [code_full (by omega) (by rw [e1, e2, hl]), if_neg]
  intro h
  apply h
  refine tB_iff.2 ⟨?_, ?_, ?_⟩
  · rw [e3.1, hp.ek]; exact hk
  · rw [rright_same e3, right_plain hp]; exact hr
  · rw [putPl_same e3, e3.1, hp.ek]
    exact (putPl_of (plain_idem hp)).symm
end Go.Proofs.Ytkdphoacniigjaa.OpA
