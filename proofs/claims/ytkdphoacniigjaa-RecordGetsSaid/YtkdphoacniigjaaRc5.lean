/- The law RecordGets; a record as an argument. -/
import Derived.Test.YtkdphoacniigjaaRc4
import Derived.Test.YtkdphoacniigjaaOpH
namespace Go.Proofs.Ytkdphoacniigjaa.Rec
open Go.RowKit Mem Gx Sls Bytes Rd OpA
set_option linter.unusedVariables false
set_option linter.unusedSimpArgs false
set_option maxRecDepth 100000
set_option maxHeartbeats 4000000
theorem getR_same {L : List Int} {s t : RecD × Int} (h : GetR L s) (h' : GetR L t) : sameR s.1 t.1 ∧ s.2 = t.2 := by
  refine ⟨?_, h.code.trans h'.code.symm⟩
  by_cases hc : rcode L = 0
  · exact sameR_trans (h.yes hc) (sameR_symm (h'.yes hc))
  · exact sameR_trans (h.no hc) (sameR_symm (h'.no hc))
theorem dec_few {L : List Int} (hB : IsB L) (h9 : L.length ≤ 10000) : (dec L nS nS).D.length ≤ 100000000 ∧ (dec L nS nS).M.length ≤ 100000000 := by
  have hm : dm L ≤ 255 := by
    unfold dm
    have := at_bd hB 16 1 256 (by decide)
    omega
  constructor
  · show ((L.drop 17).take (dn L)).length ≤ _
    rw [List.length_take, List.length_drop]; omega
  · show (decM (L.drop (17 + dn L)) (dm L)).length ≤ _
    rw [decM_len]; omega
theorem decR_few {L : List Int} (hB : IsB L) : (decR (pgR L).1).o.D.length ≤ 100000000 ∧ (decR (pgR L).1).o.M.length ≤ 100000000 := by
  obtain ⟨h1, h2⟩ := pg_bd hB
  exact dec_few (h1.drop 24) (by rw [List.length_drop]; omega)
theorem getR_few {L : List Int} {s : RecD × Int} (h : GetR L s) (hB : IsB L) : s.1.o.D.length ≤ 100000000 ∧ s.1.o.M.length ≤ 100000000 := by
  by_cases hc : rcode L = 0
  · exact rc_few (h.yes hc) (decR_few hB).1 (decR_few hB).2
  · exact rc_few (h.no hc) (Nat.zero_le _) (Nat.zero_le _)
theorem ofR_few {L : List Int} {g l : Int} {s : RecD × Int} (h : OfR L g l s) (hB : IsB L) : s.1.o.D.length ≤ 100000000 ∧ s.1.o.M.length ≤ 100000000 := by
  by_cases hc : ocode L g l = 0
  · exact rc_few (h.yes hc) (decR_few hB).1 (decR_few hB).2
  · exact rc_few (h.no hc) (Nat.zero_le _) (Nat.zero_le _)
theorem recGets_any (A : Option Addr) (n c : Nat) (L : List Int) (a0 a1 : Int) (x : RecD) (w : World) (hs0 : (SlV.mk A n c).Ok L.length) (hL : Sl w A 1 (IE .u8) L) (hB : IsB L) (ho : x.Ok) (hi : x.In w) (hb : x.Bd) :
    Calls Try.prog 11 [.slice A n c, .agg #[.int .u64 a0, .int .u64 a1], x.val].toArray w fun e w' => e = .returned (.bool true) ∧ Below w.heap.size w w' := by
  have hn : n = L.length := hs0.n
  have hn9 : n ≤ 9223372036854775807 := by
    have h1 : n ≤ c := hs0.c
    have h2 : c ≤ maxLen := hs0.mx
    unfold maxLen at h2; omega
  by_cases h3 : 300 < n
  · refine g_enter0 T [] [] [] Try.func11 rfl Try.ntmps11 rfl (Kn.start _) ?_
    (repeat' (first | (first | refine g_nil ?_ | refine g_pure true hT rfl rfl rfl sI ?_ | refine g_skip rfl rfl ?_ | refine g_skip0 rfl rfl ?_ | refine gk_region rfl ?_ | refine gk_cond_t rfl rfl ?_ | refine gk_cond_f rfl rfl ?_ | refine g_yd rfl rfl (yd_load_blk hT rfl rfl mE rfl rfl) ?_ | refine g_yd rfl rfl (yd_load_row hT rfl rfl mE rfl rfl) ?_ | refine g_yd rfl rfl (yd_load_row0 hT rfl rfl mE rfl rfl) ?_ | refine g_yd rfl rfl (yd_eql rfl rfl rfl rfl rfl (by kernel_rfl)) ?_ | refine g_yd rfl rfl (yd_neq rfl rfl rfl rfl rfl (by kernel_rfl)) ?_ | refine g_yd rfl rfl (yd_index hT rfl rfl rfl sI rfl) ?_ | refine g_yd rfl rfl (yd_slice_nil hT rfl rfl rfl rfl) ?_ | refine g_yd rfl rfl (yd_build_arr hT rfl rfl rfl rfl rfl rfl) ?_ | (refine g_mv rfl ?_; first | (refine mv_box rfl rfl rfl rfl ?_; intro _) | (refine mv_alloc rfl hT rfl rfl ?_; intro _) | refine mv_store hT rfl rfl rfl rfl rfl rfl sO rfl ?_ | (refine mv_buildSlice rfl hT rfl rfl rfl rfl rfl rfl rfl rfl ?_; intro _)) | refine g_yd rfl rfl (Ys.yd (ys_str_eql hT rfl rfl rfl rfl)) ?_ | refine g_yd rfl rfl (Ys.yd (ys_str_neq hT rfl rfl rfl rfl)) ?_) | ((first | refine g_split rfl rfl tE (fun _ => ?_) (fun _ => ?_) | refine gk_cond rfl rfl tE (fun _ => ?_) (fun _ => ?_)) <;> (try first | (exfalso; omega; done) | (rename_i hx; exact absurd rfl hx) | (rename_i hx; cases hx; done)))))
    refine gk_ret hT rfl rfl (.tmp rfl .nil) (fun w' hk => ?_)
    exact ⟨rfl, hk.toBelow⟩
  by_cases hg : 300 < x.o.D.length ∨ 100 < x.o.M.length
  · have g1 := fun w => calls_b (tB_true hg) (great_any x.o w ho.o)
    refine g_enter0 T [] [] [] Try.func11 rfl Try.ntmps11 rfl (Kn.start _) ?_
    (repeat' (first | (first | refine g_nil ?_ | refine g_pure true hT rfl rfl rfl sI ?_ | refine g_skip rfl rfl ?_ | refine g_skip0 rfl rfl ?_ | refine gk_region rfl ?_ | refine gk_cond_t rfl rfl ?_ | refine gk_cond_f rfl rfl ?_ | refine g_yd rfl rfl (yd_load_blk hT rfl rfl mE rfl rfl) ?_ | refine g_yd rfl rfl (yd_load_row hT rfl rfl mE rfl rfl) ?_ | refine g_yd rfl rfl (yd_load_row0 hT rfl rfl mE rfl rfl) ?_ | refine g_yd rfl rfl (yd_eql rfl rfl rfl rfl rfl (by kernel_rfl)) ?_ | refine g_yd rfl rfl (yd_neq rfl rfl rfl rfl rfl (by kernel_rfl)) ?_ | refine g_yd rfl rfl (yd_index hT rfl rfl rfl sI rfl) ?_ | refine g_yd rfl rfl (yd_slice_nil hT rfl rfl rfl rfl) ?_ | refine g_yd rfl rfl (yd_build_arr hT rfl rfl rfl rfl rfl rfl) ?_ | (refine g_mv rfl ?_; first | (refine mv_box rfl rfl rfl rfl ?_; intro _) | (refine mv_alloc rfl hT rfl rfl ?_; intro _) | refine mv_store hT rfl rfl rfl rfl rfl rfl sO rfl ?_ | (refine mv_buildSlice rfl hT rfl rfl rfl rfl rfl rfl rfl rfl ?_; intro _)) | refine g_yd rfl rfl (Ys.yd (ys_str_eql hT rfl rfl rfl rfl)) ?_ | refine g_yd rfl rfl (Ys.yd (ys_str_neq hT rfl rfl rfl rfl)) ?_) | (refine g_mv rfl ?_; first | refine mv_call_bel (fun w hk => g1 w) rfl rfl rfl rfl rfl (by kernel_rfl) ?_) | ((first | refine g_split rfl rfl tE (fun _ => ?_) (fun _ => ?_) | refine gk_cond rfl rfl tE (fun _ => ?_) (fun _ => ?_)) <;> (try first | (exfalso; omega; done) | (rename_i hx; exact absurd rfl hx) | (rename_i hx; cases hx; done)))))
    refine gk_ret hT rfl rfl (.tmp rfl .nil) (fun w' hk => ?_)
    exact ⟨rfl, hk.toBelow⟩
  have g1 := fun w => calls_b (tB_false hg) (great_any x.o w ho.o)
  refine g_enter0 T [] [] [sl A 1 (IE .u8) L, sl x.o.m.A 1 (IE .i64) x.o.M, sl x.o.a.A 1 (IE .u8) x.o.D] Try.func11 rfl Try.ntmps11 rfl ((((Kn.start w).argR hi.o.a (by decide) (fun _ h => by cases h)).argR hi.o.m (by decide) (fun _ h => by cases h)).argR hL (by decide) (fun _ h => by cases h)) ?_
  (repeat' (first | (first | refine g_nil ?_ | refine g_pure true hT rfl rfl rfl sI ?_ | refine g_skip rfl rfl ?_ | refine g_skip0 rfl rfl ?_ | refine gk_region rfl ?_ | refine gk_cond_t rfl rfl ?_ | refine gk_cond_f rfl rfl ?_ | refine g_yd rfl rfl (yd_load_blk hT rfl rfl mE rfl rfl) ?_ | refine g_yd rfl rfl (yd_load_row hT rfl rfl mE rfl rfl) ?_ | refine g_yd rfl rfl (yd_load_row0 hT rfl rfl mE rfl rfl) ?_ | refine g_yd rfl rfl (yd_eql rfl rfl rfl rfl rfl (by kernel_rfl)) ?_ | refine g_yd rfl rfl (yd_neq rfl rfl rfl rfl rfl (by kernel_rfl)) ?_ | refine g_yd rfl rfl (yd_index hT rfl rfl rfl sI rfl) ?_ | refine g_yd rfl rfl (yd_slice_nil hT rfl rfl rfl rfl) ?_ | refine g_yd rfl rfl (yd_build_arr hT rfl rfl rfl rfl rfl rfl) ?_ | (refine g_mv rfl ?_; first | (refine mv_box rfl rfl rfl rfl ?_; intro _) | (refine mv_alloc rfl hT rfl rfl ?_; intro _) | refine mv_store hT rfl rfl rfl rfl rfl rfl sO rfl ?_ | (refine mv_buildSlice rfl hT rfl rfl rfl rfl rfl rfl rfl rfl ?_; intro _)) | refine g_yd rfl rfl (Ys.yd (ys_str_eql hT rfl rfl rfl rfl)) ?_ | refine g_yd rfl rfl (Ys.yd (ys_str_neq hT rfl rfl rfl rfl)) ?_) | (refine g_mv rfl ?_; first | refine mv_call_bel (fun w hk => g1 w) rfl rfl rfl rfl rfl (by kernel_rfl) ?_) | ((first | refine g_split rfl rfl tE (fun _ => ?_) (fun _ => ?_) | refine gk_cond rfl rfl tE (fun _ => ?_) (fun _ => ?_)) <;> (try first | (exfalso; omega; done) | (rename_i hx; exact absurd rfl hx) | (rename_i hx; cases hx; done)))))
  rename_i g4 g5 _
  refine g_mv rfl ?_; refine mv_call_rt (fun w hk => rcget_any ⟨A, n, c⟩ L w hs0 (hk.pR (sl A 1 (IE .u8) L) mE) hB) rfl rfl rfl rfl rfl (by kernel_rfl) (fun _ => rfl) (fun s hs => ?_)
  (repeat (first | refine g_nil ?_ | refine g_pure true hT rfl rfl rfl sI ?_ | refine g_skip rfl rfl ?_ | refine g_skip0 rfl rfl ?_ | refine gk_region rfl ?_ | refine gk_cond_t rfl rfl ?_ | refine gk_cond_f rfl rfl ?_ | refine g_yd rfl rfl (yd_load_blk hT rfl rfl mE rfl rfl) ?_ | refine g_yd rfl rfl (yd_load_row hT rfl rfl mE rfl rfl) ?_ | refine g_yd rfl rfl (yd_load_row0 hT rfl rfl mE rfl rfl) ?_ | refine g_yd rfl rfl (yd_eql rfl rfl rfl rfl rfl (by kernel_rfl)) ?_ | refine g_yd rfl rfl (yd_neq rfl rfl rfl rfl rfl (by kernel_rfl)) ?_ | refine g_yd rfl rfl (yd_index hT rfl rfl rfl sI rfl) ?_ | refine g_yd rfl rfl (yd_slice_nil hT rfl rfl rfl rfl) ?_ | refine g_yd rfl rfl (yd_build_arr hT rfl rfl rfl rfl rfl rfl) ?_ | (refine g_mv rfl ?_; first | (refine mv_box rfl rfl rfl rfl ?_; intro _) | (refine mv_alloc rfl hT rfl rfl ?_; intro _) | refine mv_store hT rfl rfl rfl rfl rfl rfl sO rfl ?_ | (refine mv_buildSlice rfl hT rfl rfl rfl rfl rfl rfl rfl rfl ?_; intro _)) | refine g_yd rfl rfl (Ys.yd (ys_str_eql hT rfl rfl rfl rfl)) ?_ | refine g_yd rfl rfl (Ys.yd (ys_str_neq hT rfl rfl rfl rfl)) ?_))
  rename_i g7
  refine g_mv rfl ?_; refine mv_call_rt (fun w hk => rrcget_any ⟨A, n, c⟩ L w hs0 (hk.pR (sl A 1 (IE .u8) L) mE) hB) rfl rfl rfl rfl rfl (by kernel_rfl) (fun _ => rfl) (fun t ht => ?_)
  (repeat (first | refine g_nil ?_ | refine g_pure true hT rfl rfl rfl sI ?_ | refine g_skip rfl rfl ?_ | refine g_skip0 rfl rfl ?_ | refine gk_region rfl ?_ | refine gk_cond_t rfl rfl ?_ | refine gk_cond_f rfl rfl ?_ | refine g_yd rfl rfl (yd_load_blk hT rfl rfl mE rfl rfl) ?_ | refine g_yd rfl rfl (yd_load_row hT rfl rfl mE rfl rfl) ?_ | refine g_yd rfl rfl (yd_load_row0 hT rfl rfl mE rfl rfl) ?_ | refine g_yd rfl rfl (yd_eql rfl rfl rfl rfl rfl (by kernel_rfl)) ?_ | refine g_yd rfl rfl (yd_neq rfl rfl rfl rfl rfl (by kernel_rfl)) ?_ | refine g_yd rfl rfl (yd_index hT rfl rfl rfl sI rfl) ?_ | refine g_yd rfl rfl (yd_slice_nil hT rfl rfl rfl rfl) ?_ | refine g_yd rfl rfl (yd_build_arr hT rfl rfl rfl rfl rfl rfl) ?_ | (refine g_mv rfl ?_; first | (refine mv_box rfl rfl rfl rfl ?_; intro _) | (refine mv_alloc rfl hT rfl rfl ?_; intro _) | refine mv_store hT rfl rfl rfl rfl rfl rfl sO rfl ?_ | (refine mv_buildSlice rfl hT rfl rfl rfl rfl rfl rfl rfl rfl ?_; intro _)) | refine g_yd rfl rfl (Ys.yd (ys_str_eql hT rfl rfl rfl rfl)) ?_ | refine g_yd rfl rfl (Ys.yd (ys_str_neq hT rfl rfl rfl rfl)) ?_))
  rename_i g9
  refine g_mv rfl ?_; refine mv_call_rt (fun w hk => rcof_any ⟨A, n, c⟩ L a0 a1 w hs0 (hk.pR (sl A 1 (IE .u8) L) mE) hB) rfl rfl rfl rfl rfl (by kernel_rfl) (fun _ => rfl) (fun u hu => ?_)
  (repeat (first | refine g_nil ?_ | refine g_pure true hT rfl rfl rfl sI ?_ | refine g_skip rfl rfl ?_ | refine g_skip0 rfl rfl ?_ | refine gk_region rfl ?_ | refine gk_cond_t rfl rfl ?_ | refine gk_cond_f rfl rfl ?_ | refine g_yd rfl rfl (yd_load_blk hT rfl rfl mE rfl rfl) ?_ | refine g_yd rfl rfl (yd_load_row hT rfl rfl mE rfl rfl) ?_ | refine g_yd rfl rfl (yd_load_row0 hT rfl rfl mE rfl rfl) ?_ | refine g_yd rfl rfl (yd_eql rfl rfl rfl rfl rfl (by kernel_rfl)) ?_ | refine g_yd rfl rfl (yd_neq rfl rfl rfl rfl rfl (by kernel_rfl)) ?_ | refine g_yd rfl rfl (yd_index hT rfl rfl rfl sI rfl) ?_ | refine g_yd rfl rfl (yd_slice_nil hT rfl rfl rfl rfl) ?_ | refine g_yd rfl rfl (yd_build_arr hT rfl rfl rfl rfl rfl rfl) ?_ | (refine g_mv rfl ?_; first | (refine mv_box rfl rfl rfl rfl ?_; intro _) | (refine mv_alloc rfl hT rfl rfl ?_; intro _) | refine mv_store hT rfl rfl rfl rfl rfl rfl sO rfl ?_ | (refine mv_buildSlice rfl hT rfl rfl rfl rfl rfl rfl rfl rfl ?_; intro _)) | refine g_yd rfl rfl (Ys.yd (ys_str_eql hT rfl rfl rfl rfl)) ?_ | refine g_yd rfl rfl (Ys.yd (ys_str_neq hT rfl rfl rfl rfl)) ?_))
  rename_i g11
  obtain ⟨hst, hcode⟩ := getR_same hs ht
  have hsf := getR_few hs hB
  have htf := getR_few ht hB
  have huf := ofR_few hu hB
  refine gk_any [6, 3, 9] (Cut _ (fun _ : Unit => [(4, .pointer (some ⟨g4, 0, none⟩)), (9, .pointer (some ⟨g9, 0, none⟩)), (10, .int .i64 t.2), (11, .pointer (some ⟨g11, 0, none⟩)), (12, .int .i64 u.2), (57, .bool false)]) (fun _ => [blk g11 [.int .u64 u.1.g, .int .u64 u.1.l, .int .u64 u.1.t, .int .i64 u.1.o.k, .int .i64 u.1.o.v, .int .i64 u.1.o.i, .int .i64 u.1.o.b, .int .i64 u.1.o.c, .int .u64 u.1.o.p, u.1.o.a.v, u.1.o.m.v] 68, sl u.1.o.a.A 1 (IE .u8) u.1.o.D, sl u.1.o.m.A 1 (IE .i64) u.1.o.M, blk g9 [.int .u64 t.1.g, .int .u64 t.1.l, .int .u64 t.1.t, .int .i64 t.1.o.k, .int .i64 t.1.o.v, .int .i64 t.1.o.i, .int .i64 t.1.o.b, .int .i64 t.1.o.c, .int .u64 t.1.o.p, t.1.o.a.v, t.1.o.m.v] 68, sl t.1.o.a.A 1 (IE .u8) t.1.o.D, sl t.1.o.m.A 1 (IE .i64) t.1.o.M, blk g4 [.int .u64 a0, .int .u64 a1] 66]) (fun _ => [])) rfl rfl (by kernel_rfl) ?_ (cut_k fun _ => ?_)
  · skip
    refine gb_take 0 rfl (by decide +kernel) rfl rfl (by first | exact ys_blk hT rfl rfl mE rfl rfl | exact ys_row hT rfl rfl mE rfl rfl | exact ys_row0 hT rfl rfl mE rfl rfl) sF ?_
    refine gb_take 1 rfl (by decide +kernel) rfl rfl (by first | exact ys_blk hT rfl rfl mE rfl rfl | exact ys_row hT rfl rfl mE rfl rfl | exact ys_row0 hT rfl rfl mE rfl rfl) sF ?_
    refine gb_only 2 (by decide +kernel) rfl rfl ?_
    refine mv_call_bel (fun w hk => calls_b (tB_true hst) (rrcsame_any s.1 t.1 w hs.ok ⟨hk.pO (sl s.1.o.a.A 1 (IE .u8) s.1.o.D) mE, hk.pO (sl s.1.o.m.A 1 (IE .i64) s.1.o.M) mE⟩ ht.ok ⟨hk.pO (sl t.1.o.a.A 1 (IE .u8) t.1.o.D) mE, hk.pO (sl t.1.o.m.A 1 (IE .i64) t.1.o.M) mE⟩ hsf)) rfl rfl rfl rfl rfl (by kernel_rfl) ?_
    refine ⟨sF, ?_⟩
    refine gb_take 3 rfl (by decide +kernel) rfl rfl (ys_ev (nw := true) hT rfl sI) sF ?_
    refine gb_take 4 rfl (by decide +kernel) rfl rfl (ys_ev (nw := true) hT rfl sI) sF ?_
    first | refine gb_take 5 rfl (by decide +kernel) rfl rfl (ys_ev (nw := true) hT rfl sI) sF ?_ | refine gb_skip 5 rfl (by decide +kernel) rfl rfl sF ?_
    first | refine gb_take 6 rfl (by decide +kernel) rfl rfl (ys_ev (nw := true) hT rfl sI) sF ?_ | refine gb_skip 6 rfl (by decide +kernel) rfl rfl sF ?_
    first | refine gb_take 7 rfl (by decide +kernel) rfl rfl (ys_ev (nw := true) hT rfl sI) sF ?_ | refine gb_skip 7 rfl (by decide +kernel) rfl rfl sF ?_
    try (refine gb_say 47 (.bool false) rfl (congrArg Value.bool (tB_false (fun h => h hcode))) ?_)
    refine gb_take 8 rfl (by decide +kernel) rfl rfl (ys_ev (nw := true) hT rfl sI) sF ?_
    refine gb_take 9 rfl (by decide +kernel) rfl rfl (ys_ev (nw := true) hT rfl sI) sF ?_
    first | refine gb_take 10 rfl (by decide +kernel) rfl rfl (by first | exact ys_blk hT rfl rfl mE rfl rfl | exact ys_row hT rfl rfl mE rfl rfl | exact ys_row0 hT rfl rfl mE rfl rfl) sF ?_ | refine gb_skip 10 rfl (by decide +kernel) rfl rfl sF ?_
    first | refine gb_take 11 rfl (by decide +kernel) rfl rfl (by first | exact ys_blk hT rfl rfl mE rfl rfl | exact ys_row hT rfl rfl mE rfl rfl | exact ys_row0 hT rfl rfl mE rfl rfl) sF ?_ | refine gb_skip 11 rfl (by decide +kernel) rfl rfl sF ?_
    first | refine gb_take 13 rfl (by decide +kernel) rfl rfl (by first | exact ys_blk hT rfl rfl mE rfl rfl | exact ys_row hT rfl rfl mE rfl rfl | exact ys_row0 hT rfl rfl mE rfl rfl) sF ?_ | refine gb_skip 13 rfl (by decide +kernel) rfl rfl sF ?_
    first | refine gb_take 14 rfl (by decide +kernel) rfl rfl (by first | exact ys_blk hT rfl rfl mE rfl rfl | exact ys_row hT rfl rfl mE rfl rfl | exact ys_row0 hT rfl rfl mE rfl rfl) sF ?_ | refine gb_skip 14 rfl (by decide +kernel) rfl rfl sF ?_
    first | refine gb_skip 12 rfl (by decide +kernel) rfl rfl sF ?_ | (refine gb_only 12 (by decide +kernel) rfl rfl ?_; (refine mv_call_bel (fun w hk => rcsame_any s.1 x w hs.ok ⟨hk.pO (sl s.1.o.a.A 1 (IE .u8) s.1.o.D) mE, hk.pO (sl s.1.o.m.A 1 (IE .i64) s.1.o.M) mE⟩ ho ⟨hk.pR (sl x.o.a.A 1 (IE .u8) x.o.D) mE, hk.pR (sl x.o.m.A 1 (IE .i64) x.o.M) mE⟩ hsf) rfl rfl rfl rfl rfl (by kernel_rfl) ?_); refine ⟨sF, ?_⟩)
    first | refine gb_skip 15 rfl (by decide +kernel) rfl rfl sF ?_ | (refine gb_only 15 (by decide +kernel) rfl rfl ?_; (refine mv_call_bel (fun w hk => rrcsame_any s.1 x w hs.ok ⟨hk.pO (sl s.1.o.a.A 1 (IE .u8) s.1.o.D) mE, hk.pO (sl s.1.o.m.A 1 (IE .i64) s.1.o.M) mE⟩ ho ⟨hk.pR (sl x.o.a.A 1 (IE .u8) x.o.D) mE, hk.pR (sl x.o.m.A 1 (IE .i64) x.o.M) mE⟩ hsf) rfl rfl rfl rfl rfl (by kernel_rfl) ?_); refine ⟨sF, ?_⟩)
    first | refine gb_take 16 rfl (by decide +kernel) rfl rfl (ys_ev (nw := true) hT rfl sI) sF ?_ | refine gb_skip 16 rfl (by decide +kernel) rfl rfl sF ?_
    try (refine gb_say 56 (.bool false) rfl (congrArg Value.bool (tB_false (fun h => h rfl))) ?_)
    refine gb_take 17 rfl (by decide +kernel) rfl rfl (ys_ev (nw := true) hT rfl sI) sF ?_
    refine gb_nil (by decide +kernel) ?_
    exact ⟨(), (by repeat (first | exact trivial | refine ⟨rfl, ?_⟩)), sA, List.nil_subset _⟩
  · have hoc : ocode L a0 a1 = if rcode L ≠ 0 then rcode L else if (decR (pgR L).1).g ≠ a0 ∨ (decR (pgR L).1).l ≠ a1 then 23 else 0 := rfl
    have htc := ht.code
    have huc := hu.code
    by_cases hc : rcode L = 0
    · have hsame := ht.yes hc
      rw [if_neg (by simpa using hc), ← hsame.1, ← hsame.2.1] at hoc
      have ht0 : t.2 = 0 := by rw [htc, hc]
      by_cases hm : t.1.g = a0 ∧ t.1.l = a1
      · obtain ⟨m1, m2⟩ := hm
        rw [if_neg (by simp [m1, m2])] at hoc
        have hut : sameR u.1 t.1 := sameR_trans (hu.yes hoc) (sameR_symm hsame)
        have hu0 : u.2 = t.2 := by rw [huc, hoc, ht0]
        (repeat' (first | (first | refine g_nil ?_ | refine g_pure true hT rfl rfl rfl sI ?_ | refine g_skip rfl rfl ?_ | refine g_skip0 rfl rfl ?_ | refine gk_region rfl ?_ | refine gk_cond_t rfl rfl ?_ | refine gk_cond_f rfl rfl ?_ | refine g_yd rfl rfl (yd_load_blk hT rfl rfl mE rfl rfl) ?_ | refine g_yd rfl rfl (yd_load_row hT rfl rfl mE rfl rfl) ?_ | refine g_yd rfl rfl (yd_load_row0 hT rfl rfl mE rfl rfl) ?_ | refine g_yd rfl rfl (yd_eql rfl rfl rfl rfl rfl (by kernel_rfl)) ?_ | refine g_yd rfl rfl (yd_neq rfl rfl rfl rfl rfl (by kernel_rfl)) ?_ | refine g_yd rfl rfl (yd_index hT rfl rfl rfl sI rfl) ?_ | refine g_yd rfl rfl (yd_slice_nil hT rfl rfl rfl rfl) ?_ | refine g_yd rfl rfl (yd_build_arr hT rfl rfl rfl rfl rfl rfl) ?_ | (refine g_mv rfl ?_; first | (refine mv_box rfl rfl rfl rfl ?_; intro _) | (refine mv_alloc rfl hT rfl rfl ?_; intro _) | refine mv_store hT rfl rfl rfl rfl rfl rfl sO rfl ?_ | (refine mv_buildSlice rfl hT rfl rfl rfl rfl rfl rfl rfl rfl ?_; intro _)) | refine g_yd rfl rfl (Ys.yd (ys_str_eql hT rfl rfl rfl rfl)) ?_ | refine g_yd rfl rfl (Ys.yd (ys_str_neq hT rfl rfl rfl rfl)) ?_) | (refine g_mv rfl ?_; first | refine mv_call_bel (fun w hk => calls_b (tB_true hut) (rrcsame_any u.1 t.1 w hu.ok ⟨hk.pO (sl u.1.o.a.A 1 (IE .u8) u.1.o.D) mE, hk.pO (sl u.1.o.m.A 1 (IE .i64) u.1.o.M) mE⟩ ht.ok ⟨hk.pO (sl t.1.o.a.A 1 (IE .u8) t.1.o.D) mE, hk.pO (sl t.1.o.m.A 1 (IE .i64) t.1.o.M) mE⟩ huf)) rfl rfl rfl rfl rfl (by kernel_rfl) ?_ | refine mv_call_bel (fun w hk => rcalive_any w) rfl rfl rfl rfl rfl (by kernel_rfl) ?_) | ((first | refine g_split rfl rfl tE (fun _ => ?_) (fun _ => ?_) | refine gk_cond rfl rfl tE (fun _ => ?_) (fun _ => ?_)) <;> (try first | (exfalso; omega; done) | (rename_i hx; exact absurd rfl hx) | (rename_i hx; cases hx; done)))))
        all_goals (refine gk_ret hT rfl rfl (.tmp rfl .nil) (fun w' hk => ?_); exact ⟨ret_bool (by simp [tB_eq, hu0]), hk.toBelow⟩)
      · rw [if_pos (by by_cases h1 : t.1.g = a0; exact .inr (fun h2 => hm ⟨h1, h2⟩); exact .inl h1)] at hoc
        have hut : sameR u.1 recZ := hu.no (by rw [hoc]; decide)
        have hu0 : u.2 = 23 := by rw [huc, hoc]
        (repeat' (first | (first | refine g_nil ?_ | refine g_pure true hT rfl rfl rfl sI ?_ | refine g_skip rfl rfl ?_ | refine g_skip0 rfl rfl ?_ | refine gk_region rfl ?_ | refine gk_cond_t rfl rfl ?_ | refine gk_cond_f rfl rfl ?_ | refine g_yd rfl rfl (yd_load_blk hT rfl rfl mE rfl rfl) ?_ | refine g_yd rfl rfl (yd_load_row hT rfl rfl mE rfl rfl) ?_ | refine g_yd rfl rfl (yd_load_row0 hT rfl rfl mE rfl rfl) ?_ | refine g_yd rfl rfl (yd_eql rfl rfl rfl rfl rfl (by kernel_rfl)) ?_ | refine g_yd rfl rfl (yd_neq rfl rfl rfl rfl rfl (by kernel_rfl)) ?_ | refine g_yd rfl rfl (yd_index hT rfl rfl rfl sI rfl) ?_ | refine g_yd rfl rfl (yd_slice_nil hT rfl rfl rfl rfl) ?_ | refine g_yd rfl rfl (yd_build_arr hT rfl rfl rfl rfl rfl rfl) ?_ | (refine g_mv rfl ?_; first | (refine mv_box rfl rfl rfl rfl ?_; intro _) | (refine mv_alloc rfl hT rfl rfl ?_; intro _) | refine mv_store hT rfl rfl rfl rfl rfl rfl sO rfl ?_ | (refine mv_buildSlice rfl hT rfl rfl rfl rfl rfl rfl rfl rfl ?_; intro _)) | refine g_yd rfl rfl (Ys.yd (ys_str_eql hT rfl rfl rfl rfl)) ?_ | refine g_yd rfl rfl (Ys.yd (ys_str_neq hT rfl rfl rfl rfl)) ?_) | (refine g_mv rfl ?_; first | refine mv_call_bel (fun w hk => calls_b (tB_true hut) (rrcsame_any u.1 recZ w hu.ok ⟨hk.pO (sl u.1.o.a.A 1 (IE .u8) u.1.o.D) mE, hk.pO (sl u.1.o.m.A 1 (IE .i64) u.1.o.M) mE⟩ rec_zero ⟨Sl.nil, Sl.nil⟩ huf)) rfl rfl rfl rfl rfl (by kernel_rfl) ?_ | refine mv_call_bel (fun w hk => rcalive_any w) rfl rfl rfl rfl rfl (by kernel_rfl) ?_) | ((first | refine g_split rfl rfl tE (fun _ => ?_) (fun _ => ?_) | refine gk_cond rfl rfl tE (fun _ => ?_) (fun _ => ?_)) <;> (try first | (exfalso; omega; done) | (rename_i hx; exact absurd rfl hx) | (rename_i hx; cases hx; done)))))
        all_goals (refine gk_ret hT rfl rfl (.tmp rfl .nil) (fun w' hk => ?_); exact ⟨ret_bool (by simp [tB_eq, hu0]), hk.toBelow⟩)
    · rw [if_pos (by simpa using hc)] at hoc
      have ht0 : ¬ t.2 = 0 := by rw [htc]; exact hc
      have hut : sameR u.1 t.1 := sameR_trans (hu.no (by rw [hoc]; exact hc)) (sameR_symm (ht.no hc))
      have hu0 : u.2 = t.2 := by rw [huc, hoc, htc]
      (repeat' (first | (first | refine g_nil ?_ | refine g_pure true hT rfl rfl rfl sI ?_ | refine g_skip rfl rfl ?_ | refine g_skip0 rfl rfl ?_ | refine gk_region rfl ?_ | refine gk_cond_t rfl rfl ?_ | refine gk_cond_f rfl rfl ?_ | refine g_yd rfl rfl (yd_load_blk hT rfl rfl mE rfl rfl) ?_ | refine g_yd rfl rfl (yd_load_row hT rfl rfl mE rfl rfl) ?_ | refine g_yd rfl rfl (yd_load_row0 hT rfl rfl mE rfl rfl) ?_ | refine g_yd rfl rfl (yd_eql rfl rfl rfl rfl rfl (by kernel_rfl)) ?_ | refine g_yd rfl rfl (yd_neq rfl rfl rfl rfl rfl (by kernel_rfl)) ?_ | refine g_yd rfl rfl (yd_index hT rfl rfl rfl sI rfl) ?_ | refine g_yd rfl rfl (yd_slice_nil hT rfl rfl rfl rfl) ?_ | refine g_yd rfl rfl (yd_build_arr hT rfl rfl rfl rfl rfl rfl) ?_ | (refine g_mv rfl ?_; first | (refine mv_box rfl rfl rfl rfl ?_; intro _) | (refine mv_alloc rfl hT rfl rfl ?_; intro _) | refine mv_store hT rfl rfl rfl rfl rfl rfl sO rfl ?_ | (refine mv_buildSlice rfl hT rfl rfl rfl rfl rfl rfl rfl rfl ?_; intro _)) | refine g_yd rfl rfl (Ys.yd (ys_str_eql hT rfl rfl rfl rfl)) ?_ | refine g_yd rfl rfl (Ys.yd (ys_str_neq hT rfl rfl rfl rfl)) ?_) | (refine g_mv rfl ?_; first | refine mv_call_bel (fun w hk => calls_b (tB_true hut) (rrcsame_any u.1 t.1 w hu.ok ⟨hk.pO (sl u.1.o.a.A 1 (IE .u8) u.1.o.D) mE, hk.pO (sl u.1.o.m.A 1 (IE .i64) u.1.o.M) mE⟩ ht.ok ⟨hk.pO (sl t.1.o.a.A 1 (IE .u8) t.1.o.D) mE, hk.pO (sl t.1.o.m.A 1 (IE .i64) t.1.o.M) mE⟩ huf)) rfl rfl rfl rfl rfl (by kernel_rfl) ?_ | refine mv_call_bel (fun w hk => rcalive_any w) rfl rfl rfl rfl rfl (by kernel_rfl) ?_) | ((first | refine g_split rfl rfl tE (fun _ => ?_) (fun _ => ?_) | refine gk_cond rfl rfl tE (fun _ => ?_) (fun _ => ?_)) <;> (try first | (exfalso; omega; done) | (rename_i hx; exact absurd rfl hx) | (rename_i hx; cases hx; done)))))
      all_goals (refine gk_ret hT rfl rfl (.tmp rfl .nil) (fun w' hk => ?_); exact ⟨ret_bool (by simp [tB_eq, hu0]), hk.toBelow⟩)
theorem rec_of {H : Type} {enc : TypeId × Value → H} {W : World} {base : Nat} {v : Value} {d : DataW H} {p : List MemPlace} (hv : Value.okWide Try.prog W .any base 68 v) (h : DataW.Trod enc Try.prog W 0 (fun _ => true) true 68 v d p) :
    ∃ r : RecD, v = r.val ∧ r.Ok ∧ r.In W ∧ r.Bd := by
  have hl : leaves Try.prog 8 68 = some [36, 36, 36, 3, 3, 3, 3, 3, 36, 22, 37] := by decide +kernel
  obtain ⟨V, rfl, hV⟩ := open_flat hl (by kernel_rfl) (by kernel_rfl) hv h
  obtain ⟨o, e, h1, h2, h3⟩ := op_leaves (V := V) 3 rfl (fun j tj hj => hV (3 + j) tj (by
    match j, hj with
    | 0, hj => exact hj
    | 1, hj => exact hj
    | 2, hj => exact hj
    | 3, hj => exact hj
    | 4, hj => exact hj
    | 5, hj => exact hj
    | 6, hj => exact hj
    | 7, hj => exact hj
    | j + 8, hj => simp at hj))
  obtain ⟨a0, e0, w0⟩ := leaf_int Try.underlying36 (hV 0 _ rfl)
  obtain ⟨a1, e1, w1⟩ := leaf_int Try.underlying36 (hV 1 _ rfl)
  obtain ⟨a2, e2, w2⟩ := leaf_int Try.underlying36 (hV 2 _ rfl)
  refine ⟨⟨a0, a1, a2, o⟩, ?_, ⟨h1⟩, ⟨h2⟩, ⟨u64_bd w0, u64_bd w1, u64_bd w2, h3⟩⟩
  have e' : (List.range 11).map V = [V 0, V 1, V 2] ++ [V 3, V (3 + 1), V (3 + 2), V (3 + 3), V (3 + 4), V (3 + 5), V (3 + 6), V (3 + 7)] := rfl
  show Value.agg ((List.range 11).map V).toArray = _
  rw [e', e, e0, e1, e2]
  rfl
end Go.Proofs.Ytkdphoacniigjaa.Rec
