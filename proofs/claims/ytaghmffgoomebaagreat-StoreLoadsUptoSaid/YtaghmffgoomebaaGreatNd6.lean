/- The reference's Get. -/
import Derived.Test.YtaghmffgoomebaaGreatNd5
namespace Go.Proofs.YtaghmffgoomebaaGreat.Nd
open Go.RowKit Mem Gx Rd Bytes
set_option linter.unusedVariables false
set_option linter.unusedSimpArgs false
set_option maxRecDepth 100000
set_option maxHeartbeats 4000000
theorem rnget_any (A : Option Addr) (n0 c0 : Nat) (L : List Int) (w : World) (hs0 : (SlV.mk A n0 c0).Ok L.length) (hL : Sl w A 1 (IE .u8) L) (hB : IsB L) :
    Calls Tryz.prog 15 [.slice A n0 c0].toArray w (Ret (NGetI L) (fun r => .tuple #[r.1.s.v, .bool r.2.1, .int .i64 r.2.2]) (fun r => [sl r.1.s.A 4 EE r.1.M]) w) := by
  obtain ⟨hBd, hBl⟩ := getS_bd hB
  obtain ⟨kd, B, ec, hgs⟩ : ∃ kd B ec, Page.getS L = (kd, B, ec) := ⟨_, _, _, rfl⟩
  have hc := ncode_of hgs
  rw [hgs] at hBd hBl
  dsimp only at hBd hBl
  refine g_enter0 T [] [] [sl A 1 (IE .u8) L] Tryz.func15 rfl Tryz.ntmps15 rfl ((Kn.start w).argR hL (by decide) (fun _ h => by cases h)) ?_
  (repeat (refine gG ?_; try intro _))
  refine g_mv rfl ?_; refine mv_call_rt (fun w hk => ret_of_get hgs (Page.rpget_any A n0 c0 L w hs0.n hs0.c (hk.pR (sl A 1 (IE .u8) L) mE) hB)) rfl rfl rfl rfl rfl (by kernel_rfl) (fun _ => rfl) (fun b hb => ?_)
  have hbn : b.n = B.length := hb.n
  have hbc := hb.c
  by_cases he : ec = 0
  · subst he
    by_cases hk34 : kd = 3 ∨ kd = 4
    · by_cases h0 : B.length = 0
      · have hcode : ncode L = 20 := by rw [hc]; exact nc_short hk34 (by omega)
        (repeat' (first | (refine gG ?_; try intro _) | ((first | refine g_split rfl rfl tE (fun _ => ?_) (fun _ => ?_) | refine gk_cond rfl rfl tE (fun _ => ?_) (fun _ => ?_)) <;> (try first | (exfalso; omega; done) | (rename_i hx; exact absurd rfl hx) | (rename_i hx; cases hx; done)))))
        all_goals
          refine gk_nilsl none 4 EE ?_
          refine gk_ret hT rfl rfl (.tmp rfl (.tmp rfl (.tmp rfl .nil))) (fun w' hk => ?_)
          exact Ret.mk (⟨⟨none, 0, 0⟩, []⟩, false, 20) (ng_no hcode.symm (by decide)) rfl hk sA
      refine join1 (p := ?G) (fun J => ?r) ?g
      case r =>
        (repeat' (first | (refine gG ?_; try intro _) | ((first | refine g_split rfl rfl tE (fun _ => ?_) (fun _ => ?_) | refine gk_cond rfl rfl tE (fun _ => ?_) (fun _ => ?_)) <;> (try first | (exfalso; omega; done) | (rename_i hx; exact absurd rfl hx) | (rename_i hx; cases hx; done)))))
        all_goals (refine g_share (φ := sl b.A 1 (IE .u8) B) (by repeat (first | exact Sel.here | apply Sel.there)) ?_)
        all_goals (refine g_wk (f' := [(5, .int .i64 kd), (6, b.v), (31, b.v)]) (O' := []) (R' := [sl b.A 1 (IE .u8) B]) (by repeat (first | exact trivial | refine ⟨rfl, ?_⟩)) sA sS ?_)
        all_goals exact J.out
      case g =>
        change G _ _ _ _ _ _ _
        refine g_elem (enc := IE .u8) (L := B) 0 mE (by omega) (by decide) (fun b0 o0 y eA hy => ?_)
        refine g_say 31 (.slice (some ⟨b0, o0, none⟩) b.n b.c) rfl (by rw [← eA]; rfl) ?_
        have hy9 : 0 ≤ y ∧ y ≤ 255 := hBd y (List.mem_of_getElem? hy)
        obtain ⟨m, rfl⟩ := Int.eq_ofNat_of_zero_le hy9.1
        have em : manyB B = m := by
          unfold manyB
          have : B.take 1 = [(m : Int)] := by
            cases B with
            | nil => simp at h0
            | cons z r => simp at hy; subst hy; rfl
          rw [this, num_one]
        obtain ⟨n, hn⟩ : ∃ n, n = min m 6 := ⟨_, rfl⟩
        have enb : nB B = n := by unfold nB; rw [em]; omega
        have hnm : n ≤ m ∧ n ≤ 6 ∧ (n = m ∨ n = 6) := by omega
        by_cases hsh : B.length < 1 + 18 * n
        · have hcode : ncode L = 20 := by rw [hc]; exact nc_short hk34 (by rw [enb]; exact hsh)
          (repeat' (first | (refine gG ?_; try intro _) | ((first | refine g_split rfl rfl tE (fun _ => ?_) (fun _ => ?_) | refine gk_cond rfl rfl tE (fun _ => ?_) (fun _ => ?_)) <;> (try first | (exfalso; omega; done) | (rename_i hx; exact absurd rfl hx) | (rename_i hx; cases hx; done)))))
          all_goals
            refine gk_nilsl none 4 EE ?_
            refine gk_ret hT rfl rfl (.tmp rfl (.tmp rfl (.tmp rfl .nil))) (fun w' hk => ?_)
            exact Ret.mk (⟨⟨none, 0, 0⟩, []⟩, false, 20) (ng_no hcode.symm (by decide)) rfl hk sA
        · have hc2 := nc_full hk34 (B := B) (by rw [enb]; exact hsh)
          rw [← hc, em, enb] at hc2
          by_cases hbad : 1 + 18 * n < B.length ∨ m < 1 ∨ 6 < m
          · have hcode : ncode L = 21 := by rw [hc2, if_pos (by omega)]
            (repeat' (first | (refine gG ?_; try intro _) | ((first | refine g_split rfl rfl tE (fun _ => ?_) (fun _ => ?_) | refine gk_cond rfl rfl tE (fun _ => ?_) (fun _ => ?_)) <;> (try first | (exfalso; omega; done) | (rename_i hx; exact absurd rfl hx) | (rename_i hx; cases hx; done)))))
            all_goals
              refine gk_nilsl none 4 EE ?_
              refine gk_ret hT rfl rfl (.tmp rfl (.tmp rfl (.tmp rfl .nil))) (fun w' hk => ?_)
              exact Ret.mk (⟨⟨none, 0, 0⟩, []⟩, false, 21) (ng_no hcode.symm (by decide)) rfl hk sA
          · obtain rfl : n = m := by omega
            (repeat' (first | (refine gG ?_; try intro _) | ((first | refine g_split rfl rfl tE (fun _ => ?_) (fun _ => ?_) | refine gk_cond rfl rfl tE (fun _ => ?_) (fun _ => ?_)) <;> (try first | (exfalso; omega; done) | (rename_i hx; exact absurd rfl hx) | (rename_i hx; cases hx; done)))))
            refine gk_own 0 31 4 EE ?_
            refine gk_loop_sel (fun (q : Nat × Value × (List EntD)) => match q with | (j, V, W) => j ≤ n ∧ W = decN B j ∧ ∀ i, i < j → ¬ badQ kd B i) (fun (q : Nat × Value × (List EntD)) => match q with | (j, V, W) => [(5, .int .i64 kd), (6, b.v), (9, .int .i64 n), (10, V), (11, .int .i64 j)]) (fun (q : Nat × Value × (List EntD)) => match q with | (j, V, W) => [own 0 31 4 V EE W]) (fun (q : Nat × Value × (List EntD)) => match q with | (j, V, W) => [sl b.A 1 (IE .u8) B]) (fun (q : Nat × Value × (List EntD)) => match q with | (j, V, W) => n - j) (0, .slice none 0 0, []) rfl ⟨Nat.zero_le _, rfl, fun i h => absurd h (Nat.not_lt_zero _)⟩ (by repeat (first | exact trivial | refine ⟨rfl, ?_⟩)) sA sS ?_
            rintro ⟨j, V, W⟩ hI
            replace hI : j ≤ n ∧ W = decN B j ∧ ∀ i, i < j → ¬ badQ kd B i := hI
            change GK _ _ [(5, .int .i64 kd), (6, b.v), (9, .int .i64 n), (10, V), (11, .int .i64 j)] [own 0 31 4 V EE W] [sl b.A 1 (IE .u8) B]
            obtain ⟨hj, hW, hno⟩ := hI
            have hWl : W.length = j := by rw [hW, decN_len]
            (repeat (refine gG ?_; try intro _))
            refine gk_cond rfl rfl (tells_tB _) (fun hlt => ?_) (fun hlt => ?_)
            · refine gk_sub (enc := IE .u8) (L := B) (1 + 18 * j) b.c 18 mE (by omega) ?_
              obtain ⟨e, hee⟩ : ∃ e, e = entAt B (1 + 18 * j) := ⟨_, rfl⟩
              have cE := fun w hs => rentry_any (shA b.A (1 + 18 * j) b.c 1) (1 + 18 * j + 18 - (1 + 18 * j)) (b.c - (1 + 18 * j)) ((B.drop (1 + 18 * j)).take 18) w (by rw [List.length_take, List.length_drop]; omega) (by rw [List.length_take, List.length_drop]; omega) (by omega) hs ((hBd.drop _).take 18)
              rw [ent18_at, ← hee] at cE
              (repeat (refine gG ?_; try intro _))
              refine g_yd rfl rfl (Ys.yd (ys_slice_lh hT (1 + 18 * j) (1 + 18 * j + 18) rfl rfl rfl rfl rfl (by omega) (by omega) (by omega) (by omega))) ?_
              refine g_mv rfl ?_; refine mv_call_bel (fun w hk => cE w (hk.pR (sl (shA b.A (1 + 18 * j) b.c 1) 1 (IE .u8) ((B.drop (1 + 18 * j)).take 18)) mE)) rfl rfl rfl rfl rfl (by kernel_rfl) ?_
              (repeat (refine gG ?_; try intro _))
              rename_i g12
              obtain ⟨b4, k4⟩ : ∃ v, tB (kd = 4) = v := ⟨_, rfl⟩
              obtain ⟨b5, k5⟩ : ∃ v, tB (e.a = 0) = v := ⟨_, rfl⟩
              by_cases hj0 : j = 0
              · have k1 : tB (0 < (j : Int)) = false := tB_false (by omega)
                obtain ⟨bb, hbb⟩ : ∃ v, v = (b4 && b5) := ⟨_, rfl⟩
                have hbt : bb = true ↔ badQ kd B j := by
                  unfold badQ
                  rw [← hee, hbb, ← k4, ← k5]
                  subst hj0
                  by_cases q4 : kd = 4 <;> by_cases q5 : e.a = 0 <;> simp [tB_eq, q4, q5]
                refine gk_any [0] (Cut _ (fun _ : Unit => [(5, .int .i64 kd), (6, b.v), (9, .int .i64 n), (10, V), (11, .int .i64 j), (12, .pointer (some ⟨g12, 0, none⟩)), (94, .bool bb)]) (fun _ => [own 0 31 4 V EE W, blk g12 [.int .u16 e.k.v, .int .u32 e.k.b, .int .u64 e.k.s, .int .u32 e.a] 31]) (fun _ => [sl b.A 1 (IE .u8) B])) rfl rfl (by kernel_rfl) ?_ (cut_k fun _ => ?_)
                · clear hbt
                  cases b4
                  all_goals (simp only [Bool.true_and, Bool.false_and] at hbb)
                  all_goals (subst hbb)
                  all_goals
                    refine gb_take 0 rfl (by decide +kernel) rfl rfl (ys_ev (nw := true) hT rfl sI) sF ?_
                    refine gb_take 1 rfl (by decide +kernel) rfl rfl (ys_ev (nw := true) hT rfl sI) sF ?_
                    try (refine gb_say 73 _ rfl (congrArg Value.bool k1) ?_)
                    refine gb_take 2 rfl (by decide +kernel) rfl rfl (ys_ev (nw := true) hT rfl sI) sF ?_
                    first | refine gb_take 3 rfl (by decide +kernel) rfl rfl (ys_ev (nw := true) hT rfl sI) sF ?_ | refine gb_skip 3 rfl (by decide +kernel) rfl rfl sF ?_
                    first | refine gb_take 4 rfl (by decide +kernel) rfl rfl (ys_ev (nw := true) hT rfl sI) sF ?_ | refine gb_skip 4 rfl (by decide +kernel) rfl rfl sF ?_
                    first | refine gb_take 5 rfl (by decide +kernel) rfl rfl (ys_ev (nw := true) hT rfl sI) sF ?_ | refine gb_skip 5 rfl (by decide +kernel) rfl rfl sF ?_
                    first | refine gb_take 6 rfl (by decide +kernel) rfl rfl (ys_ev (nw := true) hT rfl sI) sF ?_ | refine gb_skip 6 rfl (by decide +kernel) rfl rfl sF ?_
                    first | refine gb_take 7 rfl (by decide +kernel) rfl rfl (ys_ev (nw := true) hT rfl sI) sF ?_ | refine gb_skip 7 rfl (by decide +kernel) rfl rfl sF ?_
                    first | refine gb_take 8 rfl (by decide +kernel) rfl rfl (by first | exact ys_blk hT rfl rfl mE rfl rfl | exact ys_row hT rfl rfl mE rfl rfl | exact ys_row0 hT rfl rfl mE rfl rfl) sF ?_ | refine gb_skip 8 rfl (by decide +kernel) rfl rfl sF ?_
                    first | refine gb_take 9 rfl (by decide +kernel) rfl rfl (ys_ev (nw := true) hT rfl sI) sF ?_ | refine gb_skip 9 rfl (by decide +kernel) rfl rfl sF ?_
                    first | refine gb_take 10 rfl (by decide +kernel) rfl rfl (by first | exact ys_blk hT rfl rfl mE rfl rfl | exact ys_row hT rfl rfl mE rfl rfl | exact ys_row0 hT rfl rfl mE rfl rfl) sF ?_ | refine gb_skip 10 rfl (by decide +kernel) rfl rfl sF ?_
                    first | refine gb_skip 11 rfl (by decide +kernel) rfl rfl sF ?_ | (refine gb_only 11 (by decide +kernel) rfl rfl ?_; (first | (refine mv_box rfl rfl rfl rfl ?_; intro _) | (refine mv_alloc rfl hT rfl rfl ?_; intro _) | refine mv_store hT rfl rfl rfl rfl rfl rfl sO rfl ?_ | (refine mv_buildSlice rfl hT rfl rfl rfl rfl rfl rfl rfl rfl ?_; intro _)); refine ⟨sF, ?_⟩)
                    first | refine gb_take 12 rfl (by decide +kernel) rfl rfl (ys_ev (nw := true) hT rfl sI) sF ?_ | refine gb_skip 12 rfl (by decide +kernel) rfl rfl sF ?_
                    refine gb_take 13 rfl (by decide +kernel) rfl rfl (ys_ev (nw := true) hT rfl sI) sF ?_
                    refine gb_take 14 rfl (by decide +kernel) rfl rfl (ys_ev (nw := true) hT rfl sI) sF ?_
                    first | refine gb_take 15 rfl (by decide +kernel) rfl rfl (ys_ev (nw := true) hT rfl sI) sF ?_ | refine gb_skip 15 rfl (by decide +kernel) rfl rfl sF ?_
                    first | refine gb_take 16 rfl (by decide +kernel) rfl rfl (ys_ev (nw := true) hT rfl sI) sF ?_ | refine gb_skip 16 rfl (by decide +kernel) rfl rfl sF ?_
                    try (refine gb_say 88 _ rfl (congrArg Value.bool k4) ?_)
                    first | refine gb_take 17 rfl (by decide +kernel) rfl rfl (ys_ev (nw := true) hT rfl sI) sF ?_ | refine gb_skip 17 rfl (by decide +kernel) rfl rfl sF ?_
                    first | refine gb_take 18 rfl (by decide +kernel) rfl rfl (ys_ev (nw := true) hT rfl sI) sF ?_ | refine gb_skip 18 rfl (by decide +kernel) rfl rfl sF ?_
                    first | refine gb_take 19 rfl (by decide +kernel) rfl rfl (by first | exact ys_blk hT rfl rfl mE rfl rfl | exact ys_row hT rfl rfl mE rfl rfl | exact ys_row0 hT rfl rfl mE rfl rfl) sF ?_ | refine gb_skip 19 rfl (by decide +kernel) rfl rfl sF ?_
                    first | refine gb_take 20 rfl (by decide +kernel) rfl rfl (ys_ev (nw := true) hT rfl sI) sF ?_ | refine gb_skip 20 rfl (by decide +kernel) rfl rfl sF ?_
                    try (refine gb_say 92 _ rfl (congrArg Value.bool k5) ?_)
                    first | refine gb_take 21 rfl (by decide +kernel) rfl rfl (ys_ev (nw := true) hT rfl sI) sF ?_ | refine gb_skip 21 rfl (by decide +kernel) rfl rfl sF ?_
                    refine gb_take 22 rfl (by decide +kernel) rfl rfl (ys_ev (nw := true) hT rfl sI) sF ?_
                    refine gb_nil (by decide +kernel) ?_
                    exact ⟨(), (by repeat (first | exact trivial | refine ⟨rfl, ?_⟩)), sA, sS⟩
                · cases bb with
                  | true =>
                    have hcode : ncode L = 21 := by
                      rw [hc2, if_pos (.inr (.inr (.inr (tB_true ⟨j, by omega, (badQ_iff (by omega)).2 (hbt.1 rfl)⟩))))]
                    (repeat (refine gG ?_; try intro _))
                    refine gk_nilsl none 4 EE ?_
                    refine gk_ret hT rfl rfl (.tmp rfl (.tmp rfl (.tmp rfl .nil))) (fun w' hk => ?_)
                    exact Ret.mk (⟨⟨none, 0, 0⟩, []⟩, false, 21) (ng_no hcode.symm (by decide)) rfl hk sA
                  | false =>
                    (repeat (refine gG ?_; try intro _))
                    refine g_mv rfl (mv_append rfl [e] rfl rfl rfl rfl elt_E (by intro _; first | ((repeat (first | with_reducible exact Upd.here _ | with_reducible apply Upd.there)); done) | ((repeat (first | exact Upd.here _ | apply Upd.there)); done) | fail) (src_blk mE rfl) rfl (by intro x j; rcases j with _ | _ | _ | j <;> rfl) (by rw [hWl]; simp only [maxLen, List.length_cons, List.length_nil]; omega) (by rw [hWl]; simp only [List.length_cons, List.length_nil]; omega) (Nat.zero_le _) (fun V' => ?_))
                    (repeat (refine gG ?_; try intro _))
                    refine gk_again_sel rfl (j + 1, V', W ++ [e]) ⟨by omega, by rw [decN_succ, hW, ← hee], fun i h => by
                      by_cases e1 : i = j
                      · subst e1; intro h'; have := hbt.2 h'; cases this
                      · exact hno i (by omega)⟩ (by dsimp only; omega) (by repeat (first | exact trivial | refine ⟨rfl, ?_⟩)) sA sS
              · have k1 : tB (0 < (j : Int)) = true := tB_true (by omega)
                obtain ⟨x, hxe⟩ : ∃ x, x = entAt B (1 + 18 * (j - 1)) := ⟨_, rfl⟩
                have hx : W[j - 1]? = some x := by rw [hW, hxe]; exact decN_get (by omega)
                refine gk_ownp V mE (by omega) (fun b3 o3 c3 hV hc31 hc32 => ?_)
                subst hV
                obtain ⟨b2, k2⟩ : ∃ v, tB (klt x.k e.k) = v := ⟨_, rfl⟩
                obtain ⟨bb, hbb⟩ : ∃ v, v = (!b2 || (b4 && b5)) := ⟨_, rfl⟩
                have hj1 : 0 < j := by omega
                have hbt : bb = true ↔ badQ kd B j := by
                  unfold badQ
                  rw [← hee, ← hxe, hbb, ← k2, ← k4, ← k5]
                  by_cases q2 : klt x.k e.k <;> by_cases q4 : kd = 4 <;> by_cases q5 : e.a = 0 <;> simp [tB_eq, q2, q4, q5, hj1]
                refine gk_any [0, 1] (Cut _ (fun _ : Unit => [(5, .int .i64 kd), (6, b.v), (9, .int .i64 n), (10, .slice (some ⟨b3, o3, none⟩) W.length c3), (11, .int .i64 j), (12, .pointer (some ⟨g12, 0, none⟩)), (94, .bool bb)]) (fun _ => [own 0 31 4 (.slice (some ⟨b3, o3, none⟩) W.length c3) EE W, blk g12 [.int .u16 e.k.v, .int .u32 e.k.b, .int .u64 e.k.s, .int .u32 e.a] 31]) (fun _ => [sl b.A 1 (IE .u8) B])) rfl rfl (by kernel_rfl) ?_ (cut_k fun _ => ?_)
                · clear hbt
                  rcases (show b2 = false ∨ (b2 = true ∧ b4 = false) ∨ (b2 = true ∧ b4 = true) by cases b2 <;> cases b4 <;> simp) with e2 | ⟨e2, e4⟩ | ⟨e2, e4⟩
                  all_goals (try rw [e2] at k2 hbb)
                  all_goals (try rw [e4] at k4 hbb)
                  all_goals (simp only [Bool.true_or, Bool.or_true, Bool.false_or, Bool.or_false, Bool.not_true, Bool.not_false, Bool.true_and, Bool.and_true, Bool.false_and, Bool.and_false] at hbb)
                  all_goals (subst hbb)
                  all_goals
                    refine gb_take 0 rfl (by decide +kernel) rfl rfl (ys_ev (nw := true) hT rfl sI) sF ?_
                    refine gb_take 1 rfl (by decide +kernel) rfl rfl (ys_ev (nw := true) hT rfl sI) sF ?_
                    try (refine gb_say 73 _ rfl (congrArg Value.bool k1) ?_)
                    refine gb_take 2 rfl (by decide +kernel) rfl rfl (ys_ev (nw := true) hT rfl sI) sF ?_
                    first | refine gb_take 3 rfl (by decide +kernel) rfl rfl (ys_ev (nw := true) hT rfl sI) sF ?_ | refine gb_skip 3 rfl (by decide +kernel) rfl rfl sF ?_
                    first | refine gb_take 4 rfl (by decide +kernel) rfl rfl (ys_ev (nw := true) hT rfl sI) sF ?_ | refine gb_skip 4 rfl (by decide +kernel) rfl rfl sF ?_
                    first | refine gb_take 5 rfl (by decide +kernel) rfl rfl (ys_ev (nw := true) hT rfl sI) sF ?_ | refine gb_skip 5 rfl (by decide +kernel) rfl rfl sF ?_
                    first | refine gb_take 6 rfl (by decide +kernel) rfl rfl (ys_ev (nw := true) hT rfl sI) sF ?_ | refine gb_skip 6 rfl (by decide +kernel) rfl rfl sF ?_
                    first | refine gb_take 7 rfl (by decide +kernel) rfl rfl (ys_ev (nw := true) hT rfl sI) sF ?_ | refine gb_skip 7 rfl (by decide +kernel) rfl rfl sF ?_
                    first | refine gb_take 8 rfl (by decide +kernel) rfl rfl (ys_load_el (o0 := o3) (sz := 4) (enc := EE) (L := W) hT (j - 1) x 0 rfl rfl rfl (by omega) hx (at_own mE) rfl rfl) sF ?_ | refine gb_skip 8 rfl (by decide +kernel) rfl rfl sF ?_
                    first | refine gb_take 9 rfl (by decide +kernel) rfl rfl (ys_ev (nw := true) hT rfl sI) sF ?_ | refine gb_skip 9 rfl (by decide +kernel) rfl rfl sF ?_
                    first | refine gb_take 10 rfl (by decide +kernel) rfl rfl (by first | exact ys_blk hT rfl rfl mE rfl rfl | exact ys_row hT rfl rfl mE rfl rfl | exact ys_row0 hT rfl rfl mE rfl rfl) sF ?_ | refine gb_skip 10 rfl (by decide +kernel) rfl rfl sF ?_
                    first | refine gb_skip 11 rfl (by decide +kernel) rfl rfl sF ?_ | (refine gb_only 11 (by decide +kernel) rfl rfl ?_; (refine mv_call_bel (fun w hk => calls_b k2 (rless_any x.k e.k w)) rfl rfl rfl rfl rfl (by kernel_rfl) ?_); refine ⟨sF, ?_⟩)
                    first | refine gb_take 12 rfl (by decide +kernel) rfl rfl (ys_ev (nw := true) hT rfl sI) sF ?_ | refine gb_skip 12 rfl (by decide +kernel) rfl rfl sF ?_
                    refine gb_take 13 rfl (by decide +kernel) rfl rfl (ys_ev (nw := true) hT rfl sI) sF ?_
                    refine gb_take 14 rfl (by decide +kernel) rfl rfl (ys_ev (nw := true) hT rfl sI) sF ?_
                    first | refine gb_take 15 rfl (by decide +kernel) rfl rfl (ys_ev (nw := true) hT rfl sI) sF ?_ | refine gb_skip 15 rfl (by decide +kernel) rfl rfl sF ?_
                    first | refine gb_take 16 rfl (by decide +kernel) rfl rfl (ys_ev (nw := true) hT rfl sI) sF ?_ | refine gb_skip 16 rfl (by decide +kernel) rfl rfl sF ?_
                    try (refine gb_say 88 _ rfl (congrArg Value.bool k4) ?_)
                    first | refine gb_take 17 rfl (by decide +kernel) rfl rfl (ys_ev (nw := true) hT rfl sI) sF ?_ | refine gb_skip 17 rfl (by decide +kernel) rfl rfl sF ?_
                    first | refine gb_take 18 rfl (by decide +kernel) rfl rfl (ys_ev (nw := true) hT rfl sI) sF ?_ | refine gb_skip 18 rfl (by decide +kernel) rfl rfl sF ?_
                    first | refine gb_take 19 rfl (by decide +kernel) rfl rfl (by first | exact ys_blk hT rfl rfl mE rfl rfl | exact ys_row hT rfl rfl mE rfl rfl | exact ys_row0 hT rfl rfl mE rfl rfl) sF ?_ | refine gb_skip 19 rfl (by decide +kernel) rfl rfl sF ?_
                    first | refine gb_take 20 rfl (by decide +kernel) rfl rfl (ys_ev (nw := true) hT rfl sI) sF ?_ | refine gb_skip 20 rfl (by decide +kernel) rfl rfl sF ?_
                    try (refine gb_say 92 _ rfl (congrArg Value.bool k5) ?_)
                    first | refine gb_take 21 rfl (by decide +kernel) rfl rfl (ys_ev (nw := true) hT rfl sI) sF ?_ | refine gb_skip 21 rfl (by decide +kernel) rfl rfl sF ?_
                    refine gb_take 22 rfl (by decide +kernel) rfl rfl (ys_ev (nw := true) hT rfl sI) sF ?_
                    refine gb_nil (by decide +kernel) ?_
                    exact ⟨(), (by repeat (first | exact trivial | refine ⟨rfl, ?_⟩)), sA, sS⟩
                · cases bb with
                  | true =>
                    have hcode : ncode L = 21 := by
                      rw [hc2, if_pos (.inr (.inr (.inr (tB_true ⟨j, by omega, (badQ_iff (by omega)).2 (hbt.1 rfl)⟩))))]
                    (repeat (refine gG ?_; try intro _))
                    refine gk_nilsl none 4 EE ?_
                    refine gk_ret hT rfl rfl (.tmp rfl (.tmp rfl (.tmp rfl .nil))) (fun w' hk => ?_)
                    exact Ret.mk (⟨⟨none, 0, 0⟩, []⟩, false, 21) (ng_no hcode.symm (by decide)) rfl hk sA
                  | false =>
                    (repeat (refine gG ?_; try intro _))
                    refine g_mv rfl (mv_append rfl [e] rfl rfl rfl rfl elt_E (by intro _; first | ((repeat (first | with_reducible exact Upd.here _ | with_reducible apply Upd.there)); done) | ((repeat (first | exact Upd.here _ | apply Upd.there)); done) | fail) (src_blk mE rfl) rfl (by intro x j; rcases j with _ | _ | _ | j <;> rfl) (by rw [hWl]; simp only [maxLen, List.length_cons, List.length_nil]; omega) (by rw [hWl]; simp only [List.length_cons, List.length_nil]; omega) (Nat.zero_le _) (fun V' => ?_))
                    (repeat (refine gG ?_; try intro _))
                    refine gk_again_sel rfl (j + 1, V', W ++ [e]) ⟨by omega, by rw [decN_succ, hW, ← hee], fun i h => by
                      by_cases e1 : i = j
                      · subst e1; intro h'; have := hbt.2 h'; cases this
                      · exact hno i (by omega)⟩ (by dsimp only; omega) (by repeat (first | exact trivial | refine ⟨rfl, ?_⟩)) sA sS
            · have hjn : j = n := by omega
              subst hjn
              have hcode : ncode L = 0 := by
                rw [hc2, if_neg]
                rintro (h | h | h | h)
                · omega
                · omega
                · omega
                · obtain ⟨i', h1', h2'⟩ := tB_iff.1 h
                  exact hno i' h1' ((badQ_iff h1').1 h2')
              (repeat (refine gG ?_; try intro _))
              refine gk_freeze _ (by intro _; first | ((repeat (first | with_reducible exact Upd.here _ | with_reducible apply Upd.there)); done) | ((repeat (first | exact Upd.here _ | apply Upd.there)); done) | fail) (fun A5 c5 hA5 hA51 hA52 hA53 => ?_); subst hA5
              refine gk_ret hT rfl rfl (.tmp rfl (.tmp rfl (.tmp rfl .nil))) (fun w' hk => ?_)
              exact Ret.mk (⟨⟨A5, W.length, c5⟩, W⟩, tB (kd = 3), 0) ⟨⟨rfl, hA51, hA52, hA53⟩, hcode.symm, by rw [if_pos hcode, hgs]; show W = decN B (nB B); rw [enb]; exact hW, by rw [if_pos hcode, hgs]⟩ rfl hk sA
    · rw [nc_kind hk34] at hc
      (repeat' (first | (refine gG ?_; try intro _) | ((first | refine g_split rfl rfl tE (fun _ => ?_) (fun _ => ?_) | refine gk_cond rfl rfl tE (fun _ => ?_) (fun _ => ?_)) <;> (try first | (exfalso; omega; done) | (rename_i hx; exact absurd rfl hx) | (rename_i hx; cases hx; done)))))
      refine gk_nilsl none 4 EE ?_
      refine gk_ret hT rfl rfl (.tmp rfl (.tmp rfl (.tmp rfl .nil))) (fun w' hk => ?_)
      exact Ret.mk (⟨⟨none, 0, 0⟩, []⟩, false, 21) (ng_no hc.symm (by decide)) rfl hk sA
  · rw [nc_err he] at hc
    (repeat' (first | (refine gG ?_; try intro _) | ((first | refine g_split rfl rfl tE (fun _ => ?_) (fun _ => ?_) | refine gk_cond rfl rfl tE (fun _ => ?_) (fun _ => ?_)) <;> (try first | (exfalso; omega; done) | (rename_i hx; exact absurd rfl hx) | (rename_i hx; cases hx; done)))))
    refine gk_nilsl none 4 EE ?_
    refine gk_ret hT rfl rfl (.tmp rfl (.tmp rfl (.tmp rfl .nil))) (fun w' hk => ?_)
    exact Ret.mk (⟨⟨none, 0, 0⟩, []⟩, false, ec) (ng_no hc.symm he) rfl hk sA
end Go.Proofs.YtaghmffgoomebaaGreat.Nd
