/- Law 25: a call of both (the block isn't held). -/
import Derived.Test.YtdkgmgfadpnhbaaAlH
namespace Go.Proofs.Ytdkgmgfadpnhbaa.Al
open Go.RowKit Mem Gx Gm KyU Dd Rf Hp
set_option linter.unusedVariables false
set_option linter.unusedSimpArgs false
set_option maxRecDepth 100000
set_option maxHeartbeats 4000000
theorem step_not (x a N B : Nat) (m : MS) (D : AlD) (s : AlS) (kd : Int) (w : World) (hN : N ≤ 40) (hkd : 0 ≤ kd) (hB9 : (B : Int) ≤ 4294967295) (hl9 : s.l.length < 900) (hM : MRel m N s) (hI : AlI N D s) (hc0 : s.l.count (B : Int) = 0) (h : Rd1 w (packF [blk x (mC m (N : Nat)) 137, alF a N D s])) :
    Calls Try.prog 62 [.pointer (some ⟨x, 0, none⟩), .pointer (some ⟨a, 0, none⟩), .agg #[.int .i64 kd, .int .u32 (B : Int)]].toArray w (RetM (packF [blk x (mC m (N : Nat)) 137, alF a N D s]) (fun r : MS × AlD × AlS => MRel r.1 N r.2.2 ∧ AlI N r.2.1 r.2.2 ∧ r.2.2.l.length ≤ s.l.length + 1) (fun _ => .bool true) (fun r => packF [blk x (mC r.1 (N : Nat)) 137, alF a N r.2.1 r.2.2]) w) := by
  have hAI := hI
  have hcl : s.l.count (B : Int) ≤ s.l.length := List.count_le_length
  refine g_enter0 T (finE (packF [blk x (mC m (N : Nat)) 137, alF a N D s]) w) [blk x (mC m (N : Nat)) 137, alF a N D s] [] Try.func62 rfl Try.ntmps62 rfl (Kn.startP h (fun b hb => (finE_mem h.2 b).2 hb) (fun _ h => by cases h)) ?_
  (repeat (refine gG ?_; try intro _))
  rename_i g5
  refine gk_sel (f' := [(0, .pointer (some ⟨x, 0, none⟩)), (1, .pointer (some ⟨a, 0, none⟩)), (5, .pointer (some ⟨g5, 0, none⟩))]) (O' := [blk g5 [.int .i64 kd, .int .u32 (B : Int)] 139, blk x (mC m (N : Nat)) 137, alF a N D s]) (R' := []) (by repeat (first | exact trivial | refine ⟨rfl, ?_⟩)) sA sS ?_
  · skip
    refine gk_any [0, 1, 2] (Cut _ (fun _ : Unit => [(0, .pointer (some ⟨x, 0, none⟩)), (1, .pointer (some ⟨a, 0, none⟩)), (5, .pointer (some ⟨g5, 0, none⟩)), (7, .bool false)]) (fun _ => [blk g5 [.int .i64 kd, .int .u32 (B : Int)] 139, blk x (mC m (N : Nat)) 137, alF a N D s]) (fun _ => [])) rfl rfl (by kernel_rfl) ?_ (cut_k fun _ => ?_)
    · by_cases hin : 1 ≤ (B : Int) ∧ (B : Int) ≤ N
      · obtain ⟨m1, m2, m3⟩ := hM B (by omega) (by omega)
        refine gb_take 0 rfl (by decide +kernel) rfl rfl (ys_ev (nw := true) hT rfl sI) sF ?_
        refine gb_take 1 rfl (by decide +kernel) rfl rfl (ys_ev (nw := true) hT rfl sI) sF ?_
        refine gb_take 2 rfl (by decide +kernel) rfl rfl (by first | exact ys_blk hT rfl rfl mE rfl rfl | exact ys_row hT rfl rfl mE rfl rfl | exact ys_row0 hT rfl rfl mE rfl rfl) sF ?_
        refine gb_only 3 (by decide +kernel) rfl rfl ?_
        refine mv_call_bel (fun w hk => in_any x N m (B : Int) w hN (by omega) (hk.rO (φ := blk x (mC m (N : Nat)) 137) mE)) rfl rfl rfl rfl rfl (by kernel_rfl) ?_
        refine ⟨sF, ?_⟩
        try (refine gb_say 16 (.bool true) rfl (congrArg Value.bool (tB_true hin)) ?_)
        refine gb_take 4 rfl (by decide +kernel) rfl rfl (ys_ev (nw := true) hT rfl sI) sF ?_
        first | refine gb_take 5 rfl (by decide +kernel) rfl rfl (ys_ev (nw := true) hT rfl sI) sF ?_ | refine gb_skip 5 rfl (by decide +kernel) rfl rfl sF ?_
        first | refine gb_take 6 rfl (by decide +kernel) rfl rfl (ys_ev (nw := true) hT rfl sI) sF ?_ | refine gb_skip 6 rfl (by decide +kernel) rfl rfl sF ?_
        first | refine gb_take 7 rfl (by decide +kernel) rfl rfl (by first | exact ys_blk hT rfl rfl mE rfl rfl | exact ys_row hT rfl rfl mE rfl rfl | exact ys_row0 hT rfl rfl mE rfl rfl) sF ?_ | refine gb_skip 7 rfl (by decide +kernel) rfl rfl sF ?_
        first | refine gb_take 8 rfl (by decide +kernel) rfl rfl (ys_ev (nw := true) hT rfl sI) sF ?_ | refine gb_skip 8 rfl (by decide +kernel) rfl rfl sF ?_
        first | refine gb_take 9 rfl (by decide +kernel) rfl rfl (ys_ev (nw := true) hT rfl sI) sF ?_ | refine gb_skip 9 rfl (by decide +kernel) rfl rfl sF ?_
        first | refine gb_take 10 rfl (by decide +kernel) rfl rfl (ys_ev (nw := true) hT rfl sI) sF ?_ | refine gb_skip 10 rfl (by decide +kernel) rfl rfl sF ?_
        first | refine gb_take 11 rfl (by decide +kernel) rfl rfl (ys_load_cs hT [.int .i64 (s.l.count (B : Int) : Int)] rfl rfl mE (mC_one (j := B) (by omega) (by omega) ((cell_n (by omega)).trans (by rw [m1]))) rfl rfl) sF ?_ | refine gb_skip 11 rfl (by decide +kernel) rfl rfl sF ?_
        first | refine gb_take 12 rfl (by decide +kernel) rfl rfl (ys_ev (nw := true) hT rfl sI) sF ?_ | refine gb_skip 12 rfl (by decide +kernel) rfl rfl sF ?_
        try (refine gb_say 25 (.bool false) rfl (congrArg Value.bool (tB_false (by omega))) ?_)
        refine gb_take 13 rfl (by decide +kernel) rfl rfl (ys_ev (nw := true) hT rfl sI) sF ?_
        refine gb_take 14 rfl (by decide +kernel) rfl rfl (ys_ev (nw := true) hT rfl sI) sF ?_
        refine gb_nil (by decide +kernel) ?_
        exact ⟨(), (by repeat (first | exact trivial | refine ⟨rfl, ?_⟩)), sA, sS⟩
      · skip
        refine gb_take 0 rfl (by decide +kernel) rfl rfl (ys_ev (nw := true) hT rfl sI) sF ?_
        refine gb_take 1 rfl (by decide +kernel) rfl rfl (ys_ev (nw := true) hT rfl sI) sF ?_
        refine gb_take 2 rfl (by decide +kernel) rfl rfl (by first | exact ys_blk hT rfl rfl mE rfl rfl | exact ys_row hT rfl rfl mE rfl rfl | exact ys_row0 hT rfl rfl mE rfl rfl) sF ?_
        refine gb_only 3 (by decide +kernel) rfl rfl ?_
        refine mv_call_bel (fun w hk => in_any x N m (B : Int) w hN (by omega) (hk.rO (φ := blk x (mC m (N : Nat)) 137) mE)) rfl rfl rfl rfl rfl (by kernel_rfl) ?_
        refine ⟨sF, ?_⟩
        try (refine gb_say 16 (.bool false) rfl (congrArg Value.bool (tB_false hin)) ?_)
        refine gb_take 4 rfl (by decide +kernel) rfl rfl (ys_ev (nw := true) hT rfl sI) sF ?_
        first | refine gb_take 5 rfl (by decide +kernel) rfl rfl (ys_ev (nw := true) hT rfl sI) sF ?_ | refine gb_skip 5 rfl (by decide +kernel) rfl rfl sF ?_
        first | refine gb_take 6 rfl (by decide +kernel) rfl rfl (ys_ev (nw := true) hT rfl sI) sF ?_ | refine gb_skip 6 rfl (by decide +kernel) rfl rfl sF ?_
        first | refine gb_take 7 rfl (by decide +kernel) rfl rfl (by first | exact ys_blk hT rfl rfl mE rfl rfl | exact ys_row hT rfl rfl mE rfl rfl | exact ys_row0 hT rfl rfl mE rfl rfl) sF ?_ | refine gb_skip 7 rfl (by decide +kernel) rfl rfl sF ?_
        first | refine gb_take 8 rfl (by decide +kernel) rfl rfl (ys_ev (nw := true) hT rfl sI) sF ?_ | refine gb_skip 8 rfl (by decide +kernel) rfl rfl sF ?_
        first | refine gb_take 9 rfl (by decide +kernel) rfl rfl (ys_ev (nw := true) hT rfl sI) sF ?_ | refine gb_skip 9 rfl (by decide +kernel) rfl rfl sF ?_
        first | refine gb_take 10 rfl (by decide +kernel) rfl rfl (ys_ev (nw := true) hT rfl sI) sF ?_ | refine gb_skip 10 rfl (by decide +kernel) rfl rfl sF ?_
        first | refine gb_take 11 rfl (by decide +kernel) rfl rfl (by first | exact ys_blk hT rfl rfl mE rfl rfl | exact ys_row hT rfl rfl mE rfl rfl | exact ys_row0 hT rfl rfl mE rfl rfl) sF ?_ | refine gb_skip 11 rfl (by decide +kernel) rfl rfl sF ?_
        first | refine gb_take 12 rfl (by decide +kernel) rfl rfl (ys_ev (nw := true) hT rfl sI) sF ?_ | refine gb_skip 12 rfl (by decide +kernel) rfl rfl sF ?_
        refine gb_take 13 rfl (by decide +kernel) rfl rfl (ys_ev (nw := true) hT rfl sI) sF ?_
        refine gb_take 14 rfl (by decide +kernel) rfl rfl (ys_ev (nw := true) hT rfl sI) sF ?_
        refine gb_nil (by decide +kernel) ?_
        exact ⟨(), (by repeat (first | exact trivial | refine ⟨rfl, ?_⟩)), sA, sS⟩
    · (repeat (refine gG ?_; try intro _))
      by_cases h3 : kd % 8 = 3
      · as_aux_lemma =>
        (repeat' (first | (refine gG ?_; try intro _) | ((first | refine g_split rfl rfl tE (fun _ => ?_) (fun _ => ?_) | refine gk_cond rfl rfl tE (fun _ => ?_) (fun _ => ?_)) <;> (try first | (exfalso; omega; done) | (rename_i hx; exact absurd rfl hx) | (rename_i hx; cases hx; done)))))
        refine g_mv rfl (mv_call_mod (φ := alF a N D s) (ψ := fun r : AlD × AlS × Int => alF a N r.1 r.2.1) (fun w1 hk => by exact ahold_any a N D s (B : Int) w1 (by omega) hAI (hk.rO (φ := alF a N D s) mE)) rfl rfl rfl rfl rfl (by kernel_rfl) (by intro _; first | ((repeat (first | with_reducible exact Upd.here _ | with_reducible apply Upd.there)); done) | ((repeat (first | exact Upd.here _ | apply Upd.there)); done) | fail) (fun r hr => ?_))
        obtain ⟨D1, s1, e1⟩ := r
        obtain ⟨hI1, hr1⟩ := hr
        rw [show holdA s (B : Int) = (s, 60) from if_pos hc0] at hr1
        obtain ⟨rfl, rfl⟩ : s1 = s ∧ e1 = 60 := by cases hr1; exact ⟨rfl, rfl⟩
        dsimp only at hI1 ⊢
        (repeat (refine gG ?_; try intro _))
        refine gk_ret hT rfl rfl (.tmp rfl .nil) (fun w' hk => ?_)
        exact RetM.mkP (ll := fun r : MS × AlD × AlS => [blk x (mC r.1 (N : Nat)) 137, alF a N r.2.1 r.2.2]) ((m, D1, s1) : MS × AlD × AlS) ⟨hM, hI1, Nat.le_succ _⟩ (by first | rfl | exact congrArg Value.bool (tB_true rfl)) hk (fun b hb => (finE_mem h.2 b).1 hb) sA
      by_cases h4 : kd % 8 = 4 ∨ kd % 8 = 5
      · as_aux_lemma =>
        (repeat' (first | (refine gG ?_; try intro _) | ((first | refine g_split rfl rfl tE (fun _ => ?_) (fun _ => ?_) | refine gk_cond rfl rfl tE (fun _ => ?_) (fun _ => ?_)) <;> (try first | (exfalso; omega; done) | (rename_i hx; exact absurd rfl hx) | (rename_i hx; cases hx; done)))))
        all_goals
          refine g_mv rfl (mv_call_mod (φ := alF a N D s) (ψ := fun r : AlD × AlS × Int => alF a N r.1 r.2.1) (fun w1 hk => by exact adrop_any a N D s (B : Int) w1 (by omega) hAI (hk.rO (φ := alF a N D s) mE)) rfl rfl rfl rfl rfl (by kernel_rfl) (by intro _; first | ((repeat (first | with_reducible exact Upd.here _ | with_reducible apply Upd.there)); done) | ((repeat (first | exact Upd.here _ | apply Upd.there)); done) | fail) (fun r hr => ?_))
          obtain ⟨D1, s1, e1⟩ := r
          obtain ⟨hI1, hr1⟩ := hr
          rw [show dropA s (B : Int) = (s, 60) from if_pos hc0] at hr1
          obtain ⟨rfl, rfl⟩ : s1 = s ∧ e1 = 60 := by cases hr1; exact ⟨rfl, rfl⟩
          dsimp only at hI1 ⊢
          (repeat (refine gG ?_; try intro _))
          refine gk_ret hT rfl rfl (.tmp rfl .nil) (fun w' hk => ?_)
          exact RetM.mkP (ll := fun r : MS × AlD × AlS => [blk x (mC r.1 (N : Nat)) 137, alF a N r.2.1 r.2.2]) ((m, D1, s1) : MS × AlD × AlS) ⟨hM, hI1, Nat.le_succ _⟩ (by first | rfl | exact congrArg Value.bool (tB_true rfl)) hk (fun b hb => (finE_mem h.2 b).1 hb) sA
      by_cases h6 : kd % 8 = 6
      · as_aux_lemma =>
        (repeat' (first | (refine gG ?_; try intro _) | ((first | refine g_split rfl rfl tE (fun _ => ?_) (fun _ => ?_) | refine gk_cond rfl rfl tE (fun _ => ?_) (fun _ => ?_)) <;> (try first | (exfalso; omega; done) | (rename_i hx; exact absurd rfl hx) | (rename_i hx; cases hx; done)))))
        rw [← mK_0 m]
        refine gk_loop_sel (fun (q : Nat × Unit) => match q with | (k, z) => (k ≤ N)) (fun (q : Nat × Unit) => match q with | (k, z) => [(0, .pointer (some ⟨x, 0, none⟩)), (1, .pointer (some ⟨a, 0, none⟩)), (5, .pointer (some ⟨g5, 0, none⟩)), (9, .int .i64 ((k + 1 : Nat) : Int))]) (fun (q : Nat × Unit) => match q with | (k, z) => [blk g5 [.int .i64 kd, .int .u32 (B : Int)] 139, blk x (mC (mK m k) (N : Nat)) 137, alF a N D s]) (fun (q : Nat × Unit) => match q with | (k, z) => []) (fun (q : Nat × Unit) => match q with | (k, z) => N - k) (0, ()) rfl (Nat.zero_le _) (by repeat (first | exact trivial | refine ⟨rfl, ?_⟩)) sA sS ?_
        rintro ⟨k, z⟩ hI
        replace hI : (k ≤ N) := hI
        change GK _ _ [(0, .pointer (some ⟨x, 0, none⟩)), (1, .pointer (some ⟨a, 0, none⟩)), (5, .pointer (some ⟨g5, 0, none⟩)), (9, .int .i64 ((k + 1 : Nat) : Int))] [blk g5 [.int .i64 kd, .int .u32 (B : Int)] 139, blk x (mC (mK m k) (N : Nat)) 137, alF a N D s] []
        (repeat (refine gG ?_; try intro _))
        by_cases hlt : k < N
        · obtain ⟨q1, q2, q3⟩ := hM (k + 1) (by omega) (by omega)
          (repeat' (first | (refine gG ?_; try intro _) | ((first | refine g_split rfl rfl tE (fun _ => ?_) (fun _ => ?_) | refine gk_cond rfl rfl tE (fun _ => ?_) (fun _ => ?_)) <;> (try first | (exfalso; omega; done) | (rename_i hx; exact absurd rfl hx) | (rename_i hx; cases hx; done)))))
          refine gk_sel (f' := [(0, .pointer (some ⟨x, 0, none⟩)), (1, .pointer (some ⟨a, 0, none⟩)), (5, .pointer (some ⟨g5, 0, none⟩)), (9, .int .i64 ((k + 1 : Nat) : Int))]) (O' := [blk g5 [.int .i64 kd, .int .u32 (B : Int)] 139, blk x (mC (mK m k) (N : Nat)) 137, alF a N D s]) (R' := []) (by repeat (first | exact trivial | refine ⟨rfl, ?_⟩)) sA sS ?_
          have hs := mK_s m k
          obtain ⟨bv, hbv⟩ : ∃ bv, bv = decide (0 < m.n (k + 1)) := ⟨_, rfl⟩
          rw [← hbv] at hs
          have hdec : tB (0 < m.n (k + 1)) = bv := by rw [hbv, tB_eq]
          refine gk_any [0, 2] (Cut _ (fun _ : Unit => [(0, .pointer (some ⟨x, 0, none⟩)), (1, .pointer (some ⟨a, 0, none⟩)), (5, .pointer (some ⟨g5, 0, none⟩)), (9, .int .i64 ((k + 1 : Nat) : Int))]) (fun _ => [blk g5 [.int .i64 kd, .int .u32 (B : Int)] 139, blk x (mC (mK m (k + 1)) (N : Nat)) 137, alF a N D s]) (fun _ => [])) rfl rfl (by kernel_rfl) ?_ (cut_k fun _ => ?_)
          · rw [← hs]
            refine gb_take 0 rfl (by decide +kernel) rfl rfl (ys_ev (nw := true) hT rfl sI) sF ?_
            refine gb_take 1 rfl (by decide +kernel) rfl rfl (ys_ev (nw := true) hT rfl sI) sF ?_
            refine gb_take 2 rfl (by decide +kernel) rfl rfl (ys_ev (nw := true) hT rfl sI) sF ?_
            refine gb_take 3 rfl (by decide +kernel) rfl rfl (ys_ev (nw := true) hT rfl sI) sF ?_
            refine gb_take 4 rfl (by decide +kernel) rfl rfl (ys_ev (nw := true) hT rfl sI) sF ?_
            refine gb_take 5 rfl (by decide +kernel) rfl rfl (ys_ev (nw := true) hT rfl sI) sF ?_
            refine gb_take 6 rfl (by decide +kernel) rfl rfl (ys_ev (nw := true) hT rfl sI) sF ?_
            refine gb_take 7 rfl (by decide +kernel) rfl rfl (ys_ev (nw := true) hT rfl sI) sF ?_
            refine gb_take 8 rfl (by decide +kernel) rfl rfl (ys_ev (nw := true) hT rfl sI) sF ?_
            refine gb_take 11 rfl (by decide +kernel) rfl rfl (ys_ev (nw := true) hT rfl sI) sF ?_
            refine gb_take 12 rfl (by decide +kernel) rfl rfl (ys_ev (nw := true) hT rfl sI) sF ?_
            refine gb_take 15 rfl (by decide +kernel) rfl rfl (ys_ev (nw := true) hT rfl sI) sF ?_
            refine gb_take 16 rfl (by decide +kernel) rfl rfl (ys_ev (nw := true) hT rfl sI) sF ?_
            refine gb_only 9 (by decide +kernel) rfl rfl ?_
            refine mv_yd rfl ((ys_load_cs (S := [blk x (mC (mK m k) (N : Nat)) 137]) hT [.int .i64 (m.n (k + 1))] rfl rfl (.head _) (mC_one (j := k + 1) (by omega) (by omega) ((cell_n (by omega)).trans rfl)) rfl rfl).ydS sF) ?_
            refine ⟨sF, ?_⟩
            refine gb_take 10 rfl (by decide +kernel) rfl rfl (ys_ev (nw := true) hT rfl sI) sF ?_
            try (refine gb_say 115 (.bool bv) rfl (by first | exact congrArg Value.bool hdec) ?_)
            refine gb_take 13 rfl (by decide +kernel) rfl rfl (ys_ev (nw := true) hT rfl sI) sF ?_
            refine gb_only 14 (by decide +kernel) rfl rfl ?_
            (refine mv_storeL hT rfl rfl rfl rfl rfl rfl (by first | ((repeat (first | with_reducible exact Upd.here _ | with_reducible apply Upd.there)); done) | ((repeat (first | exact Upd.here _ | apply Upd.there)); done) | fail) (by rw [mC_len]; show _ + 1 ≤ 193; omega) rfl ?_; rw [set_wa false (i := k + 1) (by omega) (by omega)])
            refine ⟨sF, ?_⟩
            refine gb_take 17 rfl (by decide +kernel) rfl rfl (ys_ev (nw := true) hT rfl sI) sF ?_
            refine gb_only 18 (by decide +kernel) rfl rfl ?_
            (refine mv_storeL hT rfl rfl rfl rfl rfl rfl (by first | ((repeat (first | with_reducible exact Upd.here _ | with_reducible apply Upd.there)); done) | ((repeat (first | exact Upd.here _ | apply Upd.there)); done) | fail) (by rw [mC_len]; show _ + 1 ≤ 193; omega) rfl ?_; rw [set_su bv (i := k + 1) (by omega) (by omega)])
            refine ⟨sF, ?_⟩
            refine gb_nil (by decide +kernel) ?_
            exact ⟨(), (by repeat (first | exact trivial | refine ⟨rfl, ?_⟩)), sA, sS⟩
          · (repeat (refine gG ?_; try intro _))
            refine gk_say 9 (.int .i64 ((k + 1 + 1 : Nat) : Int)) rfl (by first | (congr 1; done) | (congr 1; omega)) ?_
            refine gk_again_sel rfl (k + 1, ()) (by omega) (by dsimp only; omega) (by repeat (first | exact trivial | refine ⟨rfl, ?_⟩)) sA sS
        obtain rfl : k = N := by omega
        (repeat' (first | (refine gG ?_; try intro _) | ((first | refine g_split rfl rfl tE (fun _ => ?_) (fun _ => ?_) | refine gk_cond rfl rfl tE (fun _ => ?_) (fun _ => ?_)) <;> (try first | (exfalso; omega; done) | (rename_i hx; exact absurd rfl hx) | (rename_i hx; cases hx; done)))))
        refine g_mv rfl (mv_call_mod (φ := alF a k D s) (ψ := fun r : AlD => alF a k r (commitA s)) (fun w1 hk => by exact acommit_any a k D s w1 (by omega) hAI (hk.rO (φ := alF a k D s) mE)) rfl rfl rfl rfl rfl (by kernel_rfl) (by intro _; first | ((repeat (first | with_reducible exact Upd.here _ | with_reducible apply Upd.there)); done) | ((repeat (first | exact Upd.here _ | apply Upd.there)); done) | fail) (fun D1 h1 => ?_))
        (repeat (refine gG ?_; try intro _))
        refine gk_ret hT rfl rfl (.tmp rfl .nil) (fun w' hk => ?_)
        exact RetM.mkP (ll := fun r : MS × AlD × AlS => [blk x (mC r.1 (k : Nat)) 137, alF a k r.2.1 r.2.2]) ((mK m k, D1, commitA s) : MS × AlD × AlS) ⟨hM.commit, h1, Nat.le_succ _⟩ (by first | rfl | exact congrArg Value.bool (tB_true rfl)) hk (fun b hb => (finE_mem h.2 b).1 hb) sA
      by_cases h7 : kd % 8 = 7
      · as_aux_lemma =>
        (repeat' (first | (refine gG ?_; try intro _) | ((first | refine g_split rfl rfl tE (fun _ => ?_) (fun _ => ?_) | refine gk_cond rfl rfl tE (fun _ => ?_) (fun _ => ?_)) <;> (try first | (exfalso; omega; done) | (rename_i hx; exact absurd rfl hx) | (rename_i hx; cases hx; done)))))
        refine g_mv rfl ?_; refine mv_call_bel (fun w hk => in_any x N m (B : Int) w hN (by omega) (hk.rO (φ := blk x (mC m (N : Nat)) 137) mE)) rfl rfl rfl rfl rfl (by kernel_rfl) ?_
        by_cases hin : 1 ≤ (B : Int) ∧ (B : Int) ≤ N
        · obtain ⟨m1, m2, m3⟩ := hM B (by omega) (by omega)
          refine g_say 129 (.bool true) rfl (congrArg Value.bool (tB_true hin)) ?_
          (repeat (refine gG ?_; try intro _))
          refine gk_sel (f' := [(0, .pointer (some ⟨x, 0, none⟩)), (1, .pointer (some ⟨a, 0, none⟩)), (5, .pointer (some ⟨g5, 0, none⟩)), (7, .bool false), (8, .int .i64 60)]) (O' := [blk g5 [.int .i64 kd, .int .u32 (B : Int)] 139, blk x (mC m (N : Nat)) 137, alF a N D s]) (R' := []) (by repeat (first | exact trivial | refine ⟨rfl, ?_⟩)) sA sS ?_
          by_cases hbL : (B : Int) ∈ s.L
          · have hw3 : m.wa B = true := by rw [m3]; simpa using hbL
            refine gk_any [0, 1, 2] (Cut _ (fun _ : Unit => [(0, .pointer (some ⟨x, 0, none⟩)), (1, .pointer (some ⟨a, 0, none⟩)), (5, .pointer (some ⟨g5, 0, none⟩)), (7, .bool false), (8, .int .i64 60), (142, .bool true)]) (fun _ => [blk g5 [.int .i64 kd, .int .u32 (B : Int)] 139, blk x (mC m (N : Nat)) 137, alF a N D s]) (fun _ => [])) rfl rfl (by kernel_rfl) ?_ (cut_k fun _ => ?_)
            · skip
              refine gb_take 0 rfl (by decide +kernel) rfl rfl (ys_ev (nw := true) hT rfl sI) sF ?_
              refine gb_take 1 rfl (by decide +kernel) rfl rfl (ys_ev (nw := true) hT rfl sI) sF ?_
              refine gb_take 2 rfl (by decide +kernel) rfl rfl (by first | exact ys_blk hT rfl rfl mE rfl rfl | exact ys_row hT rfl rfl mE rfl rfl | exact ys_row0 hT rfl rfl mE rfl rfl) sF ?_
              refine gb_take 3 rfl (by decide +kernel) rfl rfl (ys_ev (nw := true) hT rfl sI) sF ?_
              refine gb_take 4 rfl (by decide +kernel) rfl rfl (ys_ev (nw := true) hT rfl sI) sF ?_
              refine gb_take 5 rfl (by decide +kernel) rfl rfl (ys_ev (nw := true) hT rfl sI) sF ?_
              refine gb_take 6 rfl (by decide +kernel) rfl rfl (ys_load_cs hT [.bool true] rfl rfl mE (mC_one (j := 128 + B) (by omega) (by omega) ((cell_wa (by omega)).trans (by rw [hw3]))) rfl rfl) sF ?_
              refine gb_nil (by decide +kernel) ?_
              exact ⟨(), (by repeat (first | exact trivial | refine ⟨rfl, ?_⟩)), sA, sS⟩
            · (repeat (refine gG ?_; try intro _))
              refine gk_ret hT rfl rfl (.tmp rfl .nil) (fun w' hk => ?_)
              exact RetM.mkP (ll := fun r : MS × AlD × AlS => [blk x (mC r.1 (N : Nat)) 137, alF a N r.2.1 r.2.2]) ((m, D, s) : MS × AlD × AlS) ⟨hM, hAI, Nat.le_succ _⟩ (by first | rfl | exact congrArg Value.bool (tB_true rfl)) hk (fun b hb => (finE_mem h.2 b).1 hb) sA
          · have hw3 : m.wa B = false := by rw [m3]; simpa using hbL
            refine gk_any [0, 1, 2] (Cut _ (fun _ : Unit => [(0, .pointer (some ⟨x, 0, none⟩)), (1, .pointer (some ⟨a, 0, none⟩)), (5, .pointer (some ⟨g5, 0, none⟩)), (7, .bool false), (8, .int .i64 60), (142, .bool false)]) (fun _ => [blk g5 [.int .i64 kd, .int .u32 (B : Int)] 139, blk x (mC m (N : Nat)) 137, alF a N D s]) (fun _ => [])) rfl rfl (by kernel_rfl) ?_ (cut_k fun _ => ?_)
            · skip
              refine gb_take 0 rfl (by decide +kernel) rfl rfl (ys_ev (nw := true) hT rfl sI) sF ?_
              refine gb_take 1 rfl (by decide +kernel) rfl rfl (ys_ev (nw := true) hT rfl sI) sF ?_
              refine gb_take 2 rfl (by decide +kernel) rfl rfl (by first | exact ys_blk hT rfl rfl mE rfl rfl | exact ys_row hT rfl rfl mE rfl rfl | exact ys_row0 hT rfl rfl mE rfl rfl) sF ?_
              refine gb_take 3 rfl (by decide +kernel) rfl rfl (ys_ev (nw := true) hT rfl sI) sF ?_
              refine gb_take 4 rfl (by decide +kernel) rfl rfl (ys_ev (nw := true) hT rfl sI) sF ?_
              refine gb_take 5 rfl (by decide +kernel) rfl rfl (ys_ev (nw := true) hT rfl sI) sF ?_
              refine gb_take 6 rfl (by decide +kernel) rfl rfl (ys_load_cs hT [.bool false] rfl rfl mE (mC_one (j := 128 + B) (by omega) (by omega) ((cell_wa (by omega)).trans (by rw [hw3]))) rfl rfl) sF ?_
              refine gb_nil (by decide +kernel) ?_
              exact ⟨(), (by repeat (first | exact trivial | refine ⟨rfl, ?_⟩)), sA, sS⟩
            · (repeat (refine gG ?_; try intro _))
              refine gk_sel (f' := [(0, .pointer (some ⟨x, 0, none⟩)), (1, .pointer (some ⟨a, 0, none⟩)), (5, .pointer (some ⟨g5, 0, none⟩)), (7, .bool false), (8, .int .i64 60)]) (O' := [blk g5 [.int .i64 kd, .int .u32 (B : Int)] 139, blk x (mC m (N : Nat)) 137, alF a N D s]) (R' := []) (by repeat (first | exact trivial | refine ⟨rfl, ?_⟩)) sA sS ?_
              refine gk_any [0, 2] (Cut _ (fun _ : Unit => [(0, .pointer (some ⟨x, 0, none⟩)), (1, .pointer (some ⟨a, 0, none⟩)), (5, .pointer (some ⟨g5, 0, none⟩)), (7, .bool false), (8, .int .i64 60)]) (fun _ => [blk g5 [.int .i64 kd, .int .u32 (B : Int)] 139, blk x (mC { m with n := upd m.n B ((s.l.count (B : Int) : Int) + 1) } (N : Nat)) 137, alF a N D s]) (fun _ => [])) rfl rfl (by kernel_rfl) ?_ (cut_k fun _ => ?_)
              · skip
                refine gb_take 0 rfl (by decide +kernel) rfl rfl (ys_ev (nw := true) hT rfl sI) sF ?_
                refine gb_take 1 rfl (by decide +kernel) rfl rfl (ys_ev (nw := true) hT rfl sI) sF ?_
                refine gb_take 2 rfl (by decide +kernel) rfl rfl (by first | exact ys_blk hT rfl rfl mE rfl rfl | exact ys_row hT rfl rfl mE rfl rfl | exact ys_row0 hT rfl rfl mE rfl rfl) sF ?_
                refine gb_take 3 rfl (by decide +kernel) rfl rfl (ys_ev (nw := true) hT rfl sI) sF ?_
                refine gb_take 4 rfl (by decide +kernel) rfl rfl (ys_ev (nw := true) hT rfl sI) sF ?_
                refine gb_take 5 rfl (by decide +kernel) rfl rfl (ys_ev (nw := true) hT rfl sI) sF ?_
                refine gb_take 8 rfl (by decide +kernel) rfl rfl (ys_ev (nw := true) hT rfl sI) sF ?_
                refine gb_take 9 rfl (by decide +kernel) rfl rfl (ys_ev (nw := true) hT rfl sI) sF ?_
                refine gb_only 6 (by decide +kernel) rfl rfl ?_
                refine mv_yd rfl ((ys_load_cs (S := [blk x (mC m (N : Nat)) 137]) hT [.int .i64 (s.l.count (B : Int) : Int)] rfl rfl (.head _) (mC_one (j := B) (by omega) (by omega) ((cell_n (by omega)).trans (by rw [m1]))) rfl rfl).ydS sF) ?_
                refine ⟨sF, ?_⟩
                refine gb_take 7 rfl (by decide +kernel) rfl rfl (ys_ev (nw := true) hT rfl sI) sF ?_
                refine gb_take 10 rfl (by decide +kernel) rfl rfl (ys_ev (nw := true) hT rfl sI) sF ?_
                refine gb_only 11 (by decide +kernel) rfl rfl ?_
                (refine mv_storeL hT rfl rfl rfl rfl rfl rfl (by first | ((repeat (first | with_reducible exact Upd.here _ | with_reducible apply Upd.there)); done) | ((repeat (first | exact Upd.here _ | apply Upd.there)); done) | fail) (by rw [mC_len]; show _ + 1 ≤ 193; omega) rfl ?_; rw [set_n ((s.l.count (B : Int) : Int) + 1) (i := B) (by omega) (by omega)])
                refine ⟨sF, ?_⟩
                refine gb_nil (by decide +kernel) ?_
                exact ⟨(), (by repeat (first | exact trivial | refine ⟨rfl, ?_⟩)), sA, sS⟩
              · (repeat (refine gG ?_; try intro _))
                refine g_mv rfl (mv_call_mod (φ := alF a N D s) (ψ := fun r : AlD × AlS × Int => alF a N r.1 r.2.1) (fun w1 hk => by exact aadopt_any a N D s (B : Int) w1 (by omega) (by omega) hB9 hbL (by omega) hAI (hk.rO (φ := alF a N D s) mE)) rfl rfl rfl rfl rfl (by kernel_rfl) (by intro _; first | ((repeat (first | with_reducible exact Upd.here _ | with_reducible apply Upd.there)); done) | ((repeat (first | exact Upd.here _ | apply Upd.there)); done) | fail) (fun r hr => ?_))
                obtain ⟨D1, s1, e1⟩ := r
                obtain ⟨hI1, hr1⟩ := hr
                rw [show adoptA N s (B : Int) = (⟨dropP (B : Int) s.S, s.l ++ [(B : Int)], s.U, s.L⟩, 0) from if_neg (by omega)] at hr1
                obtain ⟨rfl, rfl⟩ : s1 = ⟨dropP (B : Int) s.S, s.l ++ [(B : Int)], s.U, s.L⟩ ∧ e1 = 0 := by cases hr1; exact ⟨rfl, rfl⟩
                dsimp only at hI1 ⊢
                (repeat (refine gG ?_; try intro _))
                refine gk_ret hT rfl rfl (.tmp rfl .nil) (fun w' hk => ?_)
                exact RetM.mkP (ll := fun r : MS × AlD × AlS => [blk x (mC r.1 (N : Nat)) 137, alF a N r.2.1 r.2.2]) (({ m with n := upd m.n B ((s.l.count (B : Int) : Int) + 1) }, D1, ⟨dropP (B : Int) s.S, s.l ++ [(B : Int)], s.U, s.L⟩) : MS × AlD × AlS) ⟨hM.hold _, hI1, by show (s.l ++ [(B : Int)]).length ≤ _; rw [List.length_append]; exact Nat.le_refl _⟩ (by first | rfl | exact congrArg Value.bool (tB_true rfl)) hk (fun b hb => (finE_mem h.2 b).1 hb) sA
        · refine g_say 129 (.bool false) rfl (congrArg Value.bool (tB_false hin)) ?_
          (repeat (refine gG ?_; try intro _))
          have hbL : (B : Int) ∉ s.L := fun h => hin (hAI.p.pos (.inr (.inr h)))
          refine g_mv rfl (mv_call_mod (φ := alF a N D s) (ψ := fun r : AlD × AlS × Int => alF a N r.1 r.2.1) (fun w1 hk => by exact aadopt_any a N D s (B : Int) w1 (by omega) (by omega) hB9 hbL (by omega) hAI (hk.rO (φ := alF a N D s) mE)) rfl rfl rfl rfl rfl (by kernel_rfl) (by intro _; first | ((repeat (first | with_reducible exact Upd.here _ | with_reducible apply Upd.there)); done) | ((repeat (first | exact Upd.here _ | apply Upd.there)); done) | fail) (fun r hr => ?_))
          obtain ⟨D1, s1, e1⟩ := r
          obtain ⟨hI1, hr1⟩ := hr
          rw [show adoptA N s (B : Int) = (s, 11) from if_pos (by omega)] at hr1
          obtain ⟨rfl, rfl⟩ : s1 = s ∧ e1 = 11 := by cases hr1; exact ⟨rfl, rfl⟩
          dsimp only at hI1 ⊢
          (repeat (refine gG ?_; try intro _))
          refine gk_ret hT rfl rfl (.tmp rfl .nil) (fun w' hk => ?_)
          exact RetM.mkP (ll := fun r : MS × AlD × AlS => [blk x (mC r.1 (N : Nat)) 137, alF a N r.2.1 r.2.2]) ((m, D1, s1) : MS × AlD × AlS) ⟨hM, hI1, Nat.le_succ _⟩ (by first | rfl | exact congrArg Value.bool (tB_true rfl)) hk (fun b hb => (finE_mem h.2 b).1 hb) sA
      have hk8 : kd % 8 = 0 ∨ kd % 8 = 1 ∨ kd % 8 = 2 := by omega
      (repeat' (first | (refine gG ?_; try intro _) | ((first | refine g_split rfl rfl tE (fun _ => ?_) (fun _ => ?_) | refine gk_cond rfl rfl tE (fun _ => ?_) (fun _ => ?_)) <;> (try first | (exfalso; omega; done) | (rename_i hx; exact absurd rfl hx) | (rename_i hx; cases hx; done)))))
      refine g_mv rfl (mv_call_mod (φ := alF a N D s) (ψ := fun r : AlD × AlS × Int × Int => alF a N r.1 r.2.1) (fun w1 hk => by exact atake_any a N D s w1 (by omega) hAI (hk.rO (φ := alF a N D s) mE)) rfl rfl rfl rfl rfl (by kernel_rfl) (by intro _; first | ((repeat (first | with_reducible exact Upd.here _ | with_reducible apply Upd.there)); done) | ((repeat (first | exact Upd.here _ | apply Upd.there)); done) | fail) (fun r hr => ?_))
      obtain ⟨D1, s1, bb, ee⟩ := r
      obtain ⟨hI1, hr1⟩ := hr
      dsimp only at hI1 hr1 ⊢
      (repeat (refine gG ?_; try intro _))
      refine g_mv rfl (mv_call_mod (φ := blk x (mC m (N : Nat)) 137) (ψ := fun r : MS × Nat => blk x (mC r.1 (N : Nat)) 137) (fun w1 hk => by exact mtake_any x N m w1 hN (hk.rO (φ := blk x (mC m (N : Nat)) 137) mE)) rfl rfl rfl rfl rfl (by kernel_rfl) (by intro _; first | ((repeat (first | with_reducible exact Upd.here _ | with_reducible apply Upd.there)); done) | ((repeat (first | exact Upd.here _ | apply Upd.there)); done) | fail) (fun r hr => ?_))
      obtain ⟨m', k⟩ := r
      dsimp only at hr ⊢
      have hp := hAI.p
      cases hS : s.S with
      | nil =>
        rw [take_0 hS] at hr1
        obtain ⟨rfl, rfl, rfl⟩ : s1 = s ∧ bb = 0 ∧ ee = 30 := by cases hr1; exact ⟨rfl, rfl, rfl⟩
        rcases hr with ⟨rfl, rfl, _⟩ | ⟨k1, k2, kf, _, _⟩
        · (repeat' (first | (refine gG ?_; try intro _) | ((first | refine g_split rfl rfl tE (fun _ => ?_) (fun _ => ?_) | refine gk_cond rfl rfl tE (fun _ => ?_) (fun _ => ?_)) <;> (try first | (exfalso; omega; done) | (rename_i hx; exact absurd rfl hx) | (rename_i hx; cases hx; done)))))
          all_goals
            refine gk_ret hT rfl rfl (.tmp rfl .nil) (fun w' hk => ?_)
            exact RetM.mkP (ll := fun r : MS × AlD × AlS => [blk x (mC r.1 (N : Nat)) 137, alF a N r.2.1 r.2.2]) ((m', D1, s1) : MS × AlD × AlS) ⟨hM, hI1, Nat.le_succ _⟩ (by first | rfl | exact congrArg Value.bool (tB_true rfl)) hk (fun b hb => (finE_mem h.2 b).1 hb) sA
        · have := (free_iff hM hp k1 k2).1 kf
          rw [hS] at this
          cases this
      | cons y S' =>
        rw [take_S hS] at hr1
        obtain ⟨rfl, rfl, rfl⟩ : s1 = ⟨S', s.l ++ [y], s.U, s.L⟩ ∧ bb = y ∧ ee = 0 := by cases hr1; exact ⟨rfl, rfl, rfl⟩
        have hyS : bb ∈ s.S := by rw [hS]; exact .head _
        have hy1 := hp.pos (.inl hyS)
        obtain ⟨Y, rfl⟩ : ∃ Y : Nat, bb = (Y : Int) := ⟨bb.toNat, by omega⟩
        have hyf := (free_iff hM hp (i := Y) (by omega) (by omega)).2 hyS
        rcases hr with ⟨_, _, hno⟩ | ⟨k1, k2, kf, kno, rfl⟩
        · exact absurd hyf (hno Y (by omega) (by omega))
        · have hkS := (free_iff hM hp k1 k2).1 kf
          have hle : (Y : Int) ≤ (k : Int) := by
            rw [hS] at hkS
            rcases List.mem_cons.1 hkS with e | e
            · omega
            · have h8 := hp.sorted
              rw [hS] at h8
              have := (List.pairwise_cons.1 h8).1 _ e
              omega
          obtain rfl : k = Y := by
            refine Classical.byContradiction fun hne => ?_
            exact kno Y (by omega) (by omega) hyf
          have hz : s.l.count (k : Int) = 0 := List.count_eq_zero.2 (hp.fl _ hyS)
          have hMt := hM.hold (B := k) S'
          rw [hz] at hMt
          (repeat' (first | (refine gG ?_; try intro _) | ((first | refine g_split rfl rfl tE (fun _ => ?_) (fun _ => ?_) | refine gk_cond rfl rfl tE (fun _ => ?_) (fun _ => ?_)) <;> (try first | (exfalso; omega; done) | (rename_i hx; exact absurd rfl hx) | (rename_i hx; cases hx; done)))))
          all_goals
            refine gk_ret hT rfl rfl (.tmp rfl .nil) (fun w' hk => ?_)
            exact RetM.mkP (ll := fun r : MS × AlD × AlS => [blk x (mC r.1 (N : Nat)) 137, alF a N r.2.1 r.2.2]) (({ m with n := upd m.n k 1 }, D1, ⟨S', s.l ++ [(k : Int)], s.U, s.L⟩) : MS × AlD × AlS) ⟨hMt, hI1, by show (s.l ++ [(k : Int)]).length ≤ _; rw [List.length_append]; exact Nat.le_refl _⟩ (by first | rfl | exact congrArg Value.bool (tB_true rfl)) hk (fun b hb => (finE_mem h.2 b).1 hb) sA
end Go.Proofs.Ytdkgmgfadpnhbaa.Al

