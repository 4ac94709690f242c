/- The statement ExtentRuns. -/
import Derived.Test.YtmehbhabheokbaaEx6
namespace Go.Proofs.Ytmehbhabheokbaa.Ex
open Go.RowKit Mem Gx Dd
set_option linter.unusedVariables false
set_option linter.unusedSimpArgs false
set_option maxRecDepth 100000
set_option maxHeartbeats 1000000
theorem extentRuns_any (A : Option Addr) (n c : Nat) (L : List RunD) (w : World) (hn : n = L.length) (hs : Rd1 w (sl A 2 RE L)) :
    Calls Try.prog 7 [.slice A n c].toArray w fun e w' => e = .returned (.bool true) ∧ Below w.heap.size w w' := by
  refine g_enter0 T [] [] [sl A 2 RE L] Try.func7 rfl Try.ntmps7 rfl (Rds.cons hs .nil).kn ?_
  by_cases h40 : 40 < n
  · (repeat' (first | (refine gG ?_; try intro _) | ((first | refine g_split rfl rfl tE (fun _ => ?_) (fun _ => ?_) | refine gk_cond rfl rfl tE (fun _ => ?_) (fun _ => ?_)) <;> (try first | (exfalso; omega; done) | (rename_i hx; exact absurd rfl hx) | (rename_i hx; cases hx; done)))))
    refine gk_ret hT rfl rfl (.tmp rfl .nil) (fun w' hk => ?_)
    exact ⟨rfl, hk.toBelow⟩
  (repeat' (first | (refine gG ?_; try intro _) | ((first | refine g_split rfl rfl tE (fun _ => ?_) (fun _ => ?_) | refine gk_cond rfl rfl tE (fun _ => ?_) (fun _ => ?_)) <;> (try first | (exfalso; omega; done) | (rename_i hx; exact absurd rfl hx) | (rename_i hx; cases hx; done)))))
  rename_i g3
  refine gk_loop_sel (fun (q : Nat × RunD) => match q with | (k, B) => (k ≤ n ∧ B = bestN L k ∧ Few L k)) (fun (q : Nat × RunD) => match q with | (k, B) => [(0, .slice A n c), (3, .pointer (some ⟨g3, 0, none⟩)), (4, .bool (decide (0 < k))), (5, .int .i64 (k : Int))]) (fun (q : Nat × RunD) => match q with | (k, B) => [blk g3 [.int .i64 B.f, .int .i64 B.m] 111]) (fun (q : Nat × RunD) => match q with | (k, B) => [sl A 2 RE L]) (fun (q : Nat × RunD) => match q with | (k, B) => n - k) (0, ⟨0, 0⟩) rfl ⟨Nat.zero_le _, rfl, fun i r h => absurd h (Nat.not_lt_zero _)⟩ (by repeat (first | exact trivial | refine ⟨rfl, ?_⟩)) sA sS ?_
  rintro ⟨k, B⟩ hI
  replace hI : (k ≤ n ∧ B = bestN L k ∧ Few L k) := hI
  change GK _ _ [(0, .slice A n c), (3, .pointer (some ⟨g3, 0, none⟩)), (4, .bool (decide (0 < k))), (5, .int .i64 (k : Int))] [blk g3 [.int .i64 B.f, .int .i64 B.m] 111] [sl A 2 RE L]
  obtain ⟨kn, hB, hf⟩ := hI
  by_cases hk : k < n
  · obtain ⟨r, hr⟩ : ∃ r, L[k]? = some r := ⟨_, List.getElem?_eq_getElem (by omega)⟩
    refine gk_elem (enc := RE) (L := L) k mE (by omega) (by decide) (fun b o y eA hy => ?_)
    subst eA
    obtain rfl : r = y := by rw [hr] at hy; exact Option.some.inj hy
    by_cases hb : r.m < -1073741824 ∨ 1073741824 < r.m
    · (repeat' (first | (refine gG ?_; try intro _) | ((first | refine g_split rfl rfl tE (fun _ => ?_) (fun _ => ?_) | refine gk_cond rfl rfl tE (fun _ => ?_) (fun _ => ?_)) <;> (try first | (exfalso; omega; done) | (rename_i hx; exact absurd rfl hx) | (rename_i hx; cases hx; done)))))
      all_goals (refine gk_ret hT rfl rfl (.tmp rfl .nil) (fun w' hk => ?_); exact ⟨rfl, hk.toBelow⟩)
    have hf2 : Few L (k + 1) := fun i x hi hx => by
      by_cases e : i = k
      · subst e
        rw [hr] at hx
        obtain rfl := Option.some.inj hx
        omega
      · exact hf i x (by omega) hx
    (repeat' (first | (refine gG ?_; try intro _) | ((first | refine g_split rfl rfl tE (fun _ => ?_) (fun _ => ?_) | refine gk_cond rfl rfl tE (fun _ => ?_) (fun _ => ?_)) <;> (try first | (exfalso; omega; done) | (rename_i hx; exact absurd rfl hx) | (rename_i hx; cases hx; done)))))
    by_cases hc : k = 0 ∨ B.m < r.m
    · suffices hgo : GK _ _ [(0, .slice (some ⟨b, o, none⟩) n c), (3, .pointer (some ⟨g3, 0, none⟩)), (5, .int .i64 (k : Int)), (48, .bool true)] [blk g3 [.int .i64 B.f, .int .i64 B.m] 111] [sl (some ⟨b, o, none⟩) 2 RE L, row b (o + k * 2) (encF RE r 0 2)] by
        rcases Nat.eq_zero_or_pos k with h0 | h0
        · refine gk_say 4 (.bool false) rfl (by rw [decide_eq_false (by omega)]) ?_
          refine gk_any [0, 1] (Cut _ (fun _ : Unit => [(0, .slice (some ⟨b, o, none⟩) n c), (3, .pointer (some ⟨g3, 0, none⟩)), (5, .int .i64 (k : Int)), (48, .bool true)]) (fun _ => [blk g3 [.int .i64 B.f, .int .i64 B.m] 111]) (fun _ => [sl (some ⟨b, o, none⟩) 2 RE L, row b (o + k * 2) (encF RE r 0 2)])) rfl rfl (by kernel_rfl) ?_ (cut_k fun _ => hgo)
          refine gb_take 0 rfl (by decide +kernel) rfl rfl (ys_ev (nw := true) hT rfl sI) sF ?_
          refine gb_take 1 rfl (by decide +kernel) rfl rfl (ys_ev (nw := true) hT rfl sI) sF ?_
          refine gb_take 2 rfl (by decide +kernel) rfl rfl (ys_ev (nw := true) hT rfl sI) sF ?_
          first | refine gb_take 3 rfl (by decide +kernel) rfl rfl (ys_ev (nw := true) hT rfl sI) sF ?_ | refine gb_skip 3 rfl (by decide +kernel) rfl rfl sF ?_
          first | refine gb_take 4 rfl (by decide +kernel) rfl rfl (ys_ev (nw := true) hT rfl sI) sF ?_ | refine gb_skip 4 rfl (by decide +kernel) rfl rfl sF ?_
          first | refine gb_take 5 rfl (by decide +kernel) rfl rfl (ys_ev (nw := true) hT rfl sI) sF ?_ | refine gb_skip 5 rfl (by decide +kernel) rfl rfl sF ?_
          first | refine gb_take 6 rfl (by decide +kernel) rfl rfl (ys_ev (nw := true) hT rfl sI) sF ?_ | refine gb_skip 6 rfl (by decide +kernel) rfl rfl sF ?_
          first | refine gb_take 7 rfl (by decide +kernel) rfl rfl (by first | exact ys_blk hT rfl rfl mE rfl rfl | exact ys_row hT rfl rfl mE rfl rfl | exact ys_row0 hT rfl rfl mE rfl rfl) sF ?_ | refine gb_skip 7 rfl (by decide +kernel) rfl rfl sF ?_
          first | refine gb_take 8 rfl (by decide +kernel) rfl rfl (ys_ev (nw := true) hT rfl sI) sF ?_ | refine gb_skip 8 rfl (by decide +kernel) rfl rfl sF ?_
          first | refine gb_take 9 rfl (by decide +kernel) rfl rfl (by first | exact ys_blk hT rfl rfl mE rfl rfl | exact ys_row hT rfl rfl mE rfl rfl | exact ys_row0 hT rfl rfl mE rfl rfl) sF ?_ | refine gb_skip 9 rfl (by decide +kernel) rfl rfl sF ?_
          first | refine gb_take 10 rfl (by decide +kernel) rfl rfl (ys_ev (nw := true) hT rfl sI) sF ?_ | refine gb_skip 10 rfl (by decide +kernel) rfl rfl sF ?_
          refine gb_take 11 rfl (by decide +kernel) rfl rfl (ys_ev (nw := true) hT rfl sI) sF ?_
          refine gb_nil (by decide +kernel) ?_
          exact ⟨(), (by repeat (first | exact trivial | refine ⟨rfl, ?_⟩)), sA, sS⟩
        · refine gk_say 4 (.bool true) rfl (by rw [decide_eq_true h0]) ?_
          refine gk_any [0, 1] (Cut _ (fun _ : Unit => [(0, .slice (some ⟨b, o, none⟩) n c), (3, .pointer (some ⟨g3, 0, none⟩)), (5, .int .i64 (k : Int)), (48, .bool true)]) (fun _ => [blk g3 [.int .i64 B.f, .int .i64 B.m] 111]) (fun _ => [sl (some ⟨b, o, none⟩) 2 RE L, row b (o + k * 2) (encF RE r 0 2)])) rfl rfl (by kernel_rfl) ?_ (cut_k fun _ => hgo)
          refine gb_take 0 rfl (by decide +kernel) rfl rfl (ys_ev (nw := true) hT rfl sI) sF ?_
          refine gb_take 1 rfl (by decide +kernel) rfl rfl (ys_ev (nw := true) hT rfl sI) sF ?_
          refine gb_take 2 rfl (by decide +kernel) rfl rfl (ys_ev (nw := true) hT rfl sI) sF ?_
          first | refine gb_take 3 rfl (by decide +kernel) rfl rfl (ys_ev (nw := true) hT rfl sI) sF ?_ | refine gb_skip 3 rfl (by decide +kernel) rfl rfl sF ?_
          first | refine gb_take 4 rfl (by decide +kernel) rfl rfl (ys_ev (nw := true) hT rfl sI) sF ?_ | refine gb_skip 4 rfl (by decide +kernel) rfl rfl sF ?_
          first | refine gb_take 5 rfl (by decide +kernel) rfl rfl (ys_ev (nw := true) hT rfl sI) sF ?_ | refine gb_skip 5 rfl (by decide +kernel) rfl rfl sF ?_
          first | refine gb_take 6 rfl (by decide +kernel) rfl rfl (ys_ev (nw := true) hT rfl sI) sF ?_ | refine gb_skip 6 rfl (by decide +kernel) rfl rfl sF ?_
          first | refine gb_take 7 rfl (by decide +kernel) rfl rfl (by first | exact ys_blk hT rfl rfl mE rfl rfl | exact ys_row hT rfl rfl mE rfl rfl | exact ys_row0 hT rfl rfl mE rfl rfl) sF ?_ | refine gb_skip 7 rfl (by decide +kernel) rfl rfl sF ?_
          first | refine gb_take 8 rfl (by decide +kernel) rfl rfl (ys_ev (nw := true) hT rfl sI) sF ?_ | refine gb_skip 8 rfl (by decide +kernel) rfl rfl sF ?_
          first | refine gb_take 9 rfl (by decide +kernel) rfl rfl (by first | exact ys_blk hT rfl rfl mE rfl rfl | exact ys_row hT rfl rfl mE rfl rfl | exact ys_row0 hT rfl rfl mE rfl rfl) sF ?_ | refine gb_skip 9 rfl (by decide +kernel) rfl rfl sF ?_
          first | refine gb_take 10 rfl (by decide +kernel) rfl rfl (ys_ev (nw := true) hT rfl sI) sF ?_ | refine gb_skip 10 rfl (by decide +kernel) rfl rfl sF ?_
          try (refine gb_say 47 (.bool true) rfl (congrArg Value.bool (tB_true (show B.m < r.m by omega))) ?_)
          refine gb_take 11 rfl (by decide +kernel) rfl rfl (ys_ev (nw := true) hT rfl sI) sF ?_
          refine gb_nil (by decide +kernel) ?_
          exact ⟨(), (by repeat (first | exact trivial | refine ⟨rfl, ?_⟩)), sA, sS⟩
      (repeat (refine gG ?_; try intro _))
      refine gk_say 5 (.int .i64 ((k + 1 : Nat) : Int)) rfl (by first | (congr 1; done) | (congr 1; omega)) ?_
      refine gk_say 4 (.bool (decide (0 < k + 1))) rfl (by rw [decide_eq_true (Nat.succ_pos k)]) ?_
      refine gk_again_sel rfl (k + 1, r) ⟨by omega, (bestN_new hr (by rw [← hB]; exact hc)).symm, hf2⟩ (by dsimp only; omega) (by repeat (first | exact trivial | refine ⟨rfl, ?_⟩)) sA sS
    · have h0 : 0 < k := by omega
      refine gk_say 4 (.bool true) rfl (by rw [decide_eq_true h0]) ?_
      refine gk_any [0, 1] (Cut _ (fun _ : Unit => [(0, .slice (some ⟨b, o, none⟩) n c), (3, .pointer (some ⟨g3, 0, none⟩)), (5, .int .i64 (k : Int)), (4, .bool true), (48, .bool false)]) (fun _ => [blk g3 [.int .i64 B.f, .int .i64 B.m] 111]) (fun _ => [sl (some ⟨b, o, none⟩) 2 RE L])) rfl rfl (by kernel_rfl) ?_ (cut_k fun _ => ?_)
      · skip
        refine gb_take 0 rfl (by decide +kernel) rfl rfl (ys_ev (nw := true) hT rfl sI) sF ?_
        refine gb_take 1 rfl (by decide +kernel) rfl rfl (ys_ev (nw := true) hT rfl sI) sF ?_
        refine gb_take 2 rfl (by decide +kernel) rfl rfl (ys_ev (nw := true) hT rfl sI) sF ?_
        first | refine gb_take 3 rfl (by decide +kernel) rfl rfl (ys_ev (nw := true) hT rfl sI) sF ?_ | refine gb_skip 3 rfl (by decide +kernel) rfl rfl sF ?_
        first | refine gb_take 4 rfl (by decide +kernel) rfl rfl (ys_ev (nw := true) hT rfl sI) sF ?_ | refine gb_skip 4 rfl (by decide +kernel) rfl rfl sF ?_
        first | refine gb_take 5 rfl (by decide +kernel) rfl rfl (ys_ev (nw := true) hT rfl sI) sF ?_ | refine gb_skip 5 rfl (by decide +kernel) rfl rfl sF ?_
        first | refine gb_take 6 rfl (by decide +kernel) rfl rfl (ys_ev (nw := true) hT rfl sI) sF ?_ | refine gb_skip 6 rfl (by decide +kernel) rfl rfl sF ?_
        first | refine gb_take 7 rfl (by decide +kernel) rfl rfl (by first | exact ys_blk hT rfl rfl mE rfl rfl | exact ys_row hT rfl rfl mE rfl rfl | exact ys_row0 hT rfl rfl mE rfl rfl) sF ?_ | refine gb_skip 7 rfl (by decide +kernel) rfl rfl sF ?_
        first | refine gb_take 8 rfl (by decide +kernel) rfl rfl (ys_ev (nw := true) hT rfl sI) sF ?_ | refine gb_skip 8 rfl (by decide +kernel) rfl rfl sF ?_
        first | refine gb_take 9 rfl (by decide +kernel) rfl rfl (by first | exact ys_blk hT rfl rfl mE rfl rfl | exact ys_row hT rfl rfl mE rfl rfl | exact ys_row0 hT rfl rfl mE rfl rfl) sF ?_ | refine gb_skip 9 rfl (by decide +kernel) rfl rfl sF ?_
        first | refine gb_take 10 rfl (by decide +kernel) rfl rfl (ys_ev (nw := true) hT rfl sI) sF ?_ | refine gb_skip 10 rfl (by decide +kernel) rfl rfl sF ?_
        try (refine gb_say 47 (.bool false) rfl (congrArg Value.bool (tB_false (show ¬ B.m < r.m by omega))) ?_)
        refine gb_take 11 rfl (by decide +kernel) rfl rfl (ys_ev (nw := true) hT rfl sI) sF ?_
        refine gb_nil (by decide +kernel) ?_
        exact ⟨(), (by repeat (first | exact trivial | refine ⟨rfl, ?_⟩)), sA, sS⟩
      · (repeat (refine gG ?_; try intro _))
        refine gk_say 5 (.int .i64 ((k + 1 : Nat) : Int)) rfl (by first | (congr 1; done) | (congr 1; omega)) ?_
        refine gk_say 4 (.bool (decide (0 < k + 1))) rfl (by rw [decide_eq_true (Nat.succ_pos k)]) ?_
        refine gk_again_sel rfl (k + 1, B) ⟨by omega, hB.trans (bestN_old hr (by rw [← hB]; exact hc)).symm, hf2⟩ (by dsimp only; omega) (by repeat (first | exact trivial | refine ⟨rfl, ?_⟩)) sA sS
  have hkn : k = n := by omega
  subst hkn
  subst hB
  (repeat' (first | (refine gG ?_; try intro _) | (refine g_mv rfl ?_; first | refine mv_call_bel (fun w hk => longest_any A k c L w hn (by omega) hf (hk.rR (φ := sl A 2 RE L) mE)) rfl rfl rfl rfl rfl (by kernel_rfl) ?_) | ((first | refine g_split rfl rfl tE (fun _ => ?_) (fun _ => ?_) | refine gk_cond rfl rfl tE (fun _ => ?_) (fun _ => ?_)) <;> (try first | (exfalso; omega; done) | (rename_i hx; exact absurd rfl hx) | (rename_i hx; cases hx; done)))))
  rename_i g6
  by_cases hr : rightE (-1) L
  · have hm := rightE_m hr
    have htx : txtP L = txt L := by unfold txtP; rw [tB_true hr, if_pos rfl]
    have hbl : blocksP L = exp L := by unfold blocksP; rw [tB_true hr, if_pos rfl]
    refine g_mv rfl ?_; refine mv_call_bel (fun w hk => by have hc := lright_any A k c L w hn (by omega) (hk.rR (φ := sl A 2 RE L) mE); rw [tB_true hr] at hc; exact hc) rfl rfl rfl rfl rfl (by kernel_rfl) ?_
    (repeat (refine gG ?_; try intro _))
    refine g_mv rfl ?_; refine mv_call_bel (fun w hk => ltext_any A k c L w hn (by omega) hr (hk.rR (φ := sl A 2 RE L) mE)) rfl rfl rfl rfl rfl (by kernel_rfl) ?_
    (repeat (refine gG ?_; try intro _))
    refine gk_own 0 3 1 (IE .i64) ?_
    refine gk_loop_sel (fun (q : Nat × Value) => match q with | (i, v) => (i ≤ k)) (fun (q : Nat × Value) => match q with | (i, v) => [(0, .slice A k c), (3, .pointer (some ⟨g3, 0, none⟩)), (4, .bool (decide (0 < k))), (6, .pointer (some ⟨g6, 0, none⟩)), (7, .bool (decide (0 < k))), (8, .bool true), (9, .string (strOfNums (txt L))), (10, v), (11, .int .i64 (i : Int))]) (fun (q : Nat × Value) => match q with | (i, v) => [own 0 3 1 v (IE .i64) (exp (L.take i)), blk g6 [.int .i64 (bestN L k).f, .int .i64 (bestN L k).m] 111, blk g3 [.int .i64 (bestN L k).f, .int .i64 (bestN L k).m] 111]) (fun (q : Nat × Value) => match q with | (i, v) => [sl A 2 RE L]) (fun (q : Nat × Value) => match q with | (i, v) => k - i) (0, .slice none 0 0) rfl (Nat.zero_le _) (by repeat (first | exact trivial | refine ⟨rfl, ?_⟩)) sA sS ?_
    rintro ⟨i, v⟩ hI
    replace hI : (i ≤ k) := hI
    change GK _ _ [(0, .slice A k c), (3, .pointer (some ⟨g3, 0, none⟩)), (4, .bool (decide (0 < k))), (6, .pointer (some ⟨g6, 0, none⟩)), (7, .bool (decide (0 < k))), (8, .bool true), (9, .string (strOfNums (txt L))), (10, v), (11, .int .i64 (i : Int))] [own 0 3 1 v (IE .i64) (exp (L.take i)), blk g6 [.int .i64 (bestN L k).f, .int .i64 (bestN L k).m] 111, blk g3 [.int .i64 (bestN L k).f, .int .i64 (bestN L k).m] 111] [sl A 2 RE L]
    by_cases hlt : i < k
    · obtain ⟨r, hr⟩ : ∃ r, L[i]? = some r := ⟨_, List.getElem?_eq_getElem (by omega)⟩
      have hmr := hm r (List.mem_of_getElem? hr)
      have et : exp (L.take (i + 1)) = exp (L.take i) ++ expR r := by rw [take_at hr, exp_snoc]
      have hlen : (exp (L.take i)).length ≤ 4097 * i := Nat.le_trans (exp_len fun r hr => (hm r (List.mem_of_mem_take hr)).2.1) (by rw [List.length_take, Nat.min_eq_left (by omega)]; exact Nat.le_refl _)
      refine gk_elem (enc := RE) (L := L) i mE (by omega) (by decide) (fun b o y eA hy => ?_)
      subst eA
      obtain rfl : r = y := by rw [hr] at hy; exact Option.some.inj hy
      (repeat' (first | (refine gG ?_; try intro _) | ((first | refine g_split rfl rfl tE (fun _ => ?_) (fun _ => ?_) | refine gk_cond rfl rfl tE (fun _ => ?_) (fun _ => ?_)) <;> (try first | (exfalso; omega; done) | (rename_i hx; exact absurd rfl hx) | (rename_i hx; cases hx; done)))))
      rw [show exp (L.take i) = exp (L.take i) ++ (expR r).take 0 by simp]
      refine gk_loop_sel (fun (q : Nat × Value) => match q with | (j, v) => ((j : Int) ≤ r.m)) (fun (q : Nat × Value) => match q with | (j, v) => [(0, .slice (some ⟨b, o, none⟩) k c), (3, .pointer (some ⟨g3, 0, none⟩)), (4, .bool (decide (0 < k))), (6, .pointer (some ⟨g6, 0, none⟩)), (7, .bool (decide (0 < k))), (8, .bool true), (9, .string (strOfNums (txt L))), (10, v), (11, .int .i64 (i : Int)), (12, .int .i64 (j : Int))]) (fun (q : Nat × Value) => match q with | (j, v) => [own 0 3 1 v (IE .i64) (exp (L.take i) ++ (expR r).take j), blk g6 [.int .i64 (bestN L k).f, .int .i64 (bestN L k).m] 111, blk g3 [.int .i64 (bestN L k).f, .int .i64 (bestN L k).m] 111]) (fun (q : Nat × Value) => match q with | (j, v) => [row b (o + i * 2) (encF RE r 0 2), sl (some ⟨b, o, none⟩) 2 RE L]) (fun (q : Nat × Value) => match q with | (j, v) => r.m.toNat - j) (0, v) rfl (by show (0 : Int) ≤ r.m; omega) (by repeat (first | exact trivial | refine ⟨rfl, ?_⟩)) sA sS ?_
      rintro ⟨j, v⟩ hI
      replace hI : ((j : Int) ≤ r.m) := hI
      change GK _ _ [(0, .slice (some ⟨b, o, none⟩) k c), (3, .pointer (some ⟨g3, 0, none⟩)), (4, .bool (decide (0 < k))), (6, .pointer (some ⟨g6, 0, none⟩)), (7, .bool (decide (0 < k))), (8, .bool true), (9, .string (strOfNums (txt L))), (10, v), (11, .int .i64 (i : Int)), (12, .int .i64 (j : Int))] [own 0 3 1 v (IE .i64) (exp (L.take i) ++ (expR r).take j), blk g6 [.int .i64 (bestN L k).f, .int .i64 (bestN L k).m] 111, blk g3 [.int .i64 (bestN L k).f, .int .i64 (bestN L k).m] 111] [row b (o + i * 2) (encF RE r 0 2), sl (some ⟨b, o, none⟩) 2 RE L]
      by_cases hj : (j : Int) < r.m
      · have ek : (expR r)[j]? = some (r.f + (j : Int)) := by
          unfold expR
          rw [List.getElem?_map, List.getElem?_range (by omega)]
          rfl
        have ht := take_at ek
        have hle : ((expR r).take j).length ≤ 4097 := by rw [List.length_take, expR_len]; omega
        (repeat' (first | (refine gG ?_; try intro _) | ((first | refine g_split rfl rfl tE (fun _ => ?_) (fun _ => ?_) | refine gk_cond rfl rfl tE (fun _ => ?_) (fun _ => ?_)) <;> (try first | (exfalso; omega; done) | (rename_i hx; exact absurd rfl hx) | (rename_i hx; cases hx; done)))))
        refine g_mv rfl (mv_append (L := exp (L.take i) ++ (expR r).take j) rfl [r.f + (j : Int)] rfl rfl rfl rfl elt_I (by intro _; first | ((repeat (first | with_reducible exact Upd.here _ | with_reducible apply Upd.there)); done) | ((repeat (first | exact Upd.here _ | apply Upd.there)); done) | fail) (src_blk mE rfl) rfl oneI (by simp only [maxLen, List.length_append, List.length_cons, List.length_nil]; omega) (by simp only [List.length_append, List.length_cons, List.length_nil]; omega) (Nat.zero_le _) (fun v1 => ?_))
        (repeat (refine gG ?_; try intro _))
        refine gk_say 12 (.int .i64 ((j + 1 : Nat) : Int)) rfl (by first | (congr 1; done) | (congr 1; omega)) ?_
        rw [List.append_assoc, ← ht]
        refine gk_again_sel rfl (j + 1, v1) (by show ((j + 1 : Nat) : Int) ≤ r.m; omega) (by dsimp only; omega) (by repeat (first | exact trivial | refine ⟨rfl, ?_⟩)) sA sS
      · have ht : (expR r).take j = expR r := List.take_of_length_le (by rw [expR_len]; omega)
        rw [ht, ← et]
        (repeat' (first | (refine gG ?_; try intro _) | ((first | refine g_split rfl rfl tE (fun _ => ?_) (fun _ => ?_) | refine gk_cond rfl rfl tE (fun _ => ?_) (fun _ => ?_)) <;> (try first | (exfalso; omega; done) | (rename_i hx; exact absurd rfl hx) | (rename_i hx; cases hx; done)))))
        refine gk_say 11 (.int .i64 ((i + 1 : Nat) : Int)) rfl (by first | (congr 1; done) | (congr 1; omega)) ?_
        refine gk_again_sel rfl (i + 1, v) (by omega) (by dsimp only; omega) (by repeat (first | exact trivial | refine ⟨rfl, ?_⟩)) sA sS
    · have ht : L.take i = L := List.take_of_length_le (by omega)
      rw [ht]
      (repeat (refine gG ?_; try intro _))
      refine gk_cond_f rfl (congrArg some (congrArg Value.bool (tB_false (by omega)))) ?_
      refine gk_freeze _ (by intro _; first | ((repeat (first | with_reducible exact Upd.here _ | with_reducible apply Upd.there)); done) | ((repeat (first | exact Upd.here _ | apply Upd.there)); done) | fail) (fun A3 c3 hA3 hA31 hA32 hA33 => ?_); subst hA3
      refine gk_share (φ := sl A3 1 (IE .i64) (exp L)) (by repeat (first | with_reducible exact Sel.here | with_reducible apply Sel.there)) ?_
      (repeat (refine gG ?_; try intro _))
      refine g_dec true rfl rfl (tB_true ⟨rfl, rfl, trivial⟩) ?_
      (repeat (refine gG ?_; try intro _))
      refine g_dec true rfl rfl (tB_true rfl) ?_
      (repeat (refine gG ?_; try intro _))
      refine g_mv rfl ?_; refine mv_call_bel (fun w hk => by have hc := xright_any A k c L w hn (by omega) (hk.rR (φ := sl A 2 RE L) mE); rw [tB_true hr] at hc; exact hc) rfl rfl rfl rfl rfl (by kernel_rfl) ?_
      (repeat (refine gG ?_; try intro _))
      refine g_dec true rfl rfl (tB_true rfl) ?_
      (repeat (refine gG ?_; try intro _))
      refine g_mv rfl ?_; refine mv_call_bel (fun w hk => xtext_any A k c L w hn (by omega) (hk.rR (φ := sl A 2 RE L) mE)) rfl rfl rfl rfl rfl (by kernel_rfl) ?_
      rw [htx]
      (repeat (refine gG ?_; try intro _))
      refine g_dec true rfl rfl (tB_true rfl) ?_
      (repeat (refine gG ?_; try intro _))
      refine g_mv rfl ?_; refine mv_call_rt (fun w hk => xblocks_any A k c L w hn (by omega) (hk.rR (φ := sl A 2 RE L) mE)) rfl rfl rfl rfl rfl (by kernel_rfl) (fun _ => rfl) (fun v7 _ => ?_)
      rw [hbl]
      refine g_freeze _ (by intro _; first | ((repeat (first | with_reducible exact Upd.here _ | with_reducible apply Upd.there)); done) | ((repeat (first | exact Upd.here _ | apply Upd.there)); done) | fail) (fun A7 c7 hA7 hA71 hA72 hA73 => ?_); subst hA7
      refine g_share (φ := sl A7 1 (IE .i64) (exp L)) (by repeat (first | with_reducible exact Sel.here | with_reducible apply Sel.there)) ?_
      (repeat (refine gG ?_; try intro _))
      refine g_mv rfl ?_; refine mv_call_bel (fun w hk => by have hc := equal_I A7 A3 (exp L).length c7 (exp L).length c3 (exp L) (exp L) w rfl rfl (by unfold maxLen at hA72; omega) (hk.pR (sl A7 1 (IE .i64) (exp L)) mE) (hk.pR (sl A3 1 (IE .i64) (exp L)) mE); rw [tB_true rfl] at hc; exact hc) rfl rfl rfl rfl rfl (by kernel_rfl) ?_
      (repeat (refine gG ?_; try intro _))
      refine g_mv rfl ?_; refine mv_call_bel (fun w hk => alive_any w) rfl rfl rfl rfl rfl (by kernel_rfl) ?_
      (repeat (refine gG ?_; try intro _))
      refine gk_ret hT rfl rfl (.tmp rfl .nil) (fun w' hk => ?_)
      exact ⟨rfl, hk.toBelow⟩
  · have htx : txtP L = [] := by unfold txtP; rw [tB_false hr, if_neg (by simp)]
    have hbl : blocksP L = [] := by unfold blocksP; rw [tB_false hr, if_neg (by simp)]
    refine g_mv rfl ?_; refine mv_call_bel (fun w hk => by have hc := lright_any A k c L w hn (by omega) (hk.rR (φ := sl A 2 RE L) mE); rw [tB_false hr] at hc; exact hc) rfl rfl rfl rfl rfl (by kernel_rfl) ?_
    refine g_nilsl none 1 (IE .i64) ?_
    refine g_share (φ := sl none 1 (IE .i64) ([] : List Int)) (by repeat (first | with_reducible exact Sel.here | with_reducible apply Sel.there)) ?_
    (repeat (refine gG ?_; try intro _))
    refine g_dec true rfl rfl (tB_true ⟨rfl, rfl, trivial⟩) ?_
    (repeat (refine gG ?_; try intro _))
    refine g_dec true rfl rfl (tB_true rfl) ?_
    (repeat (refine gG ?_; try intro _))
    refine g_mv rfl ?_; refine mv_call_bel (fun w hk => by have hc := xright_any A k c L w hn (by omega) (hk.rR (φ := sl A 2 RE L) mE); rw [tB_false hr] at hc; exact hc) rfl rfl rfl rfl rfl (by kernel_rfl) ?_
    (repeat (refine gG ?_; try intro _))
    refine g_dec true rfl rfl (tB_true rfl) ?_
    (repeat (refine gG ?_; try intro _))
    refine g_mv rfl ?_; refine mv_call_bel (fun w hk => xtext_any A k c L w hn (by omega) (hk.rR (φ := sl A 2 RE L) mE)) rfl rfl rfl rfl rfl (by kernel_rfl) ?_
    rw [htx]
    (repeat (refine gG ?_; try intro _))
    refine g_dec true rfl rfl (tB_true rfl) ?_
    (repeat (refine gG ?_; try intro _))
    refine g_mv rfl ?_; refine mv_call_rt (fun w hk => xblocks_any A k c L w hn (by omega) (hk.rR (φ := sl A 2 RE L) mE)) rfl rfl rfl rfl rfl (by kernel_rfl) (fun _ => rfl) (fun v7 _ => ?_)
    rw [hbl]
    refine g_freeze _ (by intro _; first | ((repeat (first | with_reducible exact Upd.here _ | with_reducible apply Upd.there)); done) | ((repeat (first | exact Upd.here _ | apply Upd.there)); done) | fail) (fun A7 c7 hA7 hA71 hA72 hA73 => ?_); subst hA7
    refine g_share (φ := sl A7 1 (IE .i64) ([] : List Int)) (by repeat (first | with_reducible exact Sel.here | with_reducible apply Sel.there)) ?_
    (repeat (refine gG ?_; try intro _))
    refine g_mv rfl ?_; refine mv_call_bel (fun w hk => by have hc := equal_I A7 none ([] : List Int).length c7 ([] : List Int).length 0 ([] : List Int) ([] : List Int) w rfl rfl (by unfold maxLen at hA72; omega) (hk.pR (sl A7 1 (IE .i64) ([] : List Int)) mE) (hk.pR (sl none 1 (IE .i64) ([] : List Int)) mE); rw [tB_true rfl] at hc; exact hc) rfl rfl rfl rfl rfl (by kernel_rfl) ?_
    (repeat (refine gG ?_; try intro _))
    refine g_mv rfl ?_; refine mv_call_bel (fun w hk => alive_any w) rfl rfl rfl rfl rfl (by kernel_rfl) ?_
    (repeat (refine gG ?_; try intro _))
    refine gk_ret hT rfl rfl (.tmp rfl .nil) (fun w' hk => ?_)
    exact ⟨rfl, hk.toBelow⟩
end Go.Proofs.Ytmehbhabheokbaa.Ex

