/- Law 36: a block's sector. -/
import Derived.Test.YtokhfkbbhdaghaaGreatSt1
namespace Go.Proofs.YtokhfkbbhdaghaaGreat.St
open Go.RowKit Mem Gx Bytes Dk Al Rf Hp Nd Ch
set_option linter.unusedVariables false
set_option linter.unusedSimpArgs false
set_option maxRecDepth 100000
set_option maxHeartbeats 4000000
theorem dwrite_size (g : Nat) (sv lv : Value) (S : List SecD) (W : List WrD) (a : Nat) (bA : Option Addr) (bn bc : Nat) (w : World) (ha : a < S.length) (h9 : S.length ≤ 4096) (hb : bn ≠ 128) (h : Rd1 w (dkF g ⟨sv, lv, S, W⟩)) :
    Calls Tryz.prog 12 [.pointer (some ⟨g, 0, none⟩), .int .i64 (a : Nat), .slice bA bn bc].toArray w fun e w' => e = .returned (.int .i64 12) ∧ Below w.heap.size w w' := by
  obtain ⟨uA, uc, rfl, _, _, _, _⟩ := own_rdv (α := SecD) (Rd1.unpack h (φ := own 0 23 1 sv SE S) (.tail _ (.head _)))
  refine g_enter0 T [] [] [blk g [.slice uA S.length uc, lv, .bool false, .int .i64 0] 66] Tryz.func12 rfl Tryz.ntmps12 rfl (Rds.cons (Rd1.unpack h (.head _)) .nil).kn ?_
  refine gk_rowR (g := g) mE ?_
  (repeat' (first | (refine gG ?_; try intro _) | ((first | refine g_split rfl rfl tE (fun _ => ?_) (fun _ => ?_) | refine gk_cond rfl rfl tE (fun _ => ?_) (fun _ => ?_)) <;> (try first | (exfalso; omega; done) | (rename_i hx; exact absurd rfl hx) | (rename_i hx; cases hx; done)))))
  all_goals (refine gk_ret hT rfl rfl (.tmp rfl .nil) (fun w' hk => ?_); exact ⟨rfl, hk.toBelow⟩)
theorem pwrite_0 (g : Nat) (bA : Option Addr) (bn bc : Nat) (w : World) : Calls Tryz.prog 5 [.agg #[.pointer (some ⟨g, 0, none⟩), .int .i64 ((4 : Nat) : Int)], .int .u32 0, .slice bA bn bc].toArray w fun e w' => e = .returned (.int .i64 11) ∧ Below w.heap.size w w' := by
  refine g_enter0 T [] [] [] Tryz.func5 rfl Tryz.ntmps5 rfl (Kn.start _) ?_
  (repeat' (first | (refine gG ?_; try intro _) | ((first | refine g_split rfl rfl tE (fun _ => ?_) (fun _ => ?_) | refine gk_cond rfl rfl tE (fun _ => ?_) (fun _ => ?_)) <;> (try first | (exfalso; omega; done) | (rename_i hx; exact absurd rfl hx) | (rename_i hx; cases hx; done)))))
  all_goals (refine gk_ret hT rfl rfl (.tmp rfl .nil) (fun w' hk => ?_); exact ⟨rfl, hk.toBelow⟩)
theorem pread_0 (g : Nat) (w : World) : Calls Tryz.prog 6 [.agg #[.pointer (some ⟨g, 0, none⟩), .int .i64 ((4 : Nat) : Int)], .int .u32 0].toArray w fun e w' => e = .returned (.tuple #[.slice none 0 0, .int .i64 11]) ∧ Below w.heap.size w w' := by
  refine g_enter0 T [] [] [] Tryz.func6 rfl Tryz.ntmps6 rfl (Kn.start _) ?_
  (repeat' (first | (refine gG ?_; try intro _) | ((first | refine g_split rfl rfl tE (fun _ => ?_) (fun _ => ?_) | refine gk_cond rfl rfl tE (fun _ => ?_) (fun _ => ?_)) <;> (try first | (exfalso; omega; done) | (rename_i hx; exact absurd rfl hx) | (rename_i hx; cases hx; done)))))
  all_goals (refine gk_ret hT rfl rfl (.tmp rfl (.tmp rfl .nil)) (fun w' hk => ?_); exact ⟨rfl, hk.toBelow⟩)
theorem pwrite_err (g : Nat) (sv lv : Value) (S : List SecD) (W : List WrD) (a : Nat) (bA : Option Addr) (bn bc : Nat) (er : Int) (w : World) (ha : 1 ≤ a) (ha9 : a ≤ 4294967295)
    (hd : ∀ w, Rd1 w (dkF g ⟨sv, lv, S, W⟩) → Calls Tryz.prog 12 [.pointer (some ⟨g, 0, none⟩), .int .i64 ((a + 4 + 1 : Nat) : Int), .slice bA bn bc].toArray w fun e w' => e = .returned (.int .i64 er) ∧ Below w.heap.size w w') (h : Rd1 w (dkF g ⟨sv, lv, S, W⟩)) :
    Calls Tryz.prog 5 [.agg #[.pointer (some ⟨g, 0, none⟩), .int .i64 ((4 : Nat) : Int)], .int .u32 (a : Nat), .slice bA bn bc].toArray w fun e w' => e = .returned (.int .i64 er) ∧ Below w.heap.size w w' := by
  refine g_enter0 T [] [] [dkF g ⟨sv, lv, S, W⟩] Tryz.func5 rfl Tryz.ntmps5 rfl (Rds.cons h .nil).kn ?_
  (repeat' (first | (refine gG ?_; try intro _) | ((first | refine g_split rfl rfl tE (fun _ => ?_) (fun _ => ?_) | refine gk_cond rfl rfl tE (fun _ => ?_) (fun _ => ?_)) <;> (try first | (exfalso; omega; done) | (rename_i hx; exact absurd rfl hx) | (rename_i hx; cases hx; done)))))
  rename_i g2 _
  refine gk_any [0, 1] (Cut _ (fun _ : Unit => [(6, .int .i64 er)]) (fun _ => []) (fun _ => [])) rfl rfl (by kernel_rfl) ?_ (cut_k fun _ => ?_)
  · skip
    refine gb_take 0 rfl (by decide +kernel) rfl rfl (ys_ev (nw := true) hT rfl sI) sF ?_
    refine gb_take 1 rfl (by decide +kernel) rfl rfl (by first | exact ys_blk hT rfl rfl mE rfl rfl | exact ys_row hT rfl rfl mE rfl rfl | exact ys_row0 hT rfl rfl mE rfl rfl) sF ?_
    refine gb_take 2 rfl (by decide +kernel) rfl rfl (ys_ev (nw := true) hT rfl sI) sF ?_
    refine gb_take 3 rfl (by decide +kernel) rfl rfl (ys_ev (nw := true) hT rfl sI) sF ?_
    refine gb_take 4 rfl (by decide +kernel) rfl rfl (by first | exact ys_blk hT rfl rfl mE rfl rfl | exact ys_row hT rfl rfl mE rfl rfl | exact ys_row0 hT rfl rfl mE rfl rfl) sF ?_
    refine gb_take 6 rfl (by decide +kernel) rfl rfl (ys_ev (nw := true) hT rfl sI) sF ?_
    refine gb_only 5 (by decide +kernel) rfl rfl ?_
    refine mv_call_bel (fun w hk => rblock_any a 4 ha ha9 (by decide) w) rfl rfl rfl rfl rfl (by kernel_rfl) ?_
    refine ⟨sF, ?_⟩
    refine gb_only 7 (by decide +kernel) rfl rfl ?_
    refine mv_call_bel (fun w hk => hd w (hk.rR (φ := dkF g ⟨sv, lv, S, W⟩) mE)) rfl rfl rfl rfl rfl (by kernel_rfl) ?_
    refine ⟨sF, ?_⟩
    refine gb_take 8 rfl (by decide +kernel) rfl rfl (ys_ev (nw := true) hT rfl sI) sF ?_
    refine gb_nil (by decide +kernel) ?_
    exact ⟨(), (by repeat (first | exact trivial | refine ⟨rfl, ?_⟩)), sA, sS⟩
  · (repeat (refine gG ?_; try intro _))
    refine gk_ret hT rfl rfl (.tmp rfl .nil) (fun w' hk => ?_)
    exact ⟨rfl, hk.toBelow⟩
theorem pread_err (g : Nat) (sv lv : Value) (S : List SecD) (W : List WrD) (a : Nat) (w : World) (ha : 1 ≤ a) (ha9 : a ≤ 4294967295) (hf : S.length ≤ a + 4 + 1) (h : Rd1 w (dkF g ⟨sv, lv, S, W⟩)) :
    Calls Tryz.prog 6 [.agg #[.pointer (some ⟨g, 0, none⟩), .int .i64 ((4 : Nat) : Int)], .int .u32 (a : Nat)].toArray w fun e w' => e = .returned (.tuple #[.slice none 0 0, .int .i64 11]) ∧ Below w.heap.size w w' := by
  refine g_enter0 T [] [] [dkF g ⟨sv, lv, S, W⟩] Tryz.func6 rfl Tryz.ntmps6 rfl (Rds.cons h .nil).kn ?_
  (repeat' (first | (refine gG ?_; try intro _) | ((first | refine g_split rfl rfl tE (fun _ => ?_) (fun _ => ?_) | refine gk_cond rfl rfl tE (fun _ => ?_) (fun _ => ?_)) <;> (try first | (exfalso; omega; done) | (rename_i hx; exact absurd rfl hx) | (rename_i hx; cases hx; done)))))
  rename_i g2 _
  refine gk_any [0, 1] (Cut _ (fun _ : Unit => [(4, .slice none 0 0), (5, .int .i64 11)]) (fun _ => []) (fun _ => [])) rfl rfl (by kernel_rfl) ?_ (cut_k fun _ => ?_)
  · skip
    refine gb_take 0 rfl (by decide +kernel) rfl rfl (ys_ev (nw := true) hT rfl sI) sF ?_
    refine gb_take 1 rfl (by decide +kernel) rfl rfl (by first | exact ys_blk hT rfl rfl mE rfl rfl | exact ys_row hT rfl rfl mE rfl rfl | exact ys_row0 hT rfl rfl mE rfl rfl) sF ?_
    refine gb_take 2 rfl (by decide +kernel) rfl rfl (ys_ev (nw := true) hT rfl sI) sF ?_
    refine gb_take 3 rfl (by decide +kernel) rfl rfl (ys_ev (nw := true) hT rfl sI) sF ?_
    refine gb_take 4 rfl (by decide +kernel) rfl rfl (by first | exact ys_blk hT rfl rfl mE rfl rfl | exact ys_row hT rfl rfl mE rfl rfl | exact ys_row0 hT rfl rfl mE rfl rfl) sF ?_
    refine gb_only 5 (by decide +kernel) rfl rfl ?_
    refine mv_call_bel (fun w hk => rblock_any a 4 ha ha9 (by decide) w) rfl rfl rfl rfl rfl (by kernel_rfl) ?_
    refine ⟨sF, ?_⟩
    refine gb_only 6 (by decide +kernel) rfl rfl ?_
    refine mv_call_bel (fun w hk => dread_bad g sv lv S W ((a + 4 + 1 : Nat) : Int) w (.inr (by omega)) (hk.rR (φ := dkF g ⟨sv, lv, S, W⟩) mE)) rfl rfl rfl rfl rfl (by kernel_rfl) ?_
    refine ⟨sF, ?_⟩
    refine gb_take 7 rfl (by decide +kernel) rfl rfl (ys_ev (nw := true) hT rfl sI) sF ?_
    refine gb_take 8 rfl (by decide +kernel) rfl rfl (ys_ev (nw := true) hT rfl sI) sF ?_
    refine gb_take 9 rfl (by decide +kernel) rfl rfl (ys_ev (nw := true) hT rfl sI) sF ?_
    refine gb_take 10 rfl (by decide +kernel) rfl rfl (ys_ev (nw := true) hT rfl sI) sF ?_
    refine gb_nil (by decide +kernel) ?_
    exact ⟨(), (by repeat (first | exact trivial | refine ⟨rfl, ?_⟩)), sA, sS⟩
  · (repeat (refine gG ?_; try intro _))
    refine gk_ret hT rfl rfl (.tmp rfl (.tmp rfl .nil)) (fun w' hk => ?_)
    exact ⟨rfl, hk.toBelow⟩
theorem blocks_law (a : Nat) (bA : Option Addr) (bn bc : Nat) (B : List Int) (w : World) (ha9 : a ≤ 4294967295) (hbn : (SlV.mk bA bn bc).Ok B.length) (hB : IsB B) (hb : Rd1 w ((sl bA 1 (IE .u8) B))) :
    Calls Tryz.prog 3 [.int .u32 (a : Nat), .slice bA bn bc].toArray w fun e w' => e = .returned (.bool true) ∧ Below w.heap.size w w' := by
  obtain ⟨hb1, hb2, hb3, hb4⟩ := hbn
  dsimp only at hb1 hb2 hb3 hb4
  subst hb1
  refine g_enter0 T [] [] [(sl bA 1 (IE .u8) B)] Tryz.func3 rfl Tryz.ntmps3 rfl (Rds.cons hb .nil).kn ?_
  (repeat (refine gG ?_; try intro _))
  refine g_mv rfl ?_; refine mv_call_rt (fun w hk => made_any 9 w (by decide)) rfl rfl rfl rfl rfl (by kernel_rfl) (fun _ => rfl) (fun q hq => ?_)
  obtain ⟨g, sv, S, pa, D⟩ := q
  obtain ⟨hD, hSl, hA, hSm⟩ := hq
  dsimp only at hD hSl hA hSm ⊢
  by_cases h200 : 200 < B.length
  · (repeat' (first | (refine gG ?_; try intro _) | ((first | refine g_split rfl rfl tE (fun _ => ?_) (fun _ => ?_) | refine gk_cond rfl rfl tE (fun _ => ?_) (fun _ => ?_)) <;> (try first | (exfalso; omega; done) | (rename_i hx; exact absurd rfl hx) | (rename_i hx; cases hx; done)))))
    all_goals (refine gk_ret hT rfl rfl (.tmp rfl .nil) (fun w' hk => ?_); exact ⟨rfl, hk.toBelow⟩)
  (repeat' (first | (refine gG ?_; try intro _) | ((first | refine g_split rfl rfl tE (fun _ => ?_) (fun _ => ?_) | refine gk_cond rfl rfl tE (fun _ => ?_) (fun _ => ?_)) <;> (try first | (exfalso; omega; done) | (rename_i hx; exact absurd rfl hx) | (rename_i hx; cases hx; done)))))
  by_cases h0 : a = 0
  · subst h0
    (repeat' (first | (refine gG ?_; try intro _) | (refine g_mv rfl ?_; first | refine mv_call_bel (fun w hk => pwrite_0 g bA B.length bc w) rfl rfl rfl rfl rfl (by kernel_rfl) ?_ | refine mv_call_bel (fun w hk => pread_0 g w) rfl rfl rfl rfl rfl (by kernel_rfl) ?_ | refine mv_call_bel (fun w hk => alive36 w) rfl rfl rfl rfl rfl (by kernel_rfl) ?_) | ((first | refine g_split rfl rfl tE (fun _ => ?_) (fun _ => ?_) | refine gk_cond rfl rfl tE (fun _ => ?_) (fun _ => ?_)) <;> (try first | (exfalso; omega; done) | (rename_i hx; exact absurd rfl hx) | (rename_i hx; cases hx; done)))))
    all_goals (refine gk_ret hT rfl rfl (.tmp rfl .nil) (fun w' hk => ?_); exact ⟨rfl, hk.toBelow⟩)
  by_cases h94 : 94 < a
  · (repeat' (first | (refine gG ?_; try intro _) | (refine g_mv rfl ?_; first | refine mv_call_bel (fun w hk => pwrite_err g sv (.slice none 0 0) S [] a bA B.length bc 11 w (by omega) ha9 (fun w h => dwrite_bad g sv (.slice none 0 0) S [] ((a + 4 + 1 : Nat) : Int) bA B.length bc w (.inr (by omega)) h) (hk.rO (φ := dkF g ⟨sv, .slice none 0 0, S, []⟩) mE)) rfl rfl rfl rfl rfl (by kernel_rfl) ?_ | refine mv_call_bel (fun w hk => pread_err g sv (.slice none 0 0) S [] a w (by omega) ha9 (by omega) (hk.rO (φ := dkF g ⟨sv, .slice none 0 0, S, []⟩) mE)) rfl rfl rfl rfl rfl (by kernel_rfl) ?_ | refine mv_call_bel (fun w hk => alive36 w) rfl rfl rfl rfl rfl (by kernel_rfl) ?_) | ((first | refine g_split rfl rfl tE (fun _ => ?_) (fun _ => ?_) | refine gk_cond rfl rfl tE (fun _ => ?_) (fun _ => ?_)) <;> (try first | (exfalso; omega; done) | (rename_i hx; exact absurd rfl hx) | (rename_i hx; cases hx; done)))))
    all_goals (refine gk_ret hT rfl rfl (.tmp rfl .nil) (fun w' hk => ?_); exact ⟨rfl, hk.toBelow⟩)
  by_cases h128 : B.length ≠ 128
  · have hz : dread (S.map SecD.L) (([] : List WrD).map WrD.c) (a + 4 + 1) = zsec := by
      rw [hSm]
      show ((List.replicate 100 zsec)[a + 4 + 1]?).getD [] = _
      rw [List.getElem?_replicate_of_lt (by omega)]
      rfl
    have hpr := fun w h => pread_any g 4 sv (.slice none 0 0) S [] a w hD (Nat.zero_le _) (by omega) ha9 (by decide) (by omega) h
    rw [hz] at hpr
    (repeat' (first | (refine gG ?_; try intro _) | (refine g_mv rfl ?_; first | refine mv_call_bel (fun w hk => pwrite_err g sv (.slice none 0 0) S [] a bA B.length bc 12 w (by omega) ha9 (fun w h => dwrite_size g sv (.slice none 0 0) S [] (a + 4 + 1) bA B.length bc w (by omega) (by omega) h128 h) (hk.rO (φ := dkF g ⟨sv, .slice none 0 0, S, []⟩) mE)) rfl rfl rfl rfl rfl (by kernel_rfl) ?_) | ((first | refine g_split rfl rfl tE (fun _ => ?_) (fun _ => ?_) | refine gk_cond rfl rfl tE (fun _ => ?_) (fun _ => ?_)) <;> (try first | (exfalso; omega; done) | (rename_i hx; exact absurd rfl hx) | (rename_i hx; cases hx; done)))))
    refine g_mv rfl ?_; refine mv_call_rt (fun w hk => hpr w (hk.rO (φ := dkF g ⟨sv, .slice none 0 0, S, []⟩) mE)) rfl rfl rfl rfl rfl (by kernel_rfl) (fun _ => rfl) (fun u hu => ?_)
    (repeat' (first | (refine gG ?_; try intro _) | ((first | refine g_split rfl rfl tE (fun _ => ?_) (fun _ => ?_) | refine gk_cond rfl rfl tE (fun _ => ?_) (fun _ => ?_)) <;> (try first | (exfalso; omega; done) | (rename_i hx; exact absurd rfl hx) | (rename_i hx; cases hx; done)))))
    refine g_mv rfl (mv_make rfl hT 128 1 rfl rfl rfl rfl rfl rfl rfl (by kernel_rfl) (by omega) (by omega) rfl rfl (fun g6 => ?_))
    (repeat' (first | (refine gG ?_; try intro _) | (refine g_mv rfl ?_; first | refine mv_call_bel (fun w hk => calls_b (tB_true rfl) (bequal_any u.A (some ⟨g6, 0, none⟩) u.n u.c 128 128 zsec zsec w hu.n (by simp) (hk.pO (sl u.A 1 (IE .u8) zsec) mE) (sl_of_blk (hk.pO (blk g6 (rep 128 [.int .u8 0]) 5) mE) zrep) zsec_ok.2 zsec_ok.2)) rfl rfl rfl rfl rfl (by kernel_rfl) ?_ | refine mv_call_bel (fun w hk => alive36 w) rfl rfl rfl rfl rfl (by kernel_rfl) ?_) | ((first | refine g_split rfl rfl tE (fun _ => ?_) (fun _ => ?_) | refine gk_cond rfl rfl tE (fun _ => ?_) (fun _ => ?_)) <;> (try first | (exfalso; omega; done) | (rename_i hx; exact absurd rfl hx) | (rename_i hx; cases hx; done)))))
    all_goals (refine gk_ret hT rfl rfl (.tmp rfl .nil) (fun w' hk => ?_); exact ⟨rfl, hk.toBelow⟩)
  · have h128 : B.length = 128 := Decidable.not_not.1 h128
    have hBo : SecOk B := ⟨h128, hB⟩
    refine g_mv rfl (mv_call_mod (φ := dkF g ⟨sv, .slice none 0 0, S, []⟩) (ψ := fun q : Value × SecD => dkF g ⟨sv, q.1, S, [] ++ [(⟨a + 4 + 1, q.2⟩ : WrD)]⟩) (fun w1 hk => by exact pwrite_any g 4 sv (.slice none 0 0) S [] a bA B.length bc B w1 hD (Nat.zero_le _) (by omega) ha9 (by decide) (by omega) rfl hBo (hk.rO (φ := dkF g ⟨sv, .slice none 0 0, S, []⟩) mE) (hk.rR (φ := (sl bA 1 (IE .u8) B)) mE) (fun b hb => hk.disR (dkF g ⟨sv, .slice none 0 0, S, []⟩) mE (sl bA 1 (IE .u8) B) mE b hb)) rfl rfl rfl rfl rfl (by kernel_rfl) (by intro _; first | ((repeat (first | with_reducible exact Upd.here _ | with_reducible apply Upd.there)); done) | ((repeat (first | exact Upd.here _ | apply Upd.there)); done) | fail) (fun q hq => ?_))
    obtain ⟨qv, qd⟩ := q
    obtain ⟨q1, q2⟩ := hq
    dsimp only at q1 q2 ⊢
    have hD1 : DkOk S ([] ++ [(⟨a + 4 + 1, qd⟩ : WrD)]) := ⟨hD.s, fun x hx => by
      obtain rfl := List.mem_singleton.1 hx
      exact ⟨q1, by dsimp only; omega⟩, hD.n⟩
    have hz : dread (S.map SecD.L) ((([] : List WrD) ++ [(⟨a + 4 + 1, qd⟩ : WrD)]).map WrD.c) (a + 4 + 1) = B := by
      rw [List.map_append]
      refine (dread_snoc _ _ _ _).trans ?_
      rw [if_pos rfl]
      exact q2
    have hpr := fun w h => pread_any g 4 sv qv S ([] ++ [(⟨a + 4 + 1, qd⟩ : WrD)]) a w hD1 (by simp) (by omega) ha9 (by decide) (by omega) h
    have hdr := fun w h => dread_any g sv qv S ([] ++ [(⟨a + 4 + 1, qd⟩ : WrD)]) (a + 4 + 1) w hD1 (by simp) (by omega) h
    rw [hz] at hpr hdr
    (repeat (refine gG ?_; try intro _))
    refine g_mv rfl ?_; refine mv_call_rt (fun w hk => hpr w (hk.rO (φ := dkF g ⟨sv, qv, S, [] ++ [(⟨a + 4 + 1, qd⟩ : WrD)]⟩) mE)) rfl rfl rfl rfl rfl (by kernel_rfl) (fun _ => rfl) (fun u hu => ?_)
    (repeat' (first | (refine gG ?_; try intro _) | ((first | refine g_split rfl rfl tE (fun _ => ?_) (fun _ => ?_) | refine gk_cond rfl rfl tE (fun _ => ?_) (fun _ => ?_)) <;> (try first | (exfalso; omega; done) | (rename_i hx; exact absurd rfl hx) | (rename_i hx; cases hx; done)))))
    refine g_say 78 (.int .i64 ((a + 4 + 1 : Nat) : Int)) rfl (by congr 1; omega) ?_
    refine g_mv rfl ?_; refine mv_call_rt (fun w hk => hdr w (hk.rO (φ := dkF g ⟨sv, qv, S, [] ++ [(⟨a + 4 + 1, qd⟩ : WrD)]⟩) mE)) rfl rfl rfl rfl rfl (by kernel_rfl) (fun _ => rfl) (fun u2 hu2 => ?_)
    (repeat' (first | (refine gG ?_; try intro _) | (refine g_mv rfl ?_; first | refine mv_call_bel (fun w hk => calls_b (tB_true rfl) (bequal_any u.A bA u.n u.c B.length bc B B w hu.n rfl (hk.pO (sl u.A 1 (IE .u8) B) mE) (hk.pR ((sl bA 1 (IE .u8) B)) mE) hB hB)) rfl rfl rfl rfl rfl (by kernel_rfl) ?_ | refine mv_call_bel (fun w hk => calls_b (tB_true rfl) (bequal_any u2.A bA u2.n u2.c B.length bc B B w hu2.n rfl (hk.pO (sl u2.A 1 (IE .u8) B) mE) (hk.pR ((sl bA 1 (IE .u8) B)) mE) hB hB)) rfl rfl rfl rfl rfl (by kernel_rfl) ?_ | refine mv_call_bel (fun w hk => alive36 w) rfl rfl rfl rfl rfl (by kernel_rfl) ?_) | ((first | refine g_split rfl rfl tE (fun _ => ?_) (fun _ => ?_) | refine gk_cond rfl rfl tE (fun _ => ?_) (fun _ => ?_)) <;> (try first | (exfalso; omega; done) | (rename_i hx; exact absurd rfl hx) | (rename_i hx; cases hx; done)))))
    all_goals (refine gk_ret hT rfl rfl (.tmp rfl .nil) (fun w' hk => ?_); exact ⟨rfl, hk.toBelow⟩)
end Go.Proofs.YtokhfkbbhdaghaaGreat.St

