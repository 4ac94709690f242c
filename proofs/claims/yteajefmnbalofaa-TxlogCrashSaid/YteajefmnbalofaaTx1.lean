/- A ring of records: where they lie; a log's fields. -/
import Derived.Test.YteajefmnbalofaaDk5
namespace Go.Proofs.Yteajefmnbalofaa.Tx
open Go.RowKit Mem Gx Dk
set_option linter.unusedVariables false
set_option linter.unusedSimpArgs false
set_option maxRecDepth 100000
set_option maxHeartbeats 1000000
theorem ringRight_any (n z : Int) (hn : 0 ≤ n) (hn9 : n ≤ 1000000) (w : World) : Calls Try.prog 30 [.int .i64 n, .int .i64 z].toArray w fun e w' => e = .returned (.bool (tB (1 ≤ z ∧ 2 < n ∧ n ≤ 4096 ∧ z < n - 2))) ∧ Below w.heap.size w w' := by
  refine g_enter0 T [] [] [] Try.func30 rfl Try.ntmps30 rfl (Kn.start _) ?_
  (repeat' (first | (refine gG ?_; try intro _) | ((first | refine g_split rfl rfl tE (fun _ => ?_) (fun _ => ?_) | refine gk_cond rfl rfl tE (fun _ => ?_) (fun _ => ?_)) <;> (try first | (exfalso; omega; done) | (rename_i hx; exact absurd rfl hx) | (rename_i hx; cases hx; done)))))
  all_goals (refine gk_ret hT rfl rfl (.tmp rfl .nil) (fun w' hk => ?_); refine ⟨?_, hk.toBelow⟩; exact congrArg (fun q => Ending.returned (.bool q)) (by first | exact (tB_false (by omega)).symm | exact (tB_true (by omega)).symm | exact tB_congr ⟨fun h => by omega, fun h => by omega⟩))
theorem ringAt_any (l z : Nat) (hz : 1 ≤ z) (hz9 : z ≤ 4096) (hl : l ≤ 18446744073709551615) (w : World) : Calls Try.prog 34 [.int .u64 (l : Nat), .int .i64 (z : Nat)].toArray w fun e w' => e = .returned (.int .i64 ((2 + l % z : Nat) : Int)) ∧ Below w.heap.size w w' := by
  have h1 : l % z < z := Nat.mod_lt _ (by omega)
  refine g_enter0 T [] [] [] Try.func34 rfl Try.ntmps34 rfl (Kn.start _) ?_
  (repeat' (first | (refine gG ?_; try intro _) | ((first | refine g_split rfl rfl tE (fun _ => ?_) (fun _ => ?_) | refine gk_cond rfl rfl tE (fun _ => ?_) (fun _ => ?_)) <;> (try first | (exfalso; omega; done) | (rename_i hx; exact absurd rfl hx) | (rename_i hx; cases hx; done)))))
  refine gk_ret hT rfl rfl (.tmp rfl .nil) (fun w' hk => ?_)
  exact ⟨congrArg (fun q => Ending.returned (.int .i64 q)) (by first | rfl | simp), hk.toBelow⟩
theorem ringRoom_any (f n z : Nat) (hf : f ≤ n) (hz9 : z ≤ 4096) (hl : n ≤ 18446744073709551615) (w : World) : Calls Try.prog 37 [.int .u64 (f : Nat), .int .u64 (n : Nat), .int .i64 (z : Nat)].toArray w fun e w' => e = .returned (.int .i64 ((z - (n - f) : Nat) : Int)) ∧ Below w.heap.size w w' := by
  refine g_enter0 T [] [] [] Try.func37 rfl Try.ntmps37 rfl (Kn.start _) ?_
  (repeat' (first | (refine gG ?_; try intro _) | ((first | refine g_split rfl rfl tE (fun _ => ?_) (fun _ => ?_) | refine gk_cond rfl rfl tE (fun _ => ?_) (fun _ => ?_)) <;> (try first | (exfalso; omega; done) | (rename_i hx; exact absurd rfl hx) | (rename_i hx; cases hx; done)))))
  all_goals (refine gk_ret hT rfl rfl (.tmp rfl .nil) (fun w' hk => ?_); exact ⟨congrArg (fun q => Ending.returned (.int .i64 q)) (by omega), hk.toBelow⟩)
theorem dlen_any (g : Nat) (sv lv : Value) (S : List SecD) (W : List WrD) (w : World) (h : Rd1 w (dkF g ⟨sv, lv, S, W⟩)) :
    Calls Try.prog 31 [.pointer (some ⟨g, 0, none⟩)].toArray w fun e w' => e = .returned (.int .i64 (S.length : Nat)) ∧ Below w.heap.size w w' := by
  obtain ⟨uA, uc, rfl, _, _, _, _⟩ := own_rdv (α := SecD) (Rd1.unpack h (φ := own 0 36 1 sv SE S) (.tail _ (.head _)))
  refine g_enter0 T [] [] [blk g [.slice uA S.length uc, lv, .bool false, .int .i64 0] 75] Try.func31 rfl Try.ntmps31 rfl (Rds.cons (Rd1.unpack h (.head _)) .nil).kn ?_
  refine gk_rowR (g := g) mE ?_
  (repeat (refine gG ?_; try intro _))
  refine gk_ret hT rfl rfl (.tmp rfl .nil) (fun w' hk => ?_)
  exact ⟨rfl, hk.toBelow⟩
theorem txlen_any (t g z gn fs nx : Nat) (hf : fs ≤ nx) (hn : nx ≤ 18446744073709551615) (h6 : nx - fs ≤ 10000) (w : World) (h : Rd1 w (blk t [.pointer (some ⟨g, 0, none⟩), .int .i64 (z : Nat), .int .u64 (gn : Nat), .int .u64 (fs : Nat), .int .u64 (nx : Nat)] 78)) : Calls Try.prog 13 [.pointer (some ⟨t, 0, none⟩)].toArray w fun e w' => e = .returned (.int .i64 ((nx - fs : Nat) : Int)) ∧ Below w.heap.size w w' := by
  refine g_enter0 T [] [] [blk t [.pointer (some ⟨g, 0, none⟩), .int .i64 (z : Nat), .int .u64 (gn : Nat), .int .u64 (fs : Nat), .int .u64 (nx : Nat)] 78] Try.func13 rfl Try.ntmps13 rfl (Rds.cons h .nil).kn ?_
  refine gk_rowR (g := t) mE ?_
  (repeat (refine gG ?_; try intro _))
  refine gk_any [0] (Cut _ (fun _ : Unit => [(2, .int .i64 ((nx - fs : Nat) : Int))]) (fun _ => []) (fun _ => [])) rfl rfl (by kernel_rfl) ?_ (cut_k fun _ => ?_)
  · skip
    refine gb_take 0 rfl (by decide +kernel) rfl rfl (ys_ev (nw := true) hT rfl sI) sF ?_
    refine gb_take 1 rfl (by decide +kernel) rfl rfl (ys_ev (nw := true) hT rfl sI) sF ?_
    refine gb_take 2 rfl (by decide +kernel) rfl rfl (ys_ev (nw := true) hT rfl sI) sF ?_
    refine gb_take 3 rfl (by decide +kernel) rfl rfl (by first | exact ys_blk hT rfl rfl mE rfl rfl | exact ys_row hT rfl rfl mE rfl rfl | exact ys_row0 hT rfl rfl mE rfl rfl) sF ?_
    refine gb_take 4 rfl (by decide +kernel) rfl rfl (ys_ev (nw := true) hT rfl sI) sF ?_
    refine gb_take 5 rfl (by decide +kernel) rfl rfl (ys_ev (nw := true) hT rfl sI) sF ?_
    refine gb_take 6 rfl (by decide +kernel) rfl rfl (ys_ev (nw := true) hT rfl sI) sF ?_
    refine gb_take 7 rfl (by decide +kernel) rfl rfl (by first | exact ys_blk hT rfl rfl mE rfl rfl | exact ys_row hT rfl rfl mE rfl rfl | exact ys_row0 hT rfl rfl mE rfl rfl) sF ?_
    refine gb_take 8 rfl (by decide +kernel) rfl rfl (ys_ev (nw := true) hT rfl sI) sF ?_
    try (refine gb_say 11 (.int .u64 ((nx - fs : Nat) : Int)) rfl (by congr 1; omega) ?_)
    refine gb_take 9 rfl (by decide +kernel) rfl rfl (ys_ev (nw := true) hT rfl sI) sF ?_
    refine gb_take 10 rfl (by decide +kernel) rfl rfl (ys_ev (nw := true) hT rfl sI) sF ?_
    refine gb_nil (by decide +kernel) ?_
    exact ⟨(), (by repeat (first | exact trivial | refine ⟨rfl, ?_⟩)), sA, sS⟩
  · refine gk_ret hT rfl rfl (.tmp rfl .nil) (fun w' hk => ?_)
    exact ⟨rfl, hk.toBelow⟩
theorem txroom_any (t g z gn fs nx : Nat) (hf : fs ≤ nx) (hz9 : z ≤ 4096) (hn : nx ≤ 18446744073709551615) (w : World) (h : Rd1 w (blk t [.pointer (some ⟨g, 0, none⟩), .int .i64 (z : Nat), .int .u64 (gn : Nat), .int .u64 (fs : Nat), .int .u64 (nx : Nat)] 78)) : Calls Try.prog 14 [.pointer (some ⟨t, 0, none⟩)].toArray w fun e w' => e = .returned (.int .i64 ((z - (nx - fs) : Nat) : Int)) ∧ Below w.heap.size w w' := by
  refine g_enter0 T [] [] [blk t [.pointer (some ⟨g, 0, none⟩), .int .i64 (z : Nat), .int .u64 (gn : Nat), .int .u64 (fs : Nat), .int .u64 (nx : Nat)] 78] Try.func14 rfl Try.ntmps14 rfl (Rds.cons h .nil).kn ?_
  refine gk_rowR (g := t) mE ?_
  (repeat (refine gG ?_; try intro _))
  refine gk_any [0] (Cut _ (fun _ : Unit => [(2, .int .i64 ((z - (nx - fs) : Nat) : Int))]) (fun _ => []) (fun _ => [])) rfl rfl (by kernel_rfl) ?_ (cut_k fun _ => ?_)
  · skip
    refine gb_take 0 rfl (by decide +kernel) rfl rfl (ys_ev (nw := true) hT rfl sI) sF ?_
    refine gb_take 1 rfl (by decide +kernel) rfl rfl (ys_ev (nw := true) hT rfl sI) sF ?_
    refine gb_take 2 rfl (by decide +kernel) rfl rfl (ys_ev (nw := true) hT rfl sI) sF ?_
    refine gb_take 3 rfl (by decide +kernel) rfl rfl (by first | exact ys_blk hT rfl rfl mE rfl rfl | exact ys_row hT rfl rfl mE rfl rfl | exact ys_row0 hT rfl rfl mE rfl rfl) sF ?_
    refine gb_take 4 rfl (by decide +kernel) rfl rfl (ys_ev (nw := true) hT rfl sI) sF ?_
    refine gb_take 5 rfl (by decide +kernel) rfl rfl (ys_ev (nw := true) hT rfl sI) sF ?_
    refine gb_take 6 rfl (by decide +kernel) rfl rfl (ys_ev (nw := true) hT rfl sI) sF ?_
    refine gb_take 7 rfl (by decide +kernel) rfl rfl (by first | exact ys_blk hT rfl rfl mE rfl rfl | exact ys_row hT rfl rfl mE rfl rfl | exact ys_row0 hT rfl rfl mE rfl rfl) sF ?_
    refine gb_take 8 rfl (by decide +kernel) rfl rfl (ys_ev (nw := true) hT rfl sI) sF ?_
    refine gb_take 9 rfl (by decide +kernel) rfl rfl (ys_ev (nw := true) hT rfl sI) sF ?_
    refine gb_take 10 rfl (by decide +kernel) rfl rfl (ys_ev (nw := true) hT rfl sI) sF ?_
    refine gb_take 11 rfl (by decide +kernel) rfl rfl (by first | exact ys_blk hT rfl rfl mE rfl rfl | exact ys_row hT rfl rfl mE rfl rfl | exact ys_row0 hT rfl rfl mE rfl rfl) sF ?_
    refine gb_only 12 (by decide +kernel) rfl rfl ?_
    refine mv_call_bel (fun w hk => ringRoom_any fs nx z hf hz9 hn w) rfl rfl rfl rfl rfl (by kernel_rfl) ?_
    refine ⟨sF, ?_⟩
    refine gb_take 13 rfl (by decide +kernel) rfl rfl (ys_ev (nw := true) hT rfl sI) sF ?_
    refine gb_nil (by decide +kernel) ?_
    exact ⟨(), (by repeat (first | exact trivial | refine ⟨rfl, ?_⟩)), sA, sS⟩
  · refine gk_ret hT rfl rfl (.tmp rfl .nil) (fun w' hk => ?_)
    exact ⟨rfl, hk.toBelow⟩
theorem txnext_any (t g z gn fs nx : Nat) (w : World) (h : Rd1 w (blk t [.pointer (some ⟨g, 0, none⟩), .int .i64 (z : Nat), .int .u64 (gn : Nat), .int .u64 (fs : Nat), .int .u64 (nx : Nat)] 78)) : Calls Try.prog 15 [.pointer (some ⟨t, 0, none⟩)].toArray w fun e w' => e = .returned (.int .u64 (nx : Nat)) ∧ Below w.heap.size w w' := by
  refine g_enter0 T [] [] [blk t [.pointer (some ⟨g, 0, none⟩), .int .i64 (z : Nat), .int .u64 (gn : Nat), .int .u64 (fs : Nat), .int .u64 (nx : Nat)] 78] Try.func15 rfl Try.ntmps15 rfl (Rds.cons h .nil).kn ?_
  refine gk_rowR (g := t) mE ?_
  (repeat (refine gG ?_; try intro _))
  refine gk_ret hT rfl rfl (.tmp rfl .nil) (fun w' hk => ?_)
  exact ⟨rfl, hk.toBelow⟩
theorem txbegin_any (t g z gn fs nx gn2 : Nat) (w : World) (h : Rd1 w (blk t [.pointer (some ⟨g, 0, none⟩), .int .i64 (z : Nat), .int .u64 (gn : Nat), .int .u64 (fs : Nat), .int .u64 (nx : Nat)] 78)) : Calls Try.prog 18 [.pointer (some ⟨t, 0, none⟩), .int .u64 (gn2 : Nat)].toArray w (RetM (blk t [.pointer (some ⟨g, 0, none⟩), .int .i64 (z : Nat), .int .u64 (gn : Nat), .int .u64 (fs : Nat), .int .u64 (nx : Nat)] 78) (fun _ : Unit => True) (fun _ => .tuple #[]) (fun _ => blk t [.pointer (some ⟨g, 0, none⟩), .int .i64 (z : Nat), .int .u64 (gn2 : Nat), .int .u64 (nx : Nat), .int .u64 (nx : Nat)] 78) w) := by
  refine g_enter0 T (finE (blk t [.pointer (some ⟨g, 0, none⟩), .int .i64 (z : Nat), .int .u64 (gn : Nat), .int .u64 (fs : Nat), .int .u64 (nx : Nat)] 78) w) [blk t [.pointer (some ⟨g, 0, none⟩), .int .i64 (z : Nat), .int .u64 (gn : Nat), .int .u64 (fs : Nat), .int .u64 (nx : Nat)] 78] [] Try.func18 rfl Try.ntmps18 rfl (Kn.startM h (fun b hb => (finE_mem h.2 b).2 hb) (fun ψ hψ => by cases hψ)) ?_
  (repeat (refine gG ?_; try intro _))
  refine gk_fin hT rfl rfl .nil (fun w' hk => ?_)
  exact RetM.mk (ψ := fun _ : Unit => blk t [.pointer (some ⟨g, 0, none⟩), .int .i64 (z : Nat), .int .u64 (gn2 : Nat), .int .u64 (nx : Nat), .int .u64 (nx : Nat)] 78) () trivial rfl hk (fun b hb => (finE_mem h.2 b).1 hb) mE
theorem txnew_nil (z : Int) (gn fs : Nat) (w : World) : Calls Try.prog 7 [.pointer none, .int .i64 z, .int .u64 (gn : Nat), .int .u64 (fs : Nat)].toArray w fun e w' => e = .returned (.tuple #[.pointer none, .int .i64 10]) ∧ Below w.heap.size w w' := by
  refine g_enter0 T [] [] [] Try.func7 rfl Try.ntmps7 rfl (Kn.start _) ?_
  (repeat' (first | (refine gG ?_; try intro _) | ((first | refine g_split rfl rfl tE (fun _ => ?_) (fun _ => ?_) | refine gk_cond rfl rfl tE (fun _ => ?_) (fun _ => ?_)) <;> (try first | (exfalso; omega; done) | (rename_i hx; exact absurd rfl hx) | (rename_i hx; cases hx; done)))))
  refine gk_ret hT rfl rfl (.tmp rfl (.tmp rfl .nil)) (fun w' hk => ?_)
  exact ⟨rfl, hk.toBelow⟩
theorem txnew_bad (g : Nat) (sv lv : Value) (S : List SecD) (W : List WrD) (z : Int) (gn fs : Nat) (w : World) (h9 : S.length ≤ 4096) (hz : ¬ (1 ≤ z ∧ 2 < (S.length : Int) ∧ (S.length : Int) ≤ 4096 ∧ z < (S.length : Int) - 2)) (h : Rd1 w (dkF g ⟨sv, lv, S, W⟩)) :
    Calls Try.prog 7 [.pointer (some ⟨g, 0, none⟩), .int .i64 z, .int .u64 (gn : Nat), .int .u64 (fs : Nat)].toArray w fun e w' => e = .returned (.tuple #[.pointer none, .int .i64 10]) ∧ Below w.heap.size w w' := by
  refine g_enter0 T [] [] [dkF g ⟨sv, lv, S, W⟩] Try.func7 rfl Try.ntmps7 rfl (Rds.cons h .nil).kn ?_
  (repeat' (first | (refine gG ?_; try intro _) | (refine g_mv rfl ?_; first | refine mv_call_bel (fun w hk => dlen_any g sv lv S W w (hk.rR (φ := dkF g ⟨sv, lv, S, W⟩) mE)) rfl rfl rfl rfl rfl (by kernel_rfl) ?_) | ((first | refine g_split rfl rfl tE (fun _ => ?_) (fun _ => ?_) | refine gk_cond rfl rfl tE (fun _ => ?_) (fun _ => ?_)) <;> (try first | (exfalso; omega; done) | (rename_i hx; exact absurd rfl hx) | (rename_i hx; cases hx; done)))))
  (repeat' (first | (refine gG ?_; try intro _) | (refine g_mv rfl ?_; first | refine mv_call_bel (fun w hk => by have hc := ringRight_any (S.length : Int) z (by omega) (by omega) w; rw [tB_false hz] at hc; exact hc) rfl rfl rfl rfl rfl (by kernel_rfl) ?_) | ((first | refine g_split rfl rfl tE (fun _ => ?_) (fun _ => ?_) | refine gk_cond rfl rfl tE (fun _ => ?_) (fun _ => ?_)) <;> (try first | (exfalso; omega; done) | (rename_i hx; exact absurd rfl hx) | (rename_i hx; cases hx; done)))))
  refine gk_ret hT rfl rfl (.tmp rfl (.tmp rfl .nil)) (fun w' hk => ?_)
  exact ⟨rfl, hk.toBelow⟩
theorem txnew_any (g : Nat) (sv lv : Value) (S : List SecD) (W : List WrD) (z gn fs : Nat) (w : World) (h9 : S.length ≤ 4096) (hz : 1 ≤ (z : Int) ∧ 2 < (S.length : Int) ∧ (S.length : Int) ≤ 4096 ∧ (z : Int) < (S.length : Int) - 2) (h : Rd1 w (dkF g ⟨sv, lv, S, W⟩)) :
    Calls Try.prog 7 [.pointer (some ⟨g, 0, none⟩), .int .i64 (z : Nat), .int .u64 (gn : Nat), .int .u64 (fs : Nat)].toArray w (Ret (fun _ : Nat => True) (fun t => .tuple #[.pointer (some ⟨t, 0, none⟩), .int .i64 0]) (fun t => [blk t [.pointer (some ⟨g, 0, none⟩), .int .i64 (z : Nat), .int .u64 (gn : Nat), .int .u64 (fs : Nat), .int .u64 (fs : Nat)] 78]) w) := by
  refine g_enter0 T [] [] [dkF g ⟨sv, lv, S, W⟩] Try.func7 rfl Try.ntmps7 rfl (Rds.cons h .nil).kn ?_
  (repeat' (first | (refine gG ?_; try intro _) | (refine g_mv rfl ?_; first | refine mv_call_bel (fun w hk => dlen_any g sv lv S W w (hk.rR (φ := dkF g ⟨sv, lv, S, W⟩) mE)) rfl rfl rfl rfl rfl (by kernel_rfl) ?_) | ((first | refine g_split rfl rfl tE (fun _ => ?_) (fun _ => ?_) | refine gk_cond rfl rfl tE (fun _ => ?_) (fun _ => ?_)) <;> (try first | (exfalso; omega; done) | (rename_i hx; exact absurd rfl hx) | (rename_i hx; cases hx; done)))))
  (repeat' (first | (refine gG ?_; try intro _) | (refine g_mv rfl ?_; first | refine mv_call_bel (fun w hk => by have hc := ringRight_any (S.length : Int) (z : Int) (by omega) (by omega) w; rw [tB_true hz] at hc; exact hc) rfl rfl rfl rfl rfl (by kernel_rfl) ?_) | ((first | refine g_split rfl rfl tE (fun _ => ?_) (fun _ => ?_) | refine gk_cond rfl rfl tE (fun _ => ?_) (fun _ => ?_)) <;> (try first | (exfalso; omega; done) | (rename_i hx; exact absurd rfl hx) | (rename_i hx; cases hx; done)))))
  rename_i t
  refine gk_ret hT rfl rfl (.tmp rfl (.tmp rfl .nil)) (fun w' hk => ?_)
  exact Ret.mk t trivial rfl hk sA
end Go.Proofs.Yteajefmnbalofaa.Tx
