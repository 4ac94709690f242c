/- A log: Append. -/
import Derived.Test.YteajefmnbalofaaTx1
import Derived.Test.YteajefmnbalofaaTxP
import Derived.Test.YteajefmnbalofaaDk8
namespace Go.Proofs.Yteajefmnbalofaa.Tx
open Go.RowKit Mem Gx Dk OpA Rec Bytes
set_option linter.unusedVariables false
set_option linter.unusedSimpArgs false
set_option maxRecDepth 100000
set_option maxHeartbeats 4000000
theorem txapp_no (t g z gn fs nx : Nat) (tm : Int) (o : OpD) (w : World) (ho : o.Ok) (hM9 : o.M.length ≤ 100000) (h : ¬ (1 ≤ o.k ∧ o.k ≤ 14 ∧ rrightB o = true)) (ha : Rd1 w (sl o.a.A 1 (IE .u8) o.D)) (hm : Rd1 w (sl o.m.A 1 (IE .i64) o.M)) (hL : Rd1 w (blk t [.pointer (some ⟨g, 0, none⟩), .int .i64 (z : Nat), .int .u64 (gn : Nat), .int .u64 (fs : Nat), .int .u64 (nx : Nat)] 78)) :
    Calls Try.prog 10 [.pointer (some ⟨t, 0, none⟩), o.val, .int .u64 tm].toArray w fun e w' => e = .returned (.tuple #[.int .u64 0, .int .i64 10]) ∧ Below w.heap.size w w' := by
  have hp := fun w (h1 : Sl w o.a.A 1 (IE .u8) o.D) (h2 : Sl w o.m.A 1 (IE .i64) o.M) => rcput_no (⟨(gn : Int), (nx : Int), tm, o⟩ : RecD) w ⟨ho⟩ ⟨⟨h1, h2⟩⟩ hM9 h
  refine g_enter0 T [] [] [blk t [.pointer (some ⟨g, 0, none⟩), .int .i64 (z : Nat), .int .u64 (gn : Nat), .int .u64 (fs : Nat), .int .u64 (nx : Nat)] 78, sl o.a.A 1 (IE .u8) o.D, sl o.m.A 1 (IE .i64) o.M] Try.func10 rfl Try.ntmps10 rfl (Rds.cons hL (.cons ha (.cons hm .nil))).kn ?_
  refine gk_rowR (g := t) mE ?_
  (repeat (refine gG ?_; try intro _))
  rename_i g4
  refine gk_any [0, 1, 2, 3, 4] (Cut _ (fun _ : Unit => [(9, .int .i64 10)]) (fun _ => []) (fun _ => [])) rfl rfl (by kernel_rfl) ?_ (cut_k fun _ => ?_)
  · skip
    refine gb_take 0 rfl (by decide +kernel) rfl rfl (ys_ev (nw := true) hT rfl sI) sF ?_
    refine gb_take 1 rfl (by decide +kernel) rfl rfl (ys_ev (nw := true) hT rfl sI) sF ?_
    refine gb_take 2 rfl (by decide +kernel) rfl rfl (ys_ev (nw := true) hT rfl sI) sF ?_
    refine gb_take 3 rfl (by decide +kernel) rfl rfl (by first | exact ys_blk hT rfl rfl mE rfl rfl | exact ys_row hT rfl rfl mE rfl rfl | exact ys_row0 hT rfl rfl mE rfl rfl) sF ?_
    refine gb_take 4 rfl (by decide +kernel) rfl rfl (ys_ev (nw := true) hT rfl sI) sF ?_
    refine gb_take 5 rfl (by decide +kernel) rfl rfl (ys_ev (nw := true) hT rfl sI) sF ?_
    refine gb_take 6 rfl (by decide +kernel) rfl rfl (ys_ev (nw := true) hT rfl sI) sF ?_
    refine gb_take 7 rfl (by decide +kernel) rfl rfl (by first | exact ys_blk hT rfl rfl mE rfl rfl | exact ys_row hT rfl rfl mE rfl rfl | exact ys_row0 hT rfl rfl mE rfl rfl) sF ?_
    refine gb_take 8 rfl (by decide +kernel) rfl rfl (ys_ev (nw := true) hT rfl sI) sF ?_
    refine gb_take 9 rfl (by decide +kernel) rfl rfl (by first | exact ys_blk hT rfl rfl mE rfl rfl | exact ys_row hT rfl rfl mE rfl rfl | exact ys_row0 hT rfl rfl mE rfl rfl) sF ?_
    refine gb_take 10 rfl (by decide +kernel) rfl rfl (ys_ev (nw := true) hT rfl sI) sF ?_
    refine gb_only 11 (by decide +kernel) rfl rfl ?_
    refine mv_call_bel (fun w hk => hp w (hk.pR (sl o.a.A 1 (IE .u8) o.D) mE) (hk.pR (sl o.m.A 1 (IE .i64) o.M) mE)) rfl rfl rfl rfl rfl (by kernel_rfl) ?_
    refine ⟨sF, ?_⟩
    refine gb_take 12 rfl (by decide +kernel) rfl rfl (ys_ev (nw := true) hT rfl sI) sF ?_
    refine gb_take 13 rfl (by decide +kernel) rfl rfl (ys_ev (nw := true) hT rfl sI) sF ?_
    refine gb_take 14 rfl (by decide +kernel) rfl rfl (ys_ev (nw := true) hT rfl sI) sF ?_
    refine gb_take 15 rfl (by decide +kernel) rfl rfl (ys_ev (nw := true) hT rfl sI) sF ?_
    refine gb_take 16 rfl (by decide +kernel) rfl rfl (ys_ev (nw := true) hT rfl sI) sF ?_
    refine gb_nil (by decide +kernel) ?_
    exact ⟨(), (by repeat (first | exact trivial | refine ⟨rfl, ?_⟩)), sA, sS⟩
  · (repeat' (first | (refine gG ?_; try intro _) | ((first | refine g_split rfl rfl tE (fun _ => ?_) (fun _ => ?_) | refine gk_cond rfl rfl tE (fun _ => ?_) (fun _ => ?_)) <;> (try first | (exfalso; omega; done) | (rename_i hx; exact absurd rfl hx) | (rename_i hx; cases hx; done)))))
    refine gk_ret hT rfl rfl (.tmp rfl (.tmp rfl .nil)) (fun w' hk => ?_)
    exact ⟨rfl, hk.toBelow⟩
theorem txapp_full (t g z gn fs nx : Nat) (tm : Int) (o : OpD) (B : List Int) (w : World) (ho : o.Ok) (hb : ((⟨(gn : Int), (nx : Int), tm, o⟩ : RecD)).Bd) (hD9 : o.D.length ≤ 100000) (hM9 : o.M.length ≤ 100000) (h : 1 ≤ o.k ∧ o.k ≤ 14 ∧ rrightB o = true) (hB : ∀ p, PlainAt o (looks o.k) p → putL p = B) (hBB : IsB B) (hBl : B.length ≤ 96) (hf : fs ≤ nx) (hz9 : z ≤ 4096) (hn : nx ≤ 18446744073709551615) (hfull : nx - fs = z) (ha : Rd1 w (sl o.a.A 1 (IE .u8) o.D)) (hm : Rd1 w (sl o.m.A 1 (IE .i64) o.M)) (hL : Rd1 w (blk t [.pointer (some ⟨g, 0, none⟩), .int .i64 (z : Nat), .int .u64 (gn : Nat), .int .u64 (fs : Nat), .int .u64 (nx : Nat)] 78)) :
    Calls Try.prog 10 [.pointer (some ⟨t, 0, none⟩), o.val, .int .u64 tm].toArray w fun e w' => e = .returned (.tuple #[.int .u64 0, .int .i64 31]) ∧ Below w.heap.size w w' := by
  have hp := fun w (h1 : Sl w o.a.A 1 (IE .u8) o.D) (h2 : Sl w o.m.A 1 (IE .i64) o.M) => rcput_yes (⟨(gn : Int), (nx : Int), tm, o⟩ : RecD) w ⟨ho⟩ ⟨⟨h1, h2⟩⟩ hb hD9 hM9 h B hB hBB hBl
  have hr := fun w (h : Rd1 w (blk t [.pointer (some ⟨g, 0, none⟩), .int .i64 (z : Nat), .int .u64 (gn : Nat), .int .u64 (fs : Nat), .int .u64 (nx : Nat)] 78)) => txroom_any t g z gn fs nx hf hz9 hn w h
  rw [hfull, Nat.sub_self] at hr
  refine g_enter0 T [] [] [blk t [.pointer (some ⟨g, 0, none⟩), .int .i64 (z : Nat), .int .u64 (gn : Nat), .int .u64 (fs : Nat), .int .u64 (nx : Nat)] 78, sl o.a.A 1 (IE .u8) o.D, sl o.m.A 1 (IE .i64) o.M] Try.func10 rfl Try.ntmps10 rfl (Rds.cons hL (.cons ha (.cons hm .nil))).kn ?_
  refine gk_rowR (g := t) mE ?_
  (repeat (refine gG ?_; try intro _))
  rename_i g4
  refine gk_any [0, 1, 2, 3, 4] (Cut _ (fun _ : Unit => [(0, .pointer (some ⟨t, 0, none⟩)), (9, .int .i64 0)]) (fun _ => []) (fun _ => [blk t [.pointer (some ⟨g, 0, none⟩), .int .i64 (z : Nat), .int .u64 (gn : Nat), .int .u64 (fs : Nat), .int .u64 (nx : Nat)] 78])) rfl rfl (by kernel_rfl) ?_ (cut_k fun _ => ?_)
  · skip
    refine gb_take 0 rfl (by decide +kernel) rfl rfl (ys_ev (nw := true) hT rfl sI) sF ?_
    refine gb_take 1 rfl (by decide +kernel) rfl rfl (ys_ev (nw := true) hT rfl sI) sF ?_
    refine gb_take 2 rfl (by decide +kernel) rfl rfl (ys_ev (nw := true) hT rfl sI) sF ?_
    refine gb_take 3 rfl (by decide +kernel) rfl rfl (by first | exact ys_blk hT rfl rfl mE rfl rfl | exact ys_row hT rfl rfl mE rfl rfl | exact ys_row0 hT rfl rfl mE rfl rfl) sF ?_
    refine gb_take 4 rfl (by decide +kernel) rfl rfl (ys_ev (nw := true) hT rfl sI) sF ?_
    refine gb_take 5 rfl (by decide +kernel) rfl rfl (ys_ev (nw := true) hT rfl sI) sF ?_
    refine gb_take 6 rfl (by decide +kernel) rfl rfl (ys_ev (nw := true) hT rfl sI) sF ?_
    refine gb_take 7 rfl (by decide +kernel) rfl rfl (by first | exact ys_blk hT rfl rfl mE rfl rfl | exact ys_row hT rfl rfl mE rfl rfl | exact ys_row0 hT rfl rfl mE rfl rfl) sF ?_
    refine gb_take 8 rfl (by decide +kernel) rfl rfl (ys_ev (nw := true) hT rfl sI) sF ?_
    refine gb_take 9 rfl (by decide +kernel) rfl rfl (by first | exact ys_blk hT rfl rfl mE rfl rfl | exact ys_row hT rfl rfl mE rfl rfl | exact ys_row0 hT rfl rfl mE rfl rfl) sF ?_
    refine gb_take 10 rfl (by decide +kernel) rfl rfl (ys_ev (nw := true) hT rfl sI) sF ?_
    refine gb_only 11 (by decide +kernel) rfl rfl ?_
    refine mv_call_ret (fun w hk => hp w (hk.pR (sl o.a.A 1 (IE .u8) o.D) mE) (hk.pR (sl o.m.A 1 (IE .i64) o.M) mE)) rfl rfl rfl rfl rfl (by kernel_rfl) (fun v _ => ?_)
    refine ⟨sF, ?_⟩
    refine gb_take 12 rfl (by decide +kernel) rfl rfl (ys_ev (nw := true) hT rfl sI) sF ?_
    refine gb_take 13 rfl (by decide +kernel) rfl rfl (ys_ev (nw := true) hT rfl sI) sF ?_
    refine gb_take 14 rfl (by decide +kernel) rfl rfl (ys_ev (nw := true) hT rfl sI) sF ?_
    refine gb_take 15 rfl (by decide +kernel) rfl rfl (ys_ev (nw := true) hT rfl sI) sF ?_
    refine gb_take 16 rfl (by decide +kernel) rfl rfl (ys_ev (nw := true) hT rfl sI) sF ?_
    refine gb_nil (by decide +kernel) ?_
    exact ⟨(), (by repeat (first | exact trivial | refine ⟨rfl, ?_⟩)), sA, sS⟩
  · (repeat' (first | (refine gG ?_; try intro _) | (refine g_mv rfl ?_; first | refine mv_call_bel (fun w hk => hr w (hk.rR (φ := blk t [.pointer (some ⟨g, 0, none⟩), .int .i64 (z : Nat), .int .u64 (gn : Nat), .int .u64 (fs : Nat), .int .u64 (nx : Nat)] 78) mE)) rfl rfl rfl rfl rfl (by kernel_rfl) ?_) | ((first | refine g_split rfl rfl tE (fun _ => ?_) (fun _ => ?_) | refine gk_cond rfl rfl tE (fun _ => ?_) (fun _ => ?_)) <;> (try first | (exfalso; omega; done) | (rename_i hx; exact absurd rfl hx) | (rename_i hx; cases hx; done)))))
    refine gk_ret hT rfl rfl (.tmp rfl (.tmp rfl .nil)) (fun w' hk => ?_)
    exact ⟨rfl, hk.toBelow⟩
theorem txapp_ok (t g z gn fs nx : Nat) (tm : Int) (o : OpD) (B : List Int) (sv lv : Value) (S : List SecD) (W : List WrD) (w : World) (ho : o.Ok) (hb : ((⟨(gn : Int), (nx : Int), tm, o⟩ : RecD)).Bd) (hD9 : o.D.length ≤ 100000) (hM9 : o.M.length ≤ 100000) (h : 1 ≤ o.k ∧ o.k ≤ 14 ∧ rrightB o = true) (hB : ∀ p, PlainAt o (looks o.k) p → putL p = B) (hBB : IsB B) (hBl : B.length ≤ 96) (hf : fs ≤ nx) (hz : 1 ≤ z) (hz9 : z ≤ 4096) (hn : nx < 18446744073709551615) (hroom : nx - fs < z) (hdk : DkOk S W) (hl : W.length ≤ 100000) (hS : z + 2 ≤ S.length) (ha : Rd1 w (sl o.a.A 1 (IE .u8) o.D)) (hm : Rd1 w (sl o.m.A 1 (IE .i64) o.M)) (hdis : ∀ b, (packF [blk t [.pointer (some ⟨g, 0, none⟩), .int .i64 (z : Nat), .int .u64 (gn : Nat), .int .u64 (fs : Nat), .int .u64 (nx : Nat)] 78, dkF g ⟨sv, lv, S, W⟩]).S b → ¬ (sl o.a.A 1 (IE .u8) o.D).S b ∧ ¬ (sl o.m.A 1 (IE .i64) o.M).S b) (hL : Rd1 w (packF [blk t [.pointer (some ⟨g, 0, none⟩), .int .i64 (z : Nat), .int .u64 (gn : Nat), .int .u64 (fs : Nat), .int .u64 (nx : Nat)] 78, dkF g ⟨sv, lv, S, W⟩])) :
    Calls Try.prog 10 [.pointer (some ⟨t, 0, none⟩), o.val, .int .u64 tm].toArray w (RetM (packF [blk t [.pointer (some ⟨g, 0, none⟩), .int .i64 (z : Nat), .int .u64 (gn : Nat), .int .u64 (fs : Nat), .int .u64 (nx : Nat)] 78, dkF g ⟨sv, lv, S, W⟩]) (fun q : Value × SecD => q.2.Ok ∧ q.2.L = (Page.page 2 (recL (⟨(gn : Int), (nx : Int), tm, o⟩ : RecD) B))) (fun _ => .tuple #[.int .u64 (nx : Nat), .int .i64 0]) (fun q => packF [blk t [.pointer (some ⟨g, 0, none⟩), .int .i64 (z : Nat), .int .u64 (gn : Nat), .int .u64 (fs : Nat), .int .u64 ((nx + 1 : Nat) : Int)] 78, dkF g ⟨sv, q.1, S, W ++ [(⟨2 + nx % z, q.2⟩ : WrD)]⟩]) w) := by
  have hp := fun w (h1 : Sl w o.a.A 1 (IE .u8) o.D) (h2 : Sl w o.m.A 1 (IE .i64) o.M) => rcput_yes (⟨(gn : Int), (nx : Int), tm, o⟩ : RecD) w ⟨ho⟩ ⟨⟨h1, h2⟩⟩ hb hD9 hM9 h B hB hBB hBl
  have hr := fun w (h : Rd1 w (blk t [.pointer (some ⟨g, 0, none⟩), .int .i64 (z : Nat), .int .u64 (gn : Nat), .int .u64 (fs : Nat), .int .u64 (nx : Nat)] 78)) => txroom_any t g z gn fs nx hf hz9 (by omega) w h
  have hmod : nx % z < z := Nat.mod_lt _ (by omega)
  have hPB : IsB (Page.page 2 (recL (⟨(gn : Int), (nx : Int), tm, o⟩ : RecD) B)) := sector_isB _ hBB hBl
  have hPl : ((Page.page 2 (recL (⟨(gn : Int), (nx : Int), tm, o⟩ : RecD) B))).length = 128 := Page.page_length (by rw [recL_len]; omega)
  have hP : SecOk (Page.page 2 (recL (⟨(gn : Int), (nx : Int), tm, o⟩ : RecD) B)) := ⟨hPl, hPB⟩
  generalize hPe : (Page.page 2 (recL (⟨(gn : Int), (nx : Int), tm, o⟩ : RecD) B)) = Q at hp hPB hPl hP ⊢
  refine g_enter0 T (finE (packF [blk t [.pointer (some ⟨g, 0, none⟩), .int .i64 (z : Nat), .int .u64 (gn : Nat), .int .u64 (fs : Nat), .int .u64 (nx : Nat)] 78, dkF g ⟨sv, lv, S, W⟩]) w) [blk t [.pointer (some ⟨g, 0, none⟩), .int .i64 (z : Nat), .int .u64 (gn : Nat), .int .u64 (fs : Nat), .int .u64 (nx : Nat)] 78, dkF g ⟨sv, lv, S, W⟩] [sl o.a.A 1 (IE .u8) o.D, sl o.m.A 1 (IE .i64) o.M] Try.func10 rfl Try.ntmps10 rfl (Kn.startP hL (fun b hb => (finE_mem hL.2 b).2 hb) (fun ψ hψ => by rcases List.mem_cons.1 hψ with rfl | hψ; exact ⟨ha, fun b hb => (hdis b hb).1⟩; obtain rfl := List.mem_singleton.1 hψ; exact ⟨hm, fun b hb => (hdis b hb).2⟩)) ?_
  (repeat (refine gG ?_; try intro _))
  rename_i g4
  refine gk_any [0, 1, 2, 3, 4] (Cut _ (fun u : {u : SlV // u.Ok Q.length} => [(0, .pointer (some ⟨t, 0, none⟩)), (8, u.1.v), (9, .int .i64 0)]) (fun u => [sl u.1.A 1 (IE .u8) Q, blk t [.pointer (some ⟨g, 0, none⟩), .int .i64 (z : Nat), .int .u64 (gn : Nat), .int .u64 (fs : Nat), .int .u64 (nx : Nat)] 78, dkF g ⟨sv, lv, S, W⟩]) (fun _ => [])) rfl rfl (by kernel_rfl) ?_ (cut_k fun u => ?_)
  · skip
    refine gb_take 0 rfl (by decide +kernel) rfl rfl (ys_ev (nw := true) hT rfl sI) sF ?_
    refine gb_take 1 rfl (by decide +kernel) rfl rfl (ys_ev (nw := true) hT rfl sI) sF ?_
    refine gb_take 2 rfl (by decide +kernel) rfl rfl (ys_ev (nw := true) hT rfl sI) sF ?_
    refine gb_take 3 rfl (by decide +kernel) rfl rfl (by first | exact ys_blk hT rfl rfl mE rfl rfl | exact ys_row hT rfl rfl mE rfl rfl | exact ys_row0 hT rfl rfl mE rfl rfl) sF ?_
    refine gb_take 4 rfl (by decide +kernel) rfl rfl (ys_ev (nw := true) hT rfl sI) sF ?_
    refine gb_take 5 rfl (by decide +kernel) rfl rfl (ys_ev (nw := true) hT rfl sI) sF ?_
    refine gb_take 6 rfl (by decide +kernel) rfl rfl (ys_ev (nw := true) hT rfl sI) sF ?_
    refine gb_take 7 rfl (by decide +kernel) rfl rfl (by first | exact ys_blk hT rfl rfl mE rfl rfl | exact ys_row hT rfl rfl mE rfl rfl | exact ys_row0 hT rfl rfl mE rfl rfl) sF ?_
    refine gb_take 8 rfl (by decide +kernel) rfl rfl (ys_ev (nw := true) hT rfl sI) sF ?_
    refine gb_take 9 rfl (by decide +kernel) rfl rfl (by first | exact ys_blk hT rfl rfl mE rfl rfl | exact ys_row hT rfl rfl mE rfl rfl | exact ys_row0 hT rfl rfl mE rfl rfl) sF ?_
    refine gb_take 10 rfl (by decide +kernel) rfl rfl (ys_ev (nw := true) hT rfl sI) sF ?_
    refine gb_only 11 (by decide +kernel) rfl rfl ?_
    refine mv_call_ret (fun w hk => hp w (hk.pR (sl o.a.A 1 (IE .u8) o.D) mE) (hk.pR (sl o.m.A 1 (IE .i64) o.M) mE)) rfl rfl rfl rfl rfl (by kernel_rfl) (fun u hu => ?_)
    refine ⟨sF, ?_⟩
    refine gb_take 12 rfl (by decide +kernel) rfl rfl (ys_ev (nw := true) hT rfl sI) sF ?_
    refine gb_take 13 rfl (by decide +kernel) rfl rfl (ys_ev (nw := true) hT rfl sI) sF ?_
    refine gb_take 14 rfl (by decide +kernel) rfl rfl (ys_ev (nw := true) hT rfl sI) sF ?_
    refine gb_take 15 rfl (by decide +kernel) rfl rfl (ys_ev (nw := true) hT rfl sI) sF ?_
    refine gb_take 16 rfl (by decide +kernel) rfl rfl (ys_ev (nw := true) hT rfl sI) sF ?_
    refine gb_nil (by decide +kernel) ?_
    exact ⟨⟨u, hu⟩, (by repeat (first | exact trivial | refine ⟨rfl, ?_⟩)), sA, sS⟩
  · obtain ⟨⟨uA, un, uc⟩, hu1, hu2, hu3, hu4⟩ := u
    dsimp only [SlV.v] at *
    (repeat' (first | (refine gG ?_; try intro _) | (refine g_mv rfl ?_; first | refine mv_call_bel (fun w hk => hr w (hk.rO (φ := blk t [.pointer (some ⟨g, 0, none⟩), .int .i64 (z : Nat), .int .u64 (gn : Nat), .int .u64 (fs : Nat), .int .u64 (nx : Nat)] 78) mE)) rfl rfl rfl rfl rfl (by kernel_rfl) ?_) | ((first | refine g_split rfl rfl tE (fun _ => ?_) (fun _ => ?_) | refine gk_cond rfl rfl tE (fun _ => ?_) (fun _ => ?_)) <;> (try first | (exfalso; omega; done) | (rename_i hx; exact absurd rfl hx) | (rename_i hx; cases hx; done)))))
    refine gk_share (φ := sl uA 1 (IE .u8) Q) (by repeat (first | with_reducible exact Sel.here | with_reducible apply Sel.there)) ?_
    refine gk_any [0, 2] (Cut _ (fun q : {q : Value × SecD // q.2.Ok ∧ q.2.L = Q} => [(0, .pointer (some ⟨t, 0, none⟩))]) (fun q => [blk t [.pointer (some ⟨g, 0, none⟩), .int .i64 (z : Nat), .int .u64 (gn : Nat), .int .u64 (fs : Nat), .int .u64 (nx : Nat)] 78, dkF g ⟨sv, q.1.1, S, W ++ [(⟨2 + nx % z, q.1.2⟩ : WrD)]⟩]) (fun _ => [])) rfl rfl (by kernel_rfl) ?_ (cut_k fun q => ?_)
    · skip
      refine gb_take 0 rfl (by decide +kernel) rfl rfl (ys_ev (nw := true) hT rfl sI) sF ?_
      refine gb_take 1 rfl (by decide +kernel) rfl rfl (ys_ev (nw := true) hT rfl sI) sF ?_
      refine gb_take 2 rfl (by decide +kernel) rfl rfl (ys_ev (nw := true) hT rfl sI) sF ?_
      refine gb_take 3 rfl (by decide +kernel) rfl rfl (by first | exact ys_blk hT rfl rfl mE rfl rfl | exact ys_row hT rfl rfl mE rfl rfl | exact ys_row0 hT rfl rfl mE rfl rfl) sF ?_
      refine gb_take 4 rfl (by decide +kernel) rfl rfl (ys_ev (nw := true) hT rfl sI) sF ?_
      refine gb_take 5 rfl (by decide +kernel) rfl rfl (ys_ev (nw := true) hT rfl sI) sF ?_
      refine gb_take 6 rfl (by decide +kernel) rfl rfl (ys_ev (nw := true) hT rfl sI) sF ?_
      refine gb_take 7 rfl (by decide +kernel) rfl rfl (by first | exact ys_blk hT rfl rfl mE rfl rfl | exact ys_row hT rfl rfl mE rfl rfl | exact ys_row0 hT rfl rfl mE rfl rfl) sF ?_
      refine gb_take 8 rfl (by decide +kernel) rfl rfl (ys_ev (nw := true) hT rfl sI) sF ?_
      refine gb_take 9 rfl (by decide +kernel) rfl rfl (ys_ev (nw := true) hT rfl sI) sF ?_
      refine gb_take 10 rfl (by decide +kernel) rfl rfl (ys_ev (nw := true) hT rfl sI) sF ?_
      refine gb_take 11 rfl (by decide +kernel) rfl rfl (by first | exact ys_blk hT rfl rfl mE rfl rfl | exact ys_row hT rfl rfl mE rfl rfl | exact ys_row0 hT rfl rfl mE rfl rfl) sF ?_
      refine gb_take 13 rfl (by decide +kernel) rfl rfl (ys_ev (nw := true) hT rfl sI) sF ?_
      refine gb_only 12 (by decide +kernel) rfl rfl ?_
      refine mv_call_bel (fun w hk => ringAt_any nx z hz hz9 (by omega) w) rfl rfl rfl rfl rfl (by kernel_rfl) ?_
      refine ⟨sF, ?_⟩
      refine gb_only 14 (by decide +kernel) rfl rfl ?_
      refine mv_call_mod (φ := dkF g ⟨sv, lv, S, W⟩) (ψ := fun q : Value × SecD => dkF g ⟨sv, q.1, S, W ++ [(⟨2 + nx % z, q.2⟩ : WrD)]⟩) (fun w1 hk => by exact dwrite_any g sv lv S W (2 + nx % z) uA un uc Q w1 hdk hl (by omega) hu1 hP (hk.rO (φ := dkF g ⟨sv, lv, S, W⟩) mE) (hk.rR (φ := sl uA 1 (IE .u8) Q) mE) (fun b hb => hk.disR (dkF g ⟨sv, lv, S, W⟩) mE (sl uA 1 (IE .u8) Q) mE b hb)) rfl rfl rfl rfl rfl (by kernel_rfl) (by intro _; first | ((repeat (first | with_reducible exact Upd.here _ | with_reducible apply Upd.there)); done) | ((repeat (first | exact Upd.here _ | apply Upd.there)); done) | fail) (fun q hq => ?_)
      refine ⟨sF, ?_⟩
      refine gb_nil (by decide +kernel) ?_
      exact ⟨⟨q, hq⟩, (by repeat (first | exact trivial | refine ⟨rfl, ?_⟩)), sA, sS⟩
    · obtain ⟨⟨qv, qd⟩, hq⟩ := q
      dsimp only at hq
      (repeat (refine gG ?_; try intro _))
      refine gk_ret hT rfl rfl (.tmp rfl (.tmp rfl .nil)) (fun w' hk => ?_)
      exact RetM.mkP (ll := fun q : Value × SecD => [blk t [.pointer (some ⟨g, 0, none⟩), .int .i64 (z : Nat), .int .u64 (gn : Nat), .int .u64 (fs : Nat), .int .u64 ((nx + 1 : Nat) : Int)] 78, dkF g ⟨sv, q.1, S, W ++ [(⟨2 + nx % z, q.2⟩ : WrD)]⟩]) (qv, qd) hq (show resVal [.int .u64 ((nx : Int) + 1 - 1), .int .i64 0] = _ by rw [Int.add_sub_cancel]; rfl) hk (fun b hb => (finE_mem hL.2 b).1 hb) sA
end Go.Proofs.Yteajefmnbalofaa.Tx
