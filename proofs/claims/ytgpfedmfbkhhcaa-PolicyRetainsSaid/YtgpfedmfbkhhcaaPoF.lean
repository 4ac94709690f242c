/- The law PolicyRetains. -/
import Derived.Test.YtgpfedmfbkhhcaaPoM1
import Derived.Test.YtgpfedmfbkhhcaaPoM2
import Derived.Test.YtgpfedmfbkhhcaaCtS
namespace Go.Proofs.Ytgpfedmfbkhhcaa.Po
open Go.RowKit Mem Gx Ct Dd Hp
set_option linter.unusedVariables false
set_option linter.unusedSimpArgs false
set_option maxRecDepth 100000
set_option maxHeartbeats 4000000
theorem calls_b {P : Program} {fid : FuncId} {args : Array Value} {w : World} {b c : Bool} (hb : b = c) (h : Calls P fid args w fun e w' => e = .returned (.bool b) ∧ Below w.heap.size w w') : Calls P fid args w fun e w' => e = .returned (.bool c) ∧ Below w.heap.size w w' := by rwa [hb] at h
theorem catF_few {c : CatD} (h : FewP c.V c.G c.B c.K c.T) : CatF c := ⟨h.v, h.b, h.k, h.t, fun x hx => by obtain ⟨i, hi⟩ := List.getElem?_of_mem hx; exact h.V i x hi, fun x hx => by obtain ⟨i, hi⟩ := List.getElem?_of_mem hx; exact h.B i x hi⟩
theorem lret_any (c : CatD) (now window ev floor : Int) (w : World) (hc : c.Ok) (hB : CatB c) (hn0 : 0 ≤ now) (hn9 : now ≤ 18446744073709551615) (hw0 : 0 ≤ window) (he0 : 0 ≤ ev) (hf0 : 0 ≤ floor) (hf9 : floor ≤ 18446744073709551615) (h : Rd1 w (catF c)) :
    Calls Try.prog 4 [c.val, .agg #[.int .u64 now, .int .u64 window, .int .u64 ev], .int .u64 floor].toArray w fun e w' => e = .returned (.bool true) ∧ Below w.heap.size w w' := by
  have htl : c.t.n = c.T.length := hc.t.n
  by_cases hf : FewP c.V c.G c.B c.K c.T
  · by_cases hr : RightT c.T
    · have g1 := fun w (h : Rd1 w (catF c)) => calls_b (tB_true hf) (few_any c w hc h)
      have g2 := fun w (h : Rd1 w (sl c.t.A 2 ME c.T)) => calls_b (tB_true hr) (rtright_any c.t.A c.t.n c.t.c c.T w htl (by have := hf.t; omega) h)
      have hF := catF_few hf
      have b0 := hB.f0
      have b9 := hB.f9
      have k1 := fun w (h : Rd1 w (catF c)) => pfloor_any c now window w hc (by have := hf.t; omega) hr.rise hn0 hn9 hw0 h
      have k2 := fun w (h : Rd1 w (catF c)) => rfloor_any c now window w hc (by have := hf.t; omega) hn0 hn9 hw0 h
      have k3 := fun w (h : Rd1 w (catF c)) => pkept_any c (max floor c.fl) ev w hc (by have := hf.k; omega) (by omega) (by omega) he0 h
      have k4 := fun w (h : Rd1 w (catF c)) => rkept_any c (max floor c.fl) ev w hc (by have := hf.k; omega) b0 (by omega) (by omega) he0 h
      have k5 := fun w (h : Rd1 w (catF c)) => pret_any c now window ev w hc hB hF hr.rise hn0 hn9 hw0 he0 h
      have k6 := fun w (h : Rd1 w (catF c)) => rret_any c now window ev w hc hB hF hr.rise hn0 hn9 hw0 he0 h
      have kl := keptP_len c.K (max floor c.fl) c.fl ev
      obtain ⟨nv, ng, nb, fl, ⟨vA, vm, vc⟩, V, ⟨gA, gm, gc⟩, G, ⟨bA, bm, bc⟩, B, ⟨kA, km, kd⟩, K, ⟨tA, tm, tc⟩, M⟩ := c
      dsimp only [CatD.val] at g1 g2 k1 k2 k3 k4 k5 k6 kl b0 b9 ⊢
      obtain ⟨lo, hlo⟩ : ∃ lo, lo = max floor fl := ⟨_, rfl⟩
      obtain ⟨F, hF0⟩ : ∃ F, F = floorP M fl now window := ⟨_, rfl⟩
      rw [← hlo] at k3 k4 kl
      obtain ⟨KK, hKK⟩ : ∃ KK, KK = keptP K lo fl ev := ⟨_, rfl⟩
      obtain ⟨RP, hRP⟩ : ∃ RP, RP = retainP (CatD.p (⟨nv, ng, nb, fl, ⟨vA, vm, vc⟩, V, ⟨gA, gm, gc⟩, G, ⟨bA, bm, bc⟩, B, ⟨kA, km, kd⟩, K, ⟨tA, tm, tc⟩, M⟩ : CatD)) now window ev := ⟨_, rfl⟩
      rw [← hF0] at k1 k2
      rw [← hKK] at k3 k4 kl
      rw [← hRP] at k5 k6
      refine g_enter0 T [] [] [catF (⟨nv, ng, nb, fl, ⟨vA, vm, vc⟩, V, ⟨gA, gm, gc⟩, G, ⟨bA, bm, bc⟩, B, ⟨kA, km, kd⟩, K, ⟨tA, tm, tc⟩, M⟩ : CatD)] Try.func4 rfl Try.ntmps4 rfl (Rds.cons h .nil).kn ?_
      refine gk_der [catF (⟨nv, ng, nb, fl, ⟨vA, vm, vc⟩, V, ⟨gA, gm, gc⟩, G, ⟨bA, bm, bc⟩, B, ⟨kA, km, kd⟩, K, ⟨tA, tm, tc⟩, M⟩ : CatD)] (φ := sl tA 2 ME M) d_t sS ?_
      (repeat' (first | (refine gG ?_; try intro _) | (refine g_mv rfl ?_; first | refine mv_call_bel (fun w hk => g1 w (hk.rR (φ := catF (⟨nv, ng, nb, fl, ⟨vA, vm, vc⟩, V, ⟨gA, gm, gc⟩, G, ⟨bA, bm, bc⟩, B, ⟨kA, km, kd⟩, K, ⟨tA, tm, tc⟩, M⟩ : CatD)) mE)) rfl rfl rfl rfl rfl (by kernel_rfl) ?_ | refine mv_call_bel (fun w hk => g2 w (hk.rR (φ := sl tA 2 ME M) mE)) rfl rfl rfl rfl rfl (by kernel_rfl) ?_) | ((first | refine g_split rfl rfl tE (fun _ => ?_) (fun _ => ?_) | refine gk_cond rfl rfl tE (fun _ => ?_) (fun _ => ?_)) <;> (try first | (exfalso; omega; done) | (rename_i hx; exact absurd rfl hx) | (rename_i hx; cases hx; done)))))
      rename_i g3 g4
      refine g_yd rfl rfl (Ys.yd (ys_max (x := floor) (y := fl) lo rfl rfl rfl (by split <;> omega))) ?_
      (repeat (refine gG ?_; try intro _))
      refine gk_sel (f' := [(3, .pointer (some ⟨g3, 0, none⟩)), (4, .pointer (some ⟨g4, 0, none⟩)), (7, .int .u64 lo)]) (O' := [blk g3 [.int .i64 nv, .int .i64 ng, .int .i64 nb, .int .u64 fl, .slice vA vm vc, .slice gA gm gc, .slice bA bm bc, .slice kA km kd, .slice tA tm tc] 67, blk g4 [.int .u64 now, .int .u64 window, .int .u64 ev] 69]) (R' := [catF (⟨nv, ng, nb, fl, ⟨vA, vm, vc⟩, V, ⟨gA, gm, gc⟩, G, ⟨bA, bm, bc⟩, B, ⟨kA, km, kd⟩, K, ⟨tA, tm, tc⟩, M⟩ : CatD)]) (by repeat (first | exact trivial | refine ⟨rfl, ?_⟩)) sA sS ?_
      refine gk_any [0, 1, 2] (Cut _ (fun _ : Unit => [(6, .bool true)]) (fun _ => []) (fun _ => [])) rfl rfl (by kernel_rfl) ?_ (cut_k fun _ => ?_)
      · skip
        refine gb_take 0 rfl (by decide +kernel) rfl rfl (by first | exact ys_blk hT rfl rfl mE rfl rfl | exact ys_row hT rfl rfl mE rfl rfl | exact ys_row0 hT rfl rfl mE rfl rfl) sF ?_
        refine gb_take 1 rfl (by decide +kernel) rfl rfl (ys_ev (nw := true) hT rfl sI) sF ?_
        refine gb_take 2 rfl (by decide +kernel) rfl rfl (by first | exact ys_blk hT rfl rfl mE rfl rfl | exact ys_row hT rfl rfl mE rfl rfl | exact ys_row0 hT rfl rfl mE rfl rfl) sF ?_
        refine gb_take 3 rfl (by decide +kernel) rfl rfl (ys_ev (nw := true) hT rfl sI) sF ?_
        refine gb_take 4 rfl (by decide +kernel) rfl rfl (by first | exact ys_blk hT rfl rfl mE rfl rfl | exact ys_row hT rfl rfl mE rfl rfl | exact ys_row0 hT rfl rfl mE rfl rfl) sF ?_
        refine gb_take 6 rfl (by decide +kernel) rfl rfl (by first | exact ys_blk hT rfl rfl mE rfl rfl | exact ys_row hT rfl rfl mE rfl rfl | exact ys_row0 hT rfl rfl mE rfl rfl) sF ?_
        refine gb_take 7 rfl (by decide +kernel) rfl rfl (ys_ev (nw := true) hT rfl sI) sF ?_
        refine gb_take 8 rfl (by decide +kernel) rfl rfl (by first | exact ys_blk hT rfl rfl mE rfl rfl | exact ys_row hT rfl rfl mE rfl rfl | exact ys_row0 hT rfl rfl mE rfl rfl) sF ?_
        refine gb_take 9 rfl (by decide +kernel) rfl rfl (ys_ev (nw := true) hT rfl sI) sF ?_
        refine gb_take 10 rfl (by decide +kernel) rfl rfl (by first | exact ys_blk hT rfl rfl mE rfl rfl | exact ys_row hT rfl rfl mE rfl rfl | exact ys_row0 hT rfl rfl mE rfl rfl) sF ?_
        refine gb_only 5 (by decide +kernel) rfl rfl ?_
        refine mv_call_bel (fun w hk => k1 w (hk.rR (φ := catF (⟨nv, ng, nb, fl, ⟨vA, vm, vc⟩, V, ⟨gA, gm, gc⟩, G, ⟨bA, bm, bc⟩, B, ⟨kA, km, kd⟩, K, ⟨tA, tm, tc⟩, M⟩ : CatD)) mE)) rfl rfl rfl rfl rfl (by kernel_rfl) ?_
        refine ⟨sF, ?_⟩
        refine gb_only 11 (by decide +kernel) rfl rfl ?_
        refine mv_call_bel (fun w hk => k2 w (hk.rR (φ := catF (⟨nv, ng, nb, fl, ⟨vA, vm, vc⟩, V, ⟨gA, gm, gc⟩, G, ⟨bA, bm, bc⟩, B, ⟨kA, km, kd⟩, K, ⟨tA, tm, tc⟩, M⟩ : CatD)) mE)) rfl rfl rfl rfl rfl (by kernel_rfl) ?_
        refine ⟨sF, ?_⟩
        refine gb_take 12 rfl (by decide +kernel) rfl rfl (ys_ev (nw := true) hT rfl sI) sF ?_
        try (refine gb_say 33 (.bool true) rfl (congrArg Value.bool (tB_true rfl)) ?_)
        refine gb_take 13 rfl (by decide +kernel) rfl rfl (ys_ev (nw := true) hT rfl sI) sF ?_
        first | refine gb_take 14 rfl (by decide +kernel) rfl rfl (by first | exact ys_blk hT rfl rfl mE rfl rfl | exact ys_row hT rfl rfl mE rfl rfl | exact ys_row0 hT rfl rfl mE rfl rfl) sF ?_ | refine gb_skip 14 rfl (by decide +kernel) rfl rfl sF ?_
        first | refine gb_take 15 rfl (by decide +kernel) rfl rfl (ys_ev (nw := true) hT rfl sI) sF ?_ | refine gb_skip 15 rfl (by decide +kernel) rfl rfl sF ?_
        first | refine gb_take 16 rfl (by decide +kernel) rfl rfl (ys_ev (nw := true) hT rfl sI) sF ?_ | refine gb_skip 16 rfl (by decide +kernel) rfl rfl sF ?_
        first | refine gb_take 17 rfl (by decide +kernel) rfl rfl (by first | exact ys_blk hT rfl rfl mE rfl rfl | exact ys_row hT rfl rfl mE rfl rfl | exact ys_row0 hT rfl rfl mE rfl rfl) sF ?_ | refine gb_skip 17 rfl (by decide +kernel) rfl rfl sF ?_
        first | refine gb_take 19 rfl (by decide +kernel) rfl rfl (by first | exact ys_blk hT rfl rfl mE rfl rfl | exact ys_row hT rfl rfl mE rfl rfl | exact ys_row0 hT rfl rfl mE rfl rfl) sF ?_ | refine gb_skip 19 rfl (by decide +kernel) rfl rfl sF ?_
        first | refine gb_take 20 rfl (by decide +kernel) rfl rfl (ys_ev (nw := true) hT rfl sI) sF ?_ | refine gb_skip 20 rfl (by decide +kernel) rfl rfl sF ?_
        first | refine gb_take 21 rfl (by decide +kernel) rfl rfl (ys_ev (nw := true) hT rfl sI) sF ?_ | refine gb_skip 21 rfl (by decide +kernel) rfl rfl sF ?_
        first | refine gb_take 22 rfl (by decide +kernel) rfl rfl (by first | exact ys_blk hT rfl rfl mE rfl rfl | exact ys_row hT rfl rfl mE rfl rfl | exact ys_row0 hT rfl rfl mE rfl rfl) sF ?_ | refine gb_skip 22 rfl (by decide +kernel) rfl rfl sF ?_
        first | refine gb_skip 18 rfl (by decide +kernel) rfl rfl sF ?_ | (refine gb_only 18 (by decide +kernel) rfl rfl ?_; (refine mv_call_rs (fun w hk => k3 w (hk.rR (φ := catF (⟨nv, ng, nb, fl, ⟨vA, vm, vc⟩, V, ⟨gA, gm, gc⟩, G, ⟨bA, bm, bc⟩, B, ⟨kA, km, kd⟩, K, ⟨tA, tm, tc⟩, M⟩ : CatD)) mE)) rfl rfl rfl rfl rfl (by kernel_rfl) sS (fun _ => rfl) (fun q1 hq1 hn1 => ?_)); refine ⟨sF, ?_⟩)
        first | refine gb_skip 23 rfl (by decide +kernel) rfl rfl sF ?_ | (refine gb_only 23 (by decide +kernel) rfl rfl ?_; (refine mv_call_rs (fun w hk => k4 w (hk.rR (φ := catF (⟨nv, ng, nb, fl, ⟨vA, vm, vc⟩, V, ⟨gA, gm, gc⟩, G, ⟨bA, bm, bc⟩, B, ⟨kA, km, kd⟩, K, ⟨tA, tm, tc⟩, M⟩ : CatD)) mE)) rfl rfl rfl rfl rfl (by kernel_rfl) sS (fun _ => rfl) (fun q2 hq2 hn2 => ?_)); refine ⟨sF, ?_⟩)
        first | refine gb_skip 24 rfl (by decide +kernel) rfl rfl sF ?_ | (refine gb_only 24 (by decide +kernel) rfl rfl ?_; (refine mv_call_bel (fun w hk => calls_b (tB_true rfl) (equal_U q1.A q2.A q1.n q1.c q2.n q2.c KK KK w hq1.n hq2.n (by rw [hq1.n]; omega) (hk.pR (sl q1.A 1 (IE .u64) KK) mE) (hk.pR (sl q2.A 1 (IE .u64) KK) mE))) rfl rfl rfl rfl rfl (by kernel_rfl) ?_); refine ⟨sF, ?_⟩)
        refine gb_take 25 rfl (by decide +kernel) rfl rfl (ys_ev (nw := true) hT rfl sI) sF ?_
        refine gb_take 26 rfl (by decide +kernel) rfl rfl (ys_ev (nw := true) hT rfl sI) sF ?_
        first | refine gb_take 27 rfl (by decide +kernel) rfl rfl (by first | exact ys_blk hT rfl rfl mE rfl rfl | exact ys_row hT rfl rfl mE rfl rfl | exact ys_row0 hT rfl rfl mE rfl rfl) sF ?_ | refine gb_skip 27 rfl (by decide +kernel) rfl rfl sF ?_
        first | refine gb_take 28 rfl (by decide +kernel) rfl rfl (ys_ev (nw := true) hT rfl sI) sF ?_ | refine gb_skip 28 rfl (by decide +kernel) rfl rfl sF ?_
        first | refine gb_take 29 rfl (by decide +kernel) rfl rfl (by first | exact ys_blk hT rfl rfl mE rfl rfl | exact ys_row hT rfl rfl mE rfl rfl | exact ys_row0 hT rfl rfl mE rfl rfl) sF ?_ | refine gb_skip 29 rfl (by decide +kernel) rfl rfl sF ?_
        first | refine gb_take 30 rfl (by decide +kernel) rfl rfl (ys_ev (nw := true) hT rfl sI) sF ?_ | refine gb_skip 30 rfl (by decide +kernel) rfl rfl sF ?_
        first | refine gb_take 31 rfl (by decide +kernel) rfl rfl (by first | exact ys_blk hT rfl rfl mE rfl rfl | exact ys_row hT rfl rfl mE rfl rfl | exact ys_row0 hT rfl rfl mE rfl rfl) sF ?_ | refine gb_skip 31 rfl (by decide +kernel) rfl rfl sF ?_
        first | refine gb_take 32 rfl (by decide +kernel) rfl rfl (ys_ev (nw := true) hT rfl sI) sF ?_ | refine gb_skip 32 rfl (by decide +kernel) rfl rfl sF ?_
        first | refine gb_take 33 rfl (by decide +kernel) rfl rfl (by first | exact ys_blk hT rfl rfl mE rfl rfl | exact ys_row hT rfl rfl mE rfl rfl | exact ys_row0 hT rfl rfl mE rfl rfl) sF ?_ | refine gb_skip 33 rfl (by decide +kernel) rfl rfl sF ?_
        first | refine gb_take 35 rfl (by decide +kernel) rfl rfl (by first | exact ys_blk hT rfl rfl mE rfl rfl | exact ys_row hT rfl rfl mE rfl rfl | exact ys_row0 hT rfl rfl mE rfl rfl) sF ?_ | refine gb_skip 35 rfl (by decide +kernel) rfl rfl sF ?_
        first | refine gb_take 36 rfl (by decide +kernel) rfl rfl (ys_ev (nw := true) hT rfl sI) sF ?_ | refine gb_skip 36 rfl (by decide +kernel) rfl rfl sF ?_
        first | refine gb_take 37 rfl (by decide +kernel) rfl rfl (by first | exact ys_blk hT rfl rfl mE rfl rfl | exact ys_row hT rfl rfl mE rfl rfl | exact ys_row0 hT rfl rfl mE rfl rfl) sF ?_ | refine gb_skip 37 rfl (by decide +kernel) rfl rfl sF ?_
        first | refine gb_take 38 rfl (by decide +kernel) rfl rfl (ys_ev (nw := true) hT rfl sI) sF ?_ | refine gb_skip 38 rfl (by decide +kernel) rfl rfl sF ?_
        first | refine gb_take 39 rfl (by decide +kernel) rfl rfl (by first | exact ys_blk hT rfl rfl mE rfl rfl | exact ys_row hT rfl rfl mE rfl rfl | exact ys_row0 hT rfl rfl mE rfl rfl) sF ?_ | refine gb_skip 39 rfl (by decide +kernel) rfl rfl sF ?_
        first | refine gb_take 40 rfl (by decide +kernel) rfl rfl (ys_ev (nw := true) hT rfl sI) sF ?_ | refine gb_skip 40 rfl (by decide +kernel) rfl rfl sF ?_
        first | refine gb_take 41 rfl (by decide +kernel) rfl rfl (by first | exact ys_blk hT rfl rfl mE rfl rfl | exact ys_row hT rfl rfl mE rfl rfl | exact ys_row0 hT rfl rfl mE rfl rfl) sF ?_ | refine gb_skip 41 rfl (by decide +kernel) rfl rfl sF ?_
        first | refine gb_skip 34 rfl (by decide +kernel) rfl rfl sF ?_ | (refine gb_only 34 (by decide +kernel) rfl rfl ?_; (refine mv_call_rs (fun w hk => k5 w (hk.rR (φ := catF (⟨nv, ng, nb, fl, ⟨vA, vm, vc⟩, V, ⟨gA, gm, gc⟩, G, ⟨bA, bm, bc⟩, B, ⟨kA, km, kd⟩, K, ⟨tA, tm, tc⟩, M⟩ : CatD)) mE)) rfl rfl rfl rfl rfl (by kernel_rfl) sS (fun _ => rfl) (fun d1 hd1 hm1 => ?_)); refine ⟨sF, ?_⟩)
        first | refine gb_skip 42 rfl (by decide +kernel) rfl rfl sF ?_ | (refine gb_only 42 (by decide +kernel) rfl rfl ?_; (refine mv_call_rs (fun w hk => k6 w (hk.rR (φ := catF (⟨nv, ng, nb, fl, ⟨vA, vm, vc⟩, V, ⟨gA, gm, gc⟩, G, ⟨bA, bm, bc⟩, B, ⟨kA, km, kd⟩, K, ⟨tA, tm, tc⟩, M⟩ : CatD)) mE)) rfl rfl rfl rfl rfl (by kernel_rfl) sS (fun _ => rfl) (fun d2 hd2 hm2 => ?_)); refine ⟨sF, ?_⟩)
        first | refine gb_skip 43 rfl (by decide +kernel) rfl rfl sF ?_ | (refine gb_only 43 (by decide +kernel) rfl rfl ?_; (refine mv_call_bel (fun w hk => same_any d1 d2 w hd1.1 hd2.1 (hd1.2.trans hd2.2.symm) (hk.rR (φ := catF d1) mE) (hk.rR (φ := catF d2) mE)) rfl rfl rfl rfl rfl (by kernel_rfl) ?_); refine ⟨sF, ?_⟩)
        refine gb_take 44 rfl (by decide +kernel) rfl rfl (ys_ev (nw := true) hT rfl sI) sF ?_
        refine gb_take 45 rfl (by decide +kernel) rfl rfl (ys_ev (nw := true) hT rfl sI) sF ?_
        first | refine gb_skip 46 rfl (by decide +kernel) rfl rfl sF ?_ | (refine gb_only 46 (by decide +kernel) rfl rfl ?_; (refine mv_call_bel (fun w hk => alive24 w) rfl rfl rfl rfl rfl (by kernel_rfl) ?_); refine ⟨sF, ?_⟩)
        refine gb_take 47 rfl (by decide +kernel) rfl rfl (ys_ev (nw := true) hT rfl sI) sF ?_
        refine gb_take 48 rfl (by decide +kernel) rfl rfl (ys_ev (nw := true) hT rfl sI) sF ?_
        refine gb_nil (by decide +kernel) ?_
        exact ⟨(), (by repeat (first | exact trivial | refine ⟨rfl, ?_⟩)), sA, sS⟩
      · (repeat (refine gG ?_; try intro _))
        refine gk_ret hT rfl rfl (.tmp rfl .nil) (fun w' hk => ?_)
        exact ⟨rfl, hk.toBelow⟩
    · have g1 := fun w (h : Rd1 w (catF c)) => calls_b (tB_true hf) (few_any c w hc h)
      have g2 := fun w (h : Rd1 w (sl c.t.A 2 ME c.T)) => calls_b (tB_false hr) (rtright_any c.t.A c.t.n c.t.c c.T w htl (by have := hf.t; omega) h)
      obtain ⟨nv, ng, nb, fl, ⟨vA, vm, vc⟩, V, ⟨gA, gm, gc⟩, G, ⟨bA, bm, bc⟩, B, ⟨kA, km, kd⟩, K, ⟨tA, tm, tc⟩, M⟩ := c
      dsimp only [CatD.val] at g1 g2 ⊢
      refine g_enter0 T [] [] [catF (⟨nv, ng, nb, fl, ⟨vA, vm, vc⟩, V, ⟨gA, gm, gc⟩, G, ⟨bA, bm, bc⟩, B, ⟨kA, km, kd⟩, K, ⟨tA, tm, tc⟩, M⟩ : CatD)] Try.func4 rfl Try.ntmps4 rfl (Rds.cons h .nil).kn ?_
      refine gk_der [catF (⟨nv, ng, nb, fl, ⟨vA, vm, vc⟩, V, ⟨gA, gm, gc⟩, G, ⟨bA, bm, bc⟩, B, ⟨kA, km, kd⟩, K, ⟨tA, tm, tc⟩, M⟩ : CatD)] (φ := sl tA 2 ME M) d_t sS ?_
      (repeat' (first | (refine gG ?_; try intro _) | (refine g_mv rfl ?_; first | refine mv_call_bel (fun w hk => g1 w (hk.rR (φ := catF (⟨nv, ng, nb, fl, ⟨vA, vm, vc⟩, V, ⟨gA, gm, gc⟩, G, ⟨bA, bm, bc⟩, B, ⟨kA, km, kd⟩, K, ⟨tA, tm, tc⟩, M⟩ : CatD)) mE)) rfl rfl rfl rfl rfl (by kernel_rfl) ?_ | refine mv_call_bel (fun w hk => g2 w (hk.rR (φ := sl tA 2 ME M) mE)) rfl rfl rfl rfl rfl (by kernel_rfl) ?_) | ((first | refine g_split rfl rfl tE (fun _ => ?_) (fun _ => ?_) | refine gk_cond rfl rfl tE (fun _ => ?_) (fun _ => ?_)) <;> (try first | (exfalso; omega; done) | (rename_i hx; exact absurd rfl hx) | (rename_i hx; cases hx; done)))))
      refine gk_ret hT rfl rfl (.tmp rfl .nil) (fun w' hk => ?_)
      exact ⟨rfl, hk.toBelow⟩
  · have g1 := fun w (h : Rd1 w (catF c)) => calls_b (tB_false hf) (few_any c w hc h)
    obtain ⟨nv, ng, nb, fl, ⟨vA, vm, vc⟩, V, ⟨gA, gm, gc⟩, G, ⟨bA, bm, bc⟩, B, ⟨kA, km, kd⟩, K, ⟨tA, tm, tc⟩, M⟩ := c
    dsimp only [CatD.val] at g1 ⊢
    refine g_enter0 T [] [] [catF (⟨nv, ng, nb, fl, ⟨vA, vm, vc⟩, V, ⟨gA, gm, gc⟩, G, ⟨bA, bm, bc⟩, B, ⟨kA, km, kd⟩, K, ⟨tA, tm, tc⟩, M⟩ : CatD)] Try.func4 rfl Try.ntmps4 rfl (Rds.cons h .nil).kn ?_
    (repeat' (first | (refine gG ?_; try intro _) | (refine g_mv rfl ?_; first | refine mv_call_bel (fun w hk => g1 w (hk.rR (φ := catF (⟨nv, ng, nb, fl, ⟨vA, vm, vc⟩, V, ⟨gA, gm, gc⟩, G, ⟨bA, bm, bc⟩, B, ⟨kA, km, kd⟩, K, ⟨tA, tm, tc⟩, M⟩ : CatD)) mE)) rfl rfl rfl rfl rfl (by kernel_rfl) ?_) | ((first | refine g_split rfl rfl tE (fun _ => ?_) (fun _ => ?_) | refine gk_cond rfl rfl tE (fun _ => ?_) (fun _ => ?_)) <;> (try first | (exfalso; omega; done) | (rename_i hx; exact absurd rfl hx) | (rename_i hx; cases hx; done)))))
    refine gk_ret hT rfl rfl (.tmp rfl .nil) (fun w' hk => ?_)
    exact ⟨rfl, hk.toBelow⟩
end Go.Proofs.Ytgpfedmfbkhhcaa.Po

