/- The law PolicyLeaves. -/
import Derived.Test.YtgpfedmfbkhhcaaPoM1
import Derived.Test.YtgpfedmfbkhhcaaPoM2
namespace Go.Proofs.Ytgpfedmfbkhhcaa.Po
open Go.RowKit Mem Gx Ct Dd Hp
set_option linter.unusedVariables false
set_option linter.unusedSimpArgs false
set_option maxRecDepth 100000
set_option maxHeartbeats 4000000
theorem catF_few' {c : CatD} (h : FewP c.V c.G c.B c.K c.T) : CatF c := ⟨h.v, h.b, h.k, h.t, fun x hx => by obtain ⟨i, hi⟩ := List.getElem?_of_mem hx; exact h.V i x hi, fun x hx => by obtain ⟨i, hi⟩ := List.getElem?_of_mem hx; exact h.B i x hi⟩
theorem calls_bl {P : Program} {fid : FuncId} {args : Array Value} {w : World} {b c : Bool} (hb : b = c) (h : Calls P fid args w fun e w' => e = .returned (.bool b) ∧ Below w.heap.size w w') : Calls P fid args w fun e w' => e = .returned (.bool c) ∧ Below w.heap.size w w' := by rwa [hb] at h
theorem lleave_any (c : CatD) (now window ev a0 seq last : Int) (w : World) (hc : c.Ok) (hB : CatB c) (hn0 : 0 ≤ now) (hn9 : now ≤ 18446744073709551615) (hw0 : 0 ≤ window) (he0 : 0 ≤ ev) (ha0 : 0 ≤ a0) (ha9 : a0 ≤ 18446744073709551615) (h : Rd1 w (catF c)) :
    Calls Try.prog 5 [c.val, .agg #[.int .u64 now, .int .u64 window, .int .u64 ev], .agg #[.int .u64 a0, .int .u64 seq, .int .u64 last]].toArray w fun e w' => e = .returned (.bool true) ∧ Below w.heap.size w w' := by
  have htl : c.t.n = c.T.length := hc.t.n
  have main : ∀ (b1 b2 b3 : Bool), (b1 = true → FewP c.V c.G c.B c.K c.T) → (b2 = true → b1 = true ∧ RightT c.T) → (b3 = true → b2 = true ∧ mayP c.V (ofP c.K (c.B.map BokD.d) (a0 % 6)) c.fl (a0 % 6) seq last) → (∀ w, Rd1 w (catF c) → Calls Try.prog 17 [c.val].toArray w fun e w' => e = .returned (.bool b1) ∧ Below w.heap.size w w') → (b1 = true → ∀ w, Rd1 w (sl c.t.A 2 ME c.T) → Calls Try.prog 18 [c.t.v].toArray w fun e w' => e = .returned (.bool b2) ∧ Below w.heap.size w w') → (b2 = true → ∀ w, Rd1 w (catF c) → Calls Try.prog 28 [c.val, .int .i64 (a0 % 6), .int .u64 seq, .int .u64 last].toArray w fun e w' => e = .returned (.bool b3) ∧ Below w.heap.size w w') →
    Calls Try.prog 5 [c.val, .agg #[.int .u64 now, .int .u64 window, .int .u64 ev], .agg #[.int .u64 a0, .int .u64 seq, .int .u64 last]].toArray w fun e w' => e = .returned (.bool true) ∧ Below w.heap.size w w' := by
    intro b1 b2 b3 h1 h2 h3 g1 g2 g3'
    have hdfl := fun (d : CatD) (hp : d.p = retainP c.p now window ev) => ret_fl hp
    have hdK := fun (d : CatD) (hp : d.p = retainP c.p now window ev) => ret_K hp
    have hdB := fun (d : CatD) (hp : d.p = retainP c.p now window ev) => ret_Bl hp
    have hdL := fun (d : CatD) (hp : d.p = retainP c.p now window ev) => ret_BL hp
    have hdm := fun (d : CatD) (hp : d.p = retainP c.p now window ev) => ret_may (vol := a0 % 6) (seq := seq) (last := last) hp
    have hfb := floorP_bd hB now window
    have hkl := fun fl => keptP_len c.K fl c.fl ev
    have k5 := fun (hf : FewP c.V c.G c.B c.K c.T) (hr : RightT c.T) w (h : Rd1 w (catF c)) => pret_any c now window ev w hc hB (catF_few' hf) hr.rise hn0 hn9 hw0 he0 h
    have hbn' : c.b.n = c.B.length := hc.b.n
    have hcB := hc.B
    have htv : c.t.v = .slice c.t.A c.t.n c.t.c := rfl
    rw [htv] at g2
    have hfw : now < window → floorP c.T c.fl now window = c.fl := fun h => if_pos h
    obtain ⟨nv, ng, nb, fl, ⟨vA, vm, vc⟩, V, ⟨gA, gm, gc⟩, G, ⟨bA, bm, bc⟩, B, ⟨kA, km, kd⟩, K, ⟨tA, tm, tc⟩, M⟩ := c
    dsimp only [CatD.val] at g1 g2 g3' k5 h1 h2 h3 hbn' hcB hfb hdfl hdK hdB hdL hdm hkl hfw ⊢
    obtain ⟨RP, hRP⟩ : ∃ RP, RP = retainP (CatD.p (⟨nv, ng, nb, fl, ⟨vA, vm, vc⟩, V, ⟨gA, gm, gc⟩, G, ⟨bA, bm, bc⟩, B, ⟨kA, km, kd⟩, K, ⟨tA, tm, tc⟩, M⟩ : CatD)) now window ev := ⟨_, rfl⟩
    rw [← hRP] at k5 hdfl hdK hdB hdL hdm
    obtain ⟨F, hF0⟩ : ∃ F, F = floorP M fl now window := ⟨_, rfl⟩
    rw [← hF0] at hfb hdfl hdK hfw
    obtain ⟨vol, hvol⟩ : ∃ v, v = a0 % 6 := ⟨_, rfl⟩
    rw [← hvol] at h3 g3' hdm
    refine g_enter0 T [] [] [catF (⟨nv, ng, nb, fl, ⟨vA, vm, vc⟩, V, ⟨gA, gm, gc⟩, G, ⟨bA, bm, bc⟩, B, ⟨kA, km, kd⟩, K, ⟨tA, tm, tc⟩, M⟩ : CatD)] Try.func5 rfl Try.ntmps5 rfl (Rds.cons h .nil).kn ?_
    refine gk_der [catF (⟨nv, ng, nb, fl, ⟨vA, vm, vc⟩, V, ⟨gA, gm, gc⟩, G, ⟨bA, bm, bc⟩, B, ⟨kA, km, kd⟩, K, ⟨tA, tm, tc⟩, M⟩ : CatD)] (φ := sl tA 2 ME M) d_t sS ?_
    refine gk_der [catF (⟨nv, ng, nb, fl, ⟨vA, vm, vc⟩, V, ⟨gA, gm, gc⟩, G, ⟨bA, bm, bc⟩, B, ⟨kA, km, kd⟩, K, ⟨tA, tm, tc⟩, M⟩ : CatD)] (φ := sl bA 3 BE B) d_b sS ?_
    refine gk_der [catF (⟨nv, ng, nb, fl, ⟨vA, vm, vc⟩, V, ⟨gA, gm, gc⟩, G, ⟨bA, bm, bc⟩, B, ⟨kA, km, kd⟩, K, ⟨tA, tm, tc⟩, M⟩ : CatD)] (φ := allF B BokD.f) d_B sS ?_
    (repeat (refine gG ?_; try intro _))
    rename_i g3 g4 g5
    refine gk_sel (f' := [(3, .pointer (some ⟨g3, 0, none⟩)), (4, .pointer (some ⟨g4, 0, none⟩)), (5, .pointer (some ⟨g5, 0, none⟩))]) (O' := [blk g3 [.int .i64 nv, .int .i64 ng, .int .i64 nb, .int .u64 fl, .slice vA vm vc, .slice gA gm gc, .slice bA bm bc, .slice kA km kd, .slice tA tm tc] 67, blk g4 [.int .u64 now, .int .u64 window, .int .u64 ev] 69, blk g5 [.int .u64 a0, .int .u64 seq, .int .u64 last] 78]) (R' := [catF (⟨nv, ng, nb, fl, ⟨vA, vm, vc⟩, V, ⟨gA, gm, gc⟩, G, ⟨bA, bm, bc⟩, B, ⟨kA, km, kd⟩, K, ⟨tA, tm, tc⟩, M⟩ : CatD), sl tA 2 ME M, sl bA 3 BE B, allF B BokD.f]) (by repeat (first | exact trivial | refine ⟨rfl, ?_⟩)) sA sS ?_
    refine gk_any [0, 1, 2, 3, 4, 5, 6] (Cut _ (fun _ : Unit => [(3, .pointer (some ⟨g3, 0, none⟩)), (4, .pointer (some ⟨g4, 0, none⟩)), (7, .int .i64 vol), (8, .int .u64 seq), (9, .int .u64 last)]) (fun _ => [blk g3 [.int .i64 nv, .int .i64 ng, .int .i64 nb, .int .u64 fl, .slice vA vm vc, .slice gA gm gc, .slice bA bm bc, .slice kA km kd, .slice tA tm tc] 67, blk g4 [.int .u64 now, .int .u64 window, .int .u64 ev] 69]) (fun _ => [catF (⟨nv, ng, nb, fl, ⟨vA, vm, vc⟩, V, ⟨gA, gm, gc⟩, G, ⟨bA, bm, bc⟩, B, ⟨kA, km, kd⟩, K, ⟨tA, tm, tc⟩, M⟩ : CatD), sl tA 2 ME M, sl bA 3 BE B, allF B BokD.f])) rfl rfl (by kernel_rfl) ?_ (cut_k fun _ => ?_)
    · skip
      refine gb_take 0 rfl (by decide +kernel) rfl rfl (ys_ev (nw := true) hT rfl sI) sF ?_
      refine gb_take 1 rfl (by decide +kernel) rfl rfl (by first | exact ys_blk hT rfl rfl mE rfl rfl | exact ys_row hT rfl rfl mE rfl rfl | exact ys_row0 hT rfl rfl mE rfl rfl) sF ?_
      refine gb_take 2 rfl (by decide +kernel) rfl rfl (ys_ev (nw := true) hT rfl sI) sF ?_
      try (refine gb_say 15 (.int .u64 vol) rfl (by rw [hvol]) ?_)
      refine gb_take 3 rfl (by decide +kernel) rfl rfl (ys_ev (nw := true) hT rfl (show inR .i64 vol by simp only [inR]; omega)) sF ?_
      refine gb_take 4 rfl (by decide +kernel) rfl rfl (ys_ev (nw := true) hT rfl sI) sF ?_
      refine gb_take 5 rfl (by decide +kernel) rfl rfl (by first | exact ys_blk hT rfl rfl mE rfl rfl | exact ys_row hT rfl rfl mE rfl rfl | exact ys_row0 hT rfl rfl mE rfl rfl) sF ?_
      refine gb_take 6 rfl (by decide +kernel) rfl rfl (ys_ev (nw := true) hT rfl sI) sF ?_
      refine gb_take 7 rfl (by decide +kernel) rfl rfl (by first | exact ys_blk hT rfl rfl mE rfl rfl | exact ys_row hT rfl rfl mE rfl rfl | exact ys_row0 hT rfl rfl mE rfl rfl) sF ?_
      refine gb_take 8 rfl (by decide +kernel) rfl rfl (ys_ev (nw := true) hT rfl sI) sF ?_
      refine gb_take 9 rfl (by decide +kernel) rfl rfl (ys_ev (nw := true) hT rfl sI) sF ?_
      refine gb_take 10 rfl (by decide +kernel) rfl rfl (ys_ev (nw := true) hT rfl sI) sF ?_
      refine gb_nil (by decide +kernel) ?_
      exact ⟨(), (by repeat (first | exact trivial | refine ⟨rfl, ?_⟩)), sA, sS⟩
    · cases b1 with
      | false =>
        (repeat' (first | (refine gG ?_; try intro _) | (refine g_mv rfl ?_; first | refine mv_call_bel (fun w hk => g1 w (hk.rR (φ := catF (⟨nv, ng, nb, fl, ⟨vA, vm, vc⟩, V, ⟨gA, gm, gc⟩, G, ⟨bA, bm, bc⟩, B, ⟨kA, km, kd⟩, K, ⟨tA, tm, tc⟩, M⟩ : CatD)) mE)) rfl rfl rfl rfl rfl (by kernel_rfl) ?_) | ((first | refine g_split rfl rfl tE (fun _ => ?_) (fun _ => ?_) | refine gk_cond rfl rfl tE (fun _ => ?_) (fun _ => ?_)) <;> (try first | (exfalso; omega; done) | (rename_i hx; exact absurd rfl hx) | (rename_i hx; cases hx; done)))))
        refine gk_ret hT rfl rfl (.tmp rfl .nil) (fun w' hk => ?_)
        exact ⟨rfl, hk.toBelow⟩
      | true =>
        have hf := h1 rfl
        cases b2 with
        | false =>
          (repeat' (first | (refine gG ?_; try intro _) | (refine g_mv rfl ?_; first | refine mv_call_bel (fun w hk => g1 w (hk.rR (φ := catF (⟨nv, ng, nb, fl, ⟨vA, vm, vc⟩, V, ⟨gA, gm, gc⟩, G, ⟨bA, bm, bc⟩, B, ⟨kA, km, kd⟩, K, ⟨tA, tm, tc⟩, M⟩ : CatD)) mE)) rfl rfl rfl rfl rfl (by kernel_rfl) ?_ | refine mv_call_bel (fun w hk => g2 rfl w (hk.rR (φ := sl tA 2 ME M) mE)) rfl rfl rfl rfl rfl (by kernel_rfl) ?_) | ((first | refine g_split rfl rfl tE (fun _ => ?_) (fun _ => ?_) | refine gk_cond rfl rfl tE (fun _ => ?_) (fun _ => ?_)) <;> (try first | (exfalso; omega; done) | (rename_i hx; exact absurd rfl hx) | (rename_i hx; cases hx; done)))))
          refine gk_ret hT rfl rfl (.tmp rfl .nil) (fun w' hk => ?_)
          exact ⟨rfl, hk.toBelow⟩
        | true =>
          have hr := (h2 rfl).2
          cases b3 with
          | false =>
            (repeat' (first | (refine gG ?_; try intro _) | (refine g_mv rfl ?_; first | refine mv_call_bel (fun w hk => g1 w (hk.rR (φ := catF (⟨nv, ng, nb, fl, ⟨vA, vm, vc⟩, V, ⟨gA, gm, gc⟩, G, ⟨bA, bm, bc⟩, B, ⟨kA, km, kd⟩, K, ⟨tA, tm, tc⟩, M⟩ : CatD)) mE)) rfl rfl rfl rfl rfl (by kernel_rfl) ?_ | refine mv_call_bel (fun w hk => g2 rfl w (hk.rR (φ := sl tA 2 ME M) mE)) rfl rfl rfl rfl rfl (by kernel_rfl) ?_ | refine mv_call_bel (fun w hk => g3' rfl w (hk.rR (φ := catF (⟨nv, ng, nb, fl, ⟨vA, vm, vc⟩, V, ⟨gA, gm, gc⟩, G, ⟨bA, bm, bc⟩, B, ⟨kA, km, kd⟩, K, ⟨tA, tm, tc⟩, M⟩ : CatD)) mE)) rfl rfl rfl rfl rfl (by kernel_rfl) ?_) | ((first | refine g_split rfl rfl tE (fun _ => ?_) (fun _ => ?_) | refine gk_cond rfl rfl tE (fun _ => ?_) (fun _ => ?_)) <;> (try first | (exfalso; omega; done) | (rename_i hx; exact absurd rfl hx) | (rename_i hx; cases hx; done)))))
            refine gk_ret hT rfl rfl (.tmp rfl .nil) (fun w' hk => ?_)
            exact ⟨rfl, hk.toBelow⟩
          | true =>
            have hm := (h3 rfl).2
            (repeat' (first | (refine gG ?_; try intro _) | (refine g_mv rfl ?_; first | refine mv_call_bel (fun w hk => g1 w (hk.rR (φ := catF (⟨nv, ng, nb, fl, ⟨vA, vm, vc⟩, V, ⟨gA, gm, gc⟩, G, ⟨bA, bm, bc⟩, B, ⟨kA, km, kd⟩, K, ⟨tA, tm, tc⟩, M⟩ : CatD)) mE)) rfl rfl rfl rfl rfl (by kernel_rfl) ?_ | refine mv_call_bel (fun w hk => g2 rfl w (hk.rR (φ := sl tA 2 ME M) mE)) rfl rfl rfl rfl rfl (by kernel_rfl) ?_ | refine mv_call_bel (fun w hk => g3' rfl w (hk.rR (φ := catF (⟨nv, ng, nb, fl, ⟨vA, vm, vc⟩, V, ⟨gA, gm, gc⟩, G, ⟨bA, bm, bc⟩, B, ⟨kA, km, kd⟩, K, ⟨tA, tm, tc⟩, M⟩ : CatD)) mE)) rfl rfl rfl rfl rfl (by kernel_rfl) ?_) | ((first | refine g_split rfl rfl tE (fun _ => ?_) (fun _ => ?_) | refine gk_cond rfl rfl tE (fun _ => ?_) (fun _ => ?_)) <;> (try first | (exfalso; omega; done) | (rename_i hx; exact absurd rfl hx) | (rename_i hx; cases hx; done)))))
            refine g_mv rfl ?_; refine mv_call_rs (fun w hk => k5 hf hr w (hk.rR (φ := catF (⟨nv, ng, nb, fl, ⟨vA, vm, vc⟩, V, ⟨gA, gm, gc⟩, G, ⟨bA, bm, bc⟩, B, ⟨kA, km, kd⟩, K, ⟨tA, tm, tc⟩, M⟩ : CatD)) mE)) rfl rfl rfl rfl rfl (by kernel_rfl) sS (fun _ => rfl) (fun d hd hdn => ?_)
            obtain ⟨hdo, hdp⟩ := hd
            have e1 := hdfl d hdp
            have e2 := hdK d hdp
            have e3 := hdB d hdp
            have e4 := hdL d hdp (catF_few' (c := (⟨nv, ng, nb, fl, ⟨vA, vm, vc⟩, V, ⟨gA, gm, gc⟩, G, ⟨bA, bm, bc⟩, B, ⟨kA, km, kd⟩, K, ⟨tA, tm, tc⟩, M⟩ : CatD)) hf).M
            have e5 := hdm d hdp hm
            have hkn : d.k.n = d.K.length := hdo.k.n
            have hK9 : d.K.length ≤ 32 := by rw [e2]; exact hkl _
            have hb9 := hf.b
            have hM9 := (catF_few' (c := (⟨nv, ng, nb, fl, ⟨vA, vm, vc⟩, V, ⟨gA, gm, gc⟩, G, ⟨bA, bm, bc⟩, B, ⟨kA, km, kd⟩, K, ⟨tA, tm, tc⟩, M⟩ : CatD)) hf).M
            dsimp only at hM9
            (repeat (refine gG ?_; try intro _))
            rename_i g10
            refine gk_say 11 (.bool (tB (MarkN B vol seq 0))) rfl (congrArg Value.bool (tB_false mark_zero).symm) ?_
            refine gk_loop_sel (fun (q : Nat × Unit) => match q with | (j, u) => (j ≤ bm)) (fun (q : Nat × Unit) => match q with | (j, u) => [(3, .pointer (some ⟨g3, 0, none⟩)), (4, .pointer (some ⟨g4, 0, none⟩)), (7, .int .i64 vol), (8, .int .u64 seq), (9, .int .u64 last), (10, .pointer (some ⟨g10, 0, none⟩)), (11, .bool (tB (MarkN B vol seq j))), (12, .int .i64 (j : Int))]) (fun (q : Nat × Unit) => match q with | (j, u) => [blk g3 [.int .i64 nv, .int .i64 ng, .int .i64 nb, .int .u64 fl, .slice vA vm vc, .slice gA gm gc, .slice bA bm bc, .slice kA km kd, .slice tA tm tc] 67, blk g4 [.int .u64 now, .int .u64 window, .int .u64 ev] 69, blk g10 [.int .i64 d.nv, .int .i64 d.ng, .int .i64 d.nb, .int .u64 d.fl, .slice d.v.A d.v.n d.v.c, .slice d.g.A d.g.n d.g.c, .slice d.b.A d.b.n d.b.c, .slice d.k.A d.k.n d.k.c, .slice d.t.A d.t.n d.t.c] 67]) (fun (q : Nat × Unit) => match q with | (j, u) => [catF d, sl bA 3 BE B, allF B BokD.f]) (fun (q : Nat × Unit) => match q with | (j, u) => bm - j) (0, ()) rfl (Nat.zero_le _) (by repeat (first | exact trivial | refine ⟨rfl, ?_⟩)) sA sS ?_
            rintro ⟨j, u⟩ hI
            replace hI : (j ≤ bm) := hI
            change GK _ _ [(3, .pointer (some ⟨g3, 0, none⟩)), (4, .pointer (some ⟨g4, 0, none⟩)), (7, .int .i64 vol), (8, .int .u64 seq), (9, .int .u64 last), (10, .pointer (some ⟨g10, 0, none⟩)), (11, .bool (tB (MarkN B vol seq j))), (12, .int .i64 (j : Int))] [blk g3 [.int .i64 nv, .int .i64 ng, .int .i64 nb, .int .u64 fl, .slice vA vm vc, .slice gA gm gc, .slice bA bm bc, .slice kA km kd, .slice tA tm tc] 67, blk g4 [.int .u64 now, .int .u64 window, .int .u64 ev] 69, blk g10 [.int .i64 d.nv, .int .i64 d.ng, .int .i64 d.nb, .int .u64 d.fl, .slice d.v.A d.v.n d.v.c, .slice d.g.A d.g.n d.g.c, .slice d.b.A d.b.n d.b.c, .slice d.k.A d.k.n d.k.c, .slice d.t.A d.t.n d.t.c] 67] [catF d, sl bA 3 BE B, allF B BokD.f]
            by_cases hj : j < bm
            · obtain ⟨y, hy⟩ : ∃ y, B[j]? = some y := ⟨B[j], List.getElem?_eq_getElem (by omega)⟩
              have hyB := List.mem_of_getElem? hy
              have hyn : y.s.n = y.L.length := (hcB y hyB).n
              have hy9 := hM9 y hyB
              have hst := mark_step (vol := vol) (seq := seq) hy
              have d1 : Der [allF B BokD.f] (sl y.s.A 1 (IE .i64) y.L) := Der.elem (L := B) (F := BokD.f) (x := y) (.mem (.head _)) hyB
              refine gk_der [allF B BokD.f] d1 sS ?_
              refine gk_elem (A := bA) (enc := BE) (L := B) j mE (by omega) (by decide) (fun kb ko y' eA hy' => ?_)
              subst eA
              obtain rfl : y = y' := by rw [hy] at hy'; exact Option.some.inj hy'
              by_cases hs : MarkN B vol seq j
              · refine gk_say 11 (.bool true) rfl (congrArg Value.bool (tB_true hs)) ?_
                (repeat' (first | (refine gG ?_; try intro _) | ((first | refine g_split rfl rfl tE (fun _ => ?_) (fun _ => ?_) | refine gk_cond rfl rfl tE (fun _ => ?_) (fun _ => ?_)) <;> (try first | (exfalso; omega; done) | (rename_i hx; exact absurd rfl hx) | (rename_i hx; cases hx; done)))))
                refine gk_say 11 (.bool (tB (MarkN B vol seq (j + 1)))) rfl (congrArg Value.bool (tB_true (hst.2 (.inl hs))).symm) ?_
                refine gk_again_sel rfl (j + 1, ()) hj (by dsimp only; omega) (by repeat (first | exact trivial | refine ⟨rfl, ?_⟩)) sA sS
              · refine gk_say 11 (.bool false) rfl (congrArg Value.bool (tB_false hs)) ?_
                by_cases hq : y.q = seq
                · (repeat' (first | (refine gG ?_; try intro _) | ((first | refine g_split rfl rfl tE (fun _ => ?_) (fun _ => ?_) | refine gk_cond rfl rfl tE (fun _ => ?_) (fun _ => ?_)) <;> (try first | (exfalso; omega; done) | (rename_i hx; exact absurd rfl hx) | (rename_i hx; cases hx; done)))))
                  refine g_mv rfl ?_; refine mv_call_bel (fun w hk => cont_any y.s.A y.s.n y.s.c y.L vol w hyn (by rw [hyn]; unfold maxLen; omega) (hk.rR (φ := sl y.s.A 1 (IE .i64) y.L) mE)) rfl rfl rfl rfl rfl (by kernel_rfl) ?_
                  (repeat' (first | (refine gG ?_; try intro _) | ((first | refine g_split rfl rfl tE (fun _ => ?_) (fun _ => ?_) | refine gk_cond rfl rfl tE (fun _ => ?_) (fun _ => ?_)) <;> (try first | (exfalso; omega; done) | (rename_i hx; exact absurd rfl hx) | (rename_i hx; cases hx; done)))))
                  refine gk_say 11 (.bool (tB (MarkN B vol seq (j + 1)))) rfl (congrArg Value.bool (tB_congr (p := vol ∈ y.L) ⟨fun e => hst.2 (.inr ⟨hq, e⟩), fun e => ((hst.1 e).resolve_left hs).2⟩)) ?_
                  refine gk_again_sel rfl (j + 1, ()) hj (by dsimp only; omega) (by repeat (first | exact trivial | refine ⟨rfl, ?_⟩)) sA sS
                · (repeat' (first | (refine gG ?_; try intro _) | ((first | refine g_split rfl rfl tE (fun _ => ?_) (fun _ => ?_) | refine gk_cond rfl rfl tE (fun _ => ?_) (fun _ => ?_)) <;> (try first | (exfalso; omega; done) | (rename_i hx; exact absurd rfl hx) | (rename_i hx; cases hx; done)))))
                  refine gk_say 11 (.bool (tB (MarkN B vol seq (j + 1)))) rfl (congrArg Value.bool (tB_false (fun e => hq ((hst.1 e).resolve_left hs).1)).symm) ?_
                  refine gk_again_sel rfl (j + 1, ()) hj (by dsimp only; omega) (by repeat (first | exact trivial | refine ⟨rfl, ?_⟩)) sA sS
            · have hall := mark_all (vol := vol) (seq := seq) (B := B) (j := j) (by omega)
              have gm := fun (ha : d.fl ≤ seq ∨ ∃ b, b ∈ B ∧ b.q = seq ∧ vol ∈ b.L) w (hd : Rd1 w (catF d)) => calls_bl (tB_true (e5 ha)) (may_any d vol seq last w hdo (by omega) (by omega) e4 hd)
              dsimp only [CatD.val] at gm
              by_cases hM : MarkN B vol seq j
              · refine gk_say 11 (.bool true) rfl (congrArg Value.bool (tB_true hM)) ?_
                have gm2 := gm (.inr (hall.1 hM))
                by_cases hA : d.fl ≤ seq
                · by_cases hw : now < window
                  · have := hfw hw
                    (repeat' (first | (refine gG ?_; try intro _) | (refine g_mv rfl ?_; first | refine mv_call_bel (fun w hk => gm2 w (hk.rR (φ := catF d) mE)) rfl rfl rfl rfl rfl (by kernel_rfl) ?_ | refine mv_call_bel (fun w hk => alive24 w) rfl rfl rfl rfl rfl (by kernel_rfl) ?_) | ((first | refine g_split rfl rfl tE (fun _ => ?_) (fun _ => ?_) | refine gk_cond rfl rfl tE (fun _ => ?_) (fun _ => ?_)) <;> (try first | (exfalso; omega; done) | (rename_i hx; exact absurd rfl hx) | (rename_i hx; cases hx; done)))))
                    refine gk_ret hT rfl rfl (.tmp rfl .nil) (fun w' hk => ?_)
                    exact ⟨rfl, hk.toBelow⟩
                  · (repeat' (first | (refine gG ?_; try intro _) | (refine g_mv rfl ?_; first | refine mv_call_bel (fun w hk => gm2 w (hk.rR (φ := catF d) mE)) rfl rfl rfl rfl rfl (by kernel_rfl) ?_ | refine mv_call_bel (fun w hk => alive24 w) rfl rfl rfl rfl rfl (by kernel_rfl) ?_) | ((first | refine g_split rfl rfl tE (fun _ => ?_) (fun _ => ?_) | refine gk_cond rfl rfl tE (fun _ => ?_) (fun _ => ?_)) <;> (try first | (exfalso; omega; done) | (rename_i hx; exact absurd rfl hx) | (rename_i hx; cases hx; done)))))
                    refine gk_ret hT rfl rfl (.tmp rfl .nil) (fun w' hk => ?_)
                    exact ⟨rfl, hk.toBelow⟩
                · by_cases hw : now < window
                  · have := hfw hw
                    (repeat' (first | (refine gG ?_; try intro _) | (refine g_mv rfl ?_; first | refine mv_call_bel (fun w hk => gm2 w (hk.rR (φ := catF d) mE)) rfl rfl rfl rfl rfl (by kernel_rfl) ?_ | refine mv_call_bel (fun w hk => alive24 w) rfl rfl rfl rfl rfl (by kernel_rfl) ?_) | ((first | refine g_split rfl rfl tE (fun _ => ?_) (fun _ => ?_) | refine gk_cond rfl rfl tE (fun _ => ?_) (fun _ => ?_)) <;> (try first | (exfalso; omega; done) | (rename_i hx; exact absurd rfl hx) | (rename_i hx; cases hx; done)))))
                    refine gk_ret hT rfl rfl (.tmp rfl .nil) (fun w' hk => ?_)
                    exact ⟨rfl, hk.toBelow⟩
                  · (repeat' (first | (refine gG ?_; try intro _) | (refine g_mv rfl ?_; first | refine mv_call_bel (fun w hk => gm2 w (hk.rR (φ := catF d) mE)) rfl rfl rfl rfl rfl (by kernel_rfl) ?_ | refine mv_call_bel (fun w hk => alive24 w) rfl rfl rfl rfl rfl (by kernel_rfl) ?_) | ((first | refine g_split rfl rfl tE (fun _ => ?_) (fun _ => ?_) | refine gk_cond rfl rfl tE (fun _ => ?_) (fun _ => ?_)) <;> (try first | (exfalso; omega; done) | (rename_i hx; exact absurd rfl hx) | (rename_i hx; cases hx; done)))))
                    refine gk_ret hT rfl rfl (.tmp rfl .nil) (fun w' hk => ?_)
                    exact ⟨rfl, hk.toBelow⟩
              · refine gk_say 11 (.bool false) rfl (congrArg Value.bool (tB_false hM)) ?_
                by_cases hA : d.fl ≤ seq
                · have gm2 := gm (.inl hA)
                  by_cases hw : now < window
                  · have := hfw hw
                    (repeat' (first | (refine gG ?_; try intro _) | (refine g_mv rfl ?_; first | refine mv_call_bel (fun w hk => gm2 w (hk.rR (φ := catF d) mE)) rfl rfl rfl rfl rfl (by kernel_rfl) ?_ | refine mv_call_bel (fun w hk => alive24 w) rfl rfl rfl rfl rfl (by kernel_rfl) ?_) | ((first | refine g_split rfl rfl tE (fun _ => ?_) (fun _ => ?_) | refine gk_cond rfl rfl tE (fun _ => ?_) (fun _ => ?_)) <;> (try first | (exfalso; omega; done) | (rename_i hx; exact absurd rfl hx) | (rename_i hx; cases hx; done)))))
                    refine gk_ret hT rfl rfl (.tmp rfl .nil) (fun w' hk => ?_)
                    exact ⟨rfl, hk.toBelow⟩
                  · (repeat' (first | (refine gG ?_; try intro _) | (refine g_mv rfl ?_; first | refine mv_call_bel (fun w hk => gm2 w (hk.rR (φ := catF d) mE)) rfl rfl rfl rfl rfl (by kernel_rfl) ?_ | refine mv_call_bel (fun w hk => alive24 w) rfl rfl rfl rfl rfl (by kernel_rfl) ?_) | ((first | refine g_split rfl rfl tE (fun _ => ?_) (fun _ => ?_) | refine gk_cond rfl rfl tE (fun _ => ?_) (fun _ => ?_)) <;> (try first | (exfalso; omega; done) | (rename_i hx; exact absurd rfl hx) | (rename_i hx; cases hx; done)))))
                    refine gk_ret hT rfl rfl (.tmp rfl .nil) (fun w' hk => ?_)
                    exact ⟨rfl, hk.toBelow⟩
                · by_cases hw : now < window
                  · have := hfw hw
                    (repeat' (first | (refine gG ?_; try intro _) | (refine g_mv rfl ?_; first | refine mv_call_bel (fun w hk => alive24 w) rfl rfl rfl rfl rfl (by kernel_rfl) ?_) | ((first | refine g_split rfl rfl tE (fun _ => ?_) (fun _ => ?_) | refine gk_cond rfl rfl tE (fun _ => ?_) (fun _ => ?_)) <;> (try first | (exfalso; omega; done) | (rename_i hx; exact absurd rfl hx) | (rename_i hx; cases hx; done)))))
                    refine gk_ret hT rfl rfl (.tmp rfl .nil) (fun w' hk => ?_)
                    exact ⟨rfl, hk.toBelow⟩
                  · (repeat' (first | (refine gG ?_; try intro _) | (refine g_mv rfl ?_; first | refine mv_call_bel (fun w hk => alive24 w) rfl rfl rfl rfl rfl (by kernel_rfl) ?_) | ((first | refine g_split rfl rfl tE (fun _ => ?_) (fun _ => ?_) | refine gk_cond rfl rfl tE (fun _ => ?_) (fun _ => ?_)) <;> (try first | (exfalso; omega; done) | (rename_i hx; exact absurd rfl hx) | (rename_i hx; cases hx; done)))))
                    refine gk_ret hT rfl rfl (.tmp rfl .nil) (fun w' hk => ?_)
                    exact ⟨rfl, hk.toBelow⟩
  by_cases hf : FewP c.V c.G c.B c.K c.T
  · have hF := catF_few' hf
    by_cases hr : RightT c.T
    · have gm := fun w (hd : Rd1 w (catF c)) => may_any c (a0 % 6) seq last w hc (by have := hF.K; omega) (by have := hF.B; omega) (fun b hb => Nat.le_trans (hF.M b hb) (by decide)) hd
      exact main true true (tB (mayP c.V (ofP c.K (c.B.map BokD.d) (a0 % 6)) c.fl (a0 % 6) seq last)) (fun _ => hf) (fun _ => ⟨rfl, hr⟩) (fun h => ⟨rfl, tB_iff.1 h⟩) (fun w hd => calls_bl (tB_true hf) (few_any c w hc hd)) (fun _ w hd => calls_bl (tB_true hr) (rtright_any c.t.A c.t.n c.t.c c.T w htl (by have := hF.T; omega) hd)) (fun _ => gm)
    · exact main true false false (fun _ => hf) (fun h => by cases h) (fun h => by cases h) (fun w hd => calls_bl (tB_true hf) (few_any c w hc hd)) (fun _ w hd => calls_bl (tB_false hr) (rtright_any c.t.A c.t.n c.t.c c.T w htl (by have := hF.T; omega) hd)) (fun h => by cases h)
  · exact main false false false (fun h => by cases h) (fun h => by cases h) (fun h => by cases h) (fun w hd => calls_bl (tB_false hf) (few_any c w hc hd)) (fun h => by cases h) (fun h => by cases h)
end Go.Proofs.Ytgpfedmfbkhhcaa.Po

