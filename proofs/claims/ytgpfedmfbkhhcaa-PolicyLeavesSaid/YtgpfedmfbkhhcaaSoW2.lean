/- Sorting at a type: the pivot (uint64). -/
import Derived.Test.YtgpfedmfbkhhcaaSoW1
namespace Go.Proofs.Ytgpfedmfbkhhcaa.SoW
open Go.RowKit Mem Gx Hp Pq
set_option linter.unusedVariables false
set_option linter.unusedSimpArgs false
set_option maxRecDepth 100000
set_option maxHeartbeats 1000000
theorem q_ne {q g b : Nat} {T : TypeId} {vs : List Value} {L : List El} (hq : q ≠ g) (hb : (blk q vs T).S b) (hb2 : (sl (some ⟨g, 0, none⟩) 1 E L).S b) : False := by
  obtain ⟨_, a, ha, hab⟩ := hb2
  have h1 : b = q := hb
  cases ha
  exact hq (h1.symm.trans hab.symm)
theorem ord2_any (g n c q a b s : Nat) (L : List El) (w : World) (hn : L.length = n) (h9 : n ≤ 1000000) (ha : a < n) (hb : b < n) (hs : s ≤ 100) (hq : q ≠ g) (h : Rd1 w (blk q [.int .i64 ((s : Nat) : Int)] 3)) (hr : Rd1 w (sl (some ⟨g, 0, none⟩) 1 E L)) :
    Calls Try.prog 100 [.slice (some ⟨g, 0, none⟩) n c, .int .i64 (a : Int), .int .i64 (b : Int), .pointer (some ⟨q, 0, none⟩)].toArray w (RetM (blk q [.int .i64 ((s : Nat) : Int)] 3) (fun r : Nat × Nat × Nat => ((r.1 = a ∧ r.2.1 = b) ∨ (r.1 = b ∧ r.2.1 = a)) ∧ r.2.2 ≤ s + 1) (fun r => .tuple #[.int .i64 (r.1 : Int), .int .i64 (r.2.1 : Int)]) (fun r => blk q [.int .i64 ((r.2.2 : Nat) : Int)] 3) w) := by
  refine g_enter0 T (finE (blk q [.int .i64 ((s : Nat) : Int)] 3) w) [blk q [.int .i64 ((s : Nat) : Int)] 3] [sl (some ⟨g, 0, none⟩) 1 E L] Try.func100 rfl Try.ntmps100 rfl (Kn.startM h (fun b hb => (finE_mem h.2 b).2 hb) (fun ψ hψ => by obtain rfl := List.mem_singleton.1 hψ; exact ⟨hr, fun b hb hb2 => q_ne hq hb hb2⟩)) ?_
  (repeat (refine gG ?_; try intro _))
  obtain ⟨x, hx⟩ : ∃ x, L[a]? = some x := ⟨_, List.getElem?_eq_getElem (by omega)⟩
  obtain ⟨y, hy⟩ : ∃ y, L[b]? = some y := ⟨_, List.getElem?_eq_getElem (by omega)⟩
  by_cases hl : lt y x
  · skip
    refine gk_any [1] (Cut _ (fun _ : Unit => [(0, .slice (some ⟨g, 0, none⟩) n c), (1, (.int .i64 (a : Int))), (2, (.int .i64 (b : Int))), (3, .pointer (some ⟨q, 0, none⟩)), (8, (.int .i64 0)), (9, (.int .i64 0)), (18, .bool true)]) (fun _ => [blk q [.int .i64 ((s : Nat) : Int)] 3]) (fun _ => [sl (some ⟨g, 0, none⟩) 1 E L])) rfl rfl (by kernel_rfl) ?_ (cut_k fun _ => ?_)
    · skip
      refine gb_take 0 rfl (by decide +kernel) rfl rfl (ys_ev (nw := true) hT rfl sI) sF ?_
      refine gb_take 1 rfl (by decide +kernel) rfl rfl (ys_ev (nw := true) hT rfl sI) sF ?_
      refine gb_take 2 rfl (by decide +kernel) rfl rfl (ys_ev (nw := true) hT rfl sI) sF ?_
      refine gb_take 3 rfl (by decide +kernel) rfl rfl (ys_load_el (S := [sl (some ⟨g, 0, none⟩) 1 E (L)]) (o0 := 0) (sz := 1) (enc := E) (L := L) hT (b) y 0 rfl rfl rfl (by first | rfl | omega) hy (at_sl mE) rfl rfl) sF ?_
      refine gb_take 4 rfl (by decide +kernel) rfl rfl (ys_ev (nw := true) hT rfl sI) sF ?_
      refine gb_take 5 rfl (by decide +kernel) rfl rfl (ys_ev (nw := true) hT rfl sI) sF ?_
      refine gb_take 6 rfl (by decide +kernel) rfl rfl (ys_ev (nw := true) hT rfl sI) sF ?_
      refine gb_take 7 rfl (by decide +kernel) rfl rfl (ys_load_el (S := [sl (some ⟨g, 0, none⟩) 1 E (L)]) (o0 := 0) (sz := 1) (enc := E) (L := L) hT (a) x 0 rfl rfl rfl (by first | rfl | omega) hx (at_sl mE) rfl rfl) sF ?_
      refine gb_only 8 (by decide +kernel) rfl rfl ?_
      refine mv_call_bel (fun w hk => less_any y x w) rfl rfl rfl rfl rfl (by kernel_rfl) ?_
      refine ⟨sF, ?_⟩
      try (refine gb_say 18 (.bool true) rfl (congrArg Value.bool (tB_true hl)) ?_)
      refine gb_nil (by decide +kernel) ?_
      exact ⟨(), (by repeat (first | exact trivial | refine ⟨rfl, ?_⟩)), sA, sS⟩
    · (repeat (refine gG ?_; try intro _))
      refine gk_ret hT rfl rfl (.tmp rfl (.tmp rfl .nil)) (fun w' hk => ?_)
      exact RetM.mk ((b, a, s + 1) : Nat × Nat × Nat) ⟨.inr ⟨rfl, rfl⟩, Nat.le_refl _⟩ rfl hk (fun b hb => (finE_mem h.2 b).1 hb) mE
  · skip
    refine gk_any [1] (Cut _ (fun _ : Unit => [(0, .slice (some ⟨g, 0, none⟩) n c), (1, (.int .i64 (a : Int))), (2, (.int .i64 (b : Int))), (3, .pointer (some ⟨q, 0, none⟩)), (8, (.int .i64 0)), (9, (.int .i64 0)), (18, .bool false)]) (fun _ => [blk q [.int .i64 ((s : Nat) : Int)] 3]) (fun _ => [sl (some ⟨g, 0, none⟩) 1 E L])) rfl rfl (by kernel_rfl) ?_ (cut_k fun _ => ?_)
    · skip
      refine gb_take 0 rfl (by decide +kernel) rfl rfl (ys_ev (nw := true) hT rfl sI) sF ?_
      refine gb_take 1 rfl (by decide +kernel) rfl rfl (ys_ev (nw := true) hT rfl sI) sF ?_
      refine gb_take 2 rfl (by decide +kernel) rfl rfl (ys_ev (nw := true) hT rfl sI) sF ?_
      refine gb_take 3 rfl (by decide +kernel) rfl rfl (ys_load_el (S := [sl (some ⟨g, 0, none⟩) 1 E (L)]) (o0 := 0) (sz := 1) (enc := E) (L := L) hT (b) y 0 rfl rfl rfl (by first | rfl | omega) hy (at_sl mE) rfl rfl) sF ?_
      refine gb_take 4 rfl (by decide +kernel) rfl rfl (ys_ev (nw := true) hT rfl sI) sF ?_
      refine gb_take 5 rfl (by decide +kernel) rfl rfl (ys_ev (nw := true) hT rfl sI) sF ?_
      refine gb_take 6 rfl (by decide +kernel) rfl rfl (ys_ev (nw := true) hT rfl sI) sF ?_
      refine gb_take 7 rfl (by decide +kernel) rfl rfl (ys_load_el (S := [sl (some ⟨g, 0, none⟩) 1 E (L)]) (o0 := 0) (sz := 1) (enc := E) (L := L) hT (a) x 0 rfl rfl rfl (by first | rfl | omega) hx (at_sl mE) rfl rfl) sF ?_
      refine gb_only 8 (by decide +kernel) rfl rfl ?_
      refine mv_call_bel (fun w hk => less_any y x w) rfl rfl rfl rfl rfl (by kernel_rfl) ?_
      refine ⟨sF, ?_⟩
      try (refine gb_say 18 (.bool false) rfl (congrArg Value.bool (tB_false hl)) ?_)
      refine gb_nil (by decide +kernel) ?_
      exact ⟨(), (by repeat (first | exact trivial | refine ⟨rfl, ?_⟩)), sA, sS⟩
    · (repeat (refine gG ?_; try intro _))
      refine gk_ret hT rfl rfl (.tmp rfl (.tmp rfl .nil)) (fun w' hk => ?_)
      exact RetM.mk ((a, b, s) : Nat × Nat × Nat) ⟨.inl ⟨rfl, rfl⟩, Nat.le_succ _⟩ rfl hk (fun b hb => (finE_mem h.2 b).1 hb) mE
theorem med_any (g n c q a b d s : Nat) (L : List El) (w : World) (hn : L.length = n) (h9 : n ≤ 1000000) (ha : a < n) (hb : b < n) (hd : d < n) (hs : s ≤ 50) (hq : q ≠ g) (h : Rd1 w (blk q [.int .i64 ((s : Nat) : Int)] 3)) (hr : Rd1 w (sl (some ⟨g, 0, none⟩) 1 E L)) :
    Calls Try.prog 98 [.slice (some ⟨g, 0, none⟩) n c, .int .i64 (a : Int), .int .i64 (b : Int), .int .i64 (d : Int), .pointer (some ⟨q, 0, none⟩)].toArray w (RetM (blk q [.int .i64 ((s : Nat) : Int)] 3) (fun r : Nat × Nat => (r.1 = a ∨ r.1 = b ∨ r.1 = d) ∧ r.2 ≤ s + 3) (fun r => .int .i64 (r.1 : Int)) (fun r => blk q [.int .i64 ((r.2 : Nat) : Int)] 3) w) := by
  refine g_enter0 T (finE (blk q [.int .i64 ((s : Nat) : Int)] 3) w) [blk q [.int .i64 ((s : Nat) : Int)] 3] [sl (some ⟨g, 0, none⟩) 1 E L] Try.func98 rfl Try.ntmps98 rfl (Kn.startM h (fun b hb => (finE_mem h.2 b).2 hb) (fun ψ hψ => by obtain rfl := List.mem_singleton.1 hψ; exact ⟨hr, fun b hb hb2 => q_ne hq hb hb2⟩)) ?_
  (repeat (refine gG ?_; try intro _))
  refine g_mv rfl (mv_call_mod (φ := blk q [.int .i64 ((s : Nat) : Int)] 3) (ψ := fun r : Nat × Nat × Nat => blk q [.int .i64 ((r.2.2 : Nat) : Int)] 3) (fun w1 hk => by exact ord2_any g n c q a b s L w1 hn h9 ha hb (by omega) hq (hk.rO (φ := blk q [.int .i64 ((s : Nat) : Int)] 3) mE) (hk.rR (φ := sl (some ⟨g, 0, none⟩) 1 E L) mE)) rfl rfl rfl rfl rfl (by kernel_rfl) (by intro _; first | ((repeat (first | with_reducible exact Upd.here _ | with_reducible apply Upd.there)); done) | ((repeat (first | exact Upd.here _ | apply Upd.there)); done) | fail) (fun r1 k1 => ?_))
  obtain ⟨x1, y1, s1⟩ := r1
  dsimp only at k1 ⊢
  (repeat (refine gG ?_; try intro _))
  refine g_mv rfl (mv_call_mod (φ := blk q [.int .i64 ((s1 : Nat) : Int)] 3) (ψ := fun r : Nat × Nat × Nat => blk q [.int .i64 ((r.2.2 : Nat) : Int)] 3) (fun w1 hk => by exact ord2_any g n c q y1 d s1 L w1 hn h9 (by omega) hd (by omega) hq (hk.rO (φ := blk q [.int .i64 ((s1 : Nat) : Int)] 3) mE) (hk.rR (φ := sl (some ⟨g, 0, none⟩) 1 E L) mE)) rfl rfl rfl rfl rfl (by kernel_rfl) (by intro _; first | ((repeat (first | with_reducible exact Upd.here _ | with_reducible apply Upd.there)); done) | ((repeat (first | exact Upd.here _ | apply Upd.there)); done) | fail) (fun r2 k2 => ?_))
  obtain ⟨x2, y2, s2⟩ := r2
  dsimp only at k2 ⊢
  (repeat (refine gG ?_; try intro _))
  refine g_mv rfl (mv_call_mod (φ := blk q [.int .i64 ((s2 : Nat) : Int)] 3) (ψ := fun r : Nat × Nat × Nat => blk q [.int .i64 ((r.2.2 : Nat) : Int)] 3) (fun w1 hk => by exact ord2_any g n c q x1 x2 s2 L w1 hn h9 (by omega) (by omega) (by omega) hq (hk.rO (φ := blk q [.int .i64 ((s2 : Nat) : Int)] 3) mE) (hk.rR (φ := sl (some ⟨g, 0, none⟩) 1 E L) mE)) rfl rfl rfl rfl rfl (by kernel_rfl) (by intro _; first | ((repeat (first | with_reducible exact Upd.here _ | with_reducible apply Upd.there)); done) | ((repeat (first | exact Upd.here _ | apply Upd.there)); done) | fail) (fun r3 k3 => ?_))
  obtain ⟨x3, y3, s3⟩ := r3
  dsimp only at k3 ⊢
  (repeat (refine gG ?_; try intro _))
  refine gk_ret hT rfl rfl (.tmp rfl .nil) (fun w' hk => ?_)
  exact RetM.mk ((y3, s3) : Nat × Nat) ⟨by dsimp only; omega, by dsimp only; omega⟩ rfl hk (fun b hb => (finE_mem h.2 b).1 hb) mE
theorem medA_any (g n c q a s : Nat) (L : List El) (w : World) (hn : L.length = n) (h9 : n ≤ 1000000) (ha : 1 ≤ a) (hb : a + 1 < n) (hs : s ≤ 50) (hq : q ≠ g) (h : Rd1 w (blk q [.int .i64 ((s : Nat) : Int)] 3)) (hr : Rd1 w (sl (some ⟨g, 0, none⟩) 1 E L)) :
    Calls Try.prog 97 [.slice (some ⟨g, 0, none⟩) n c, .int .i64 (a : Int), .pointer (some ⟨q, 0, none⟩)].toArray w (RetM (blk q [.int .i64 ((s : Nat) : Int)] 3) (fun r : Nat × Nat => (a ≤ r.1 + 1 ∧ r.1 ≤ a + 1) ∧ r.2 ≤ s + 3) (fun r => .int .i64 (r.1 : Int)) (fun r => blk q [.int .i64 ((r.2 : Nat) : Int)] 3) w) := by
  refine g_enter0 T (finE (blk q [.int .i64 ((s : Nat) : Int)] 3) w) [blk q [.int .i64 ((s : Nat) : Int)] 3] [sl (some ⟨g, 0, none⟩) 1 E L] Try.func97 rfl Try.ntmps97 rfl (Kn.startM h (fun b hb => (finE_mem h.2 b).2 hb) (fun ψ hψ => by obtain rfl := List.mem_singleton.1 hψ; exact ⟨hr, fun b hb hb2 => q_ne hq hb hb2⟩)) ?_
  (repeat (refine gG ?_; try intro _))
  refine g_say 9 (.int .i64 ((a - 1 : Nat) : Int)) rfl (by first | (congr 1; done) | (congr 1; omega)) ?_
  refine g_say 12 (.int .i64 ((a + 1 : Nat) : Int)) rfl (by first | (congr 1; done) | (congr 1; omega)) ?_
  refine g_mv rfl (mv_call_mod (φ := blk q [.int .i64 ((s : Nat) : Int)] 3) (ψ := fun r : Nat × Nat => blk q [.int .i64 ((r.2 : Nat) : Int)] 3) (fun w1 hk => by exact med_any g n c q (a - 1) a (a + 1) s L w1 hn h9 (by omega) (by omega) (by omega) hs hq (hk.rO (φ := blk q [.int .i64 ((s : Nat) : Int)] 3) mE) (hk.rR (φ := sl (some ⟨g, 0, none⟩) 1 E L) mE)) rfl rfl rfl rfl rfl (by kernel_rfl) (by intro _; first | ((repeat (first | with_reducible exact Upd.here _ | with_reducible apply Upd.there)); done) | ((repeat (first | exact Upd.here _ | apply Upd.there)); done) | fail) (fun r1 k1 => ?_))
  obtain ⟨x1, s1⟩ := r1
  dsimp only at k1 ⊢
  (repeat (refine gG ?_; try intro _))
  refine gk_ret hT rfl rfl (.tmp rfl .nil) (fun w' hk => ?_)
  exact RetM.mk ((x1, s1) : Nat × Nat) ⟨by dsimp only; omega, by dsimp only; omega⟩ rfl hk (fun b hb => (finE_mem h.2 b).1 hb) mE
theorem piv_q {E0 : List Nat} {w0 w : World} {O R : List Fact} {q g : Nat} {T : TypeId} {vs : List Value} {L : List El} (hL : 0 < L.length) (hk : Kn E0 w0 w O R) (h1 : blk q vs T ∈ O) (h2 : sl (some ⟨g, 0, none⟩) 1 E L ∈ R) : q ≠ g := fun e => hk.disR _ h1 _ h2 q rfl ⟨hL, _, rfl, by rw [e]⟩
theorem piv_any (g n c a b : Nat) (L : List El) (w : World) (hn : L.length = n) (h9 : n ≤ 1000000) (hab : a < b) (hb : b ≤ n) (h : Rd1 w (sl (some ⟨g, 0, none⟩) 1 E L)) :
    Calls Try.prog 86 [.slice (some ⟨g, 0, none⟩) n c, .int .i64 (a : Int), .int .i64 (b : Int)].toArray w (Ret (fun r : Nat × Nat => (a ≤ r.1 ∧ r.1 < b) ∧ r.2 ≤ 2) (fun r => .tuple #[.int .i64 (r.1 : Int), .int .i64 (r.2 : Int)]) (fun _ => []) w) := by
  refine g_enter0 T [] [] [sl (some ⟨g, 0, none⟩) 1 E L] Try.func86 rfl Try.ntmps86 rfl (Rds.cons h .nil).kn ?_
  (repeat (refine gG ?_; try intro _))
  rename_i q
  refine gk_say 8 (.int .i64 ((b - a : Nat) : Int)) rfl (by first | (congr 1; done) | (congr 1; omega)) ?_
  refine gk_say 10 (.int .i64 ((a + (b - a) / 4 : Nat) : Int)) rfl (by first | (congr 1; done) | (congr 1; omega)) ?_
  refine gk_say 11 (.int .i64 ((a + (b - a) / 4 * 2 : Nat) : Int)) rfl (by first | (congr 1; done) | (congr 1; omega)) ?_
  refine gk_say 12 (.int .i64 ((a + (b - a) / 4 * 3 : Nat) : Int)) rfl (by first | (congr 1; done) | (congr 1; omega)) ?_
  by_cases h8 : 8 ≤ b - a
  · by_cases h50 : 50 ≤ b - a
    · (repeat' (first | (refine gG ?_; try intro _) | ((first | refine g_split rfl rfl tE (fun _ => ?_) (fun _ => ?_) | refine gk_cond rfl rfl tE (fun _ => ?_) (fun _ => ?_)) <;> (try first | (exfalso; omega; done) | (rename_i hx; exact absurd rfl hx) | (rename_i hx; cases hx; done)))))
      refine g_mv rfl (mv_call_mod (φ := blk q [.int .i64 ((0 : Nat) : Int)] 3) (ψ := fun r : Nat × Nat => blk q [.int .i64 ((r.2 : Nat) : Int)] 3) (fun w1 hk => by exact medA_any g n c q (a + (b - a) / 4) 0 L w1 hn h9 (by omega) (by omega) (by omega) (piv_q (L := L) (vs := [.int .i64 ((0 : Nat) : Int)]) (T := 3) (by omega) hk mE mE) (hk.rO (φ := blk q [.int .i64 ((0 : Nat) : Int)] 3) mE) (hk.rR (φ := sl (some ⟨g, 0, none⟩) 1 E L) mE)) rfl rfl rfl rfl rfl (by kernel_rfl) (by intro _; first | ((repeat (first | with_reducible exact Upd.here _ | with_reducible apply Upd.there)); done) | ((repeat (first | exact Upd.here _ | apply Upd.there)); done) | fail) (fun r1 k1 => ?_))
      obtain ⟨x1, s1⟩ := r1
      dsimp only at k1 ⊢
      (repeat (refine gG ?_; try intro _))
      refine g_mv rfl (mv_call_mod (φ := blk q [.int .i64 ((s1 : Nat) : Int)] 3) (ψ := fun r : Nat × Nat => blk q [.int .i64 ((r.2 : Nat) : Int)] 3) (fun w1 hk => by exact medA_any g n c q (a + (b - a) / 4 * 2) s1 L w1 hn h9 (by omega) (by omega) (by omega) (piv_q (L := L) (vs := [.int .i64 ((s1 : Nat) : Int)]) (T := 3) (by omega) hk mE mE) (hk.rO (φ := blk q [.int .i64 ((s1 : Nat) : Int)] 3) mE) (hk.rR (φ := sl (some ⟨g, 0, none⟩) 1 E L) mE)) rfl rfl rfl rfl rfl (by kernel_rfl) (by intro _; first | ((repeat (first | with_reducible exact Upd.here _ | with_reducible apply Upd.there)); done) | ((repeat (first | exact Upd.here _ | apply Upd.there)); done) | fail) (fun r2 k2 => ?_))
      obtain ⟨x2, s2⟩ := r2
      dsimp only at k2 ⊢
      (repeat (refine gG ?_; try intro _))
      refine g_mv rfl (mv_call_mod (φ := blk q [.int .i64 ((s2 : Nat) : Int)] 3) (ψ := fun r : Nat × Nat => blk q [.int .i64 ((r.2 : Nat) : Int)] 3) (fun w1 hk => by exact medA_any g n c q (a + (b - a) / 4 * 3) s2 L w1 hn h9 (by omega) (by omega) (by omega) (piv_q (L := L) (vs := [.int .i64 ((s2 : Nat) : Int)]) (T := 3) (by omega) hk mE mE) (hk.rO (φ := blk q [.int .i64 ((s2 : Nat) : Int)] 3) mE) (hk.rR (φ := sl (some ⟨g, 0, none⟩) 1 E L) mE)) rfl rfl rfl rfl rfl (by kernel_rfl) (by intro _; first | ((repeat (first | with_reducible exact Upd.here _ | with_reducible apply Upd.there)); done) | ((repeat (first | exact Upd.here _ | apply Upd.there)); done) | fail) (fun r3 k3 => ?_))
      obtain ⟨x3, s3⟩ := r3
      dsimp only at k3 ⊢
      (repeat (refine gG ?_; try intro _))
      refine g_mv rfl (mv_call_mod (φ := blk q [.int .i64 ((s3 : Nat) : Int)] 3) (ψ := fun r : Nat × Nat => blk q [.int .i64 ((r.2 : Nat) : Int)] 3) (fun w1 hk => by exact med_any g n c q x1 x2 x3 s3 L w1 hn h9 (by omega) (by omega) (by omega) (by omega) (piv_q (L := L) (vs := [.int .i64 ((s3 : Nat) : Int)]) (T := 3) (by omega) hk mE mE) (hk.rO (φ := blk q [.int .i64 ((s3 : Nat) : Int)] 3) mE) (hk.rR (φ := sl (some ⟨g, 0, none⟩) 1 E L) mE)) rfl rfl rfl rfl rfl (by kernel_rfl) (by intro _; first | ((repeat (first | with_reducible exact Upd.here _ | with_reducible apply Upd.there)); done) | ((repeat (first | exact Upd.here _ | apply Upd.there)); done) | fail) (fun r4 k4 => ?_))
      obtain ⟨x4, s4⟩ := r4
      dsimp only at k4 ⊢
      (repeat' (first | (refine gG ?_; try intro _) | ((first | refine g_split rfl rfl tE (fun _ => ?_) (fun _ => ?_) | refine gk_cond rfl rfl tE (fun _ => ?_) (fun _ => ?_)) <;> (try first | (exfalso; omega; done) | (rename_i hx; exact absurd rfl hx) | (rename_i hx; cases hx; done)))))
      all_goals (refine gk_ret hT rfl rfl (.tmp rfl (.tmp rfl .nil)) (fun w' hk => ?_); first | exact Ret.mk ((x4, 1) : Nat × Nat) ⟨by dsimp only; omega, by dsimp only; omega⟩ rfl hk sA | exact Ret.mk ((x4, 2) : Nat × Nat) ⟨by dsimp only; omega, by dsimp only; omega⟩ rfl hk sA | exact Ret.mk ((x4, 0) : Nat × Nat) ⟨by dsimp only; omega, by dsimp only; omega⟩ rfl hk sA)
    · (repeat' (first | (refine gG ?_; try intro _) | ((first | refine g_split rfl rfl tE (fun _ => ?_) (fun _ => ?_) | refine gk_cond rfl rfl tE (fun _ => ?_) (fun _ => ?_)) <;> (try first | (exfalso; omega; done) | (rename_i hx; exact absurd rfl hx) | (rename_i hx; cases hx; done)))))
      refine g_mv rfl (mv_call_mod (φ := blk q [.int .i64 ((0 : Nat) : Int)] 3) (ψ := fun r : Nat × Nat => blk q [.int .i64 ((r.2 : Nat) : Int)] 3) (fun w1 hk => by exact med_any g n c q (a + (b - a) / 4) (a + (b - a) / 4 * 2) (a + (b - a) / 4 * 3) 0 L w1 hn h9 (by omega) (by omega) (by omega) (by omega) (piv_q (L := L) (vs := [.int .i64 ((0 : Nat) : Int)]) (T := 3) (by omega) hk mE mE) (hk.rO (φ := blk q [.int .i64 ((0 : Nat) : Int)] 3) mE) (hk.rR (φ := sl (some ⟨g, 0, none⟩) 1 E L) mE)) rfl rfl rfl rfl rfl (by kernel_rfl) (by intro _; first | ((repeat (first | with_reducible exact Upd.here _ | with_reducible apply Upd.there)); done) | ((repeat (first | exact Upd.here _ | apply Upd.there)); done) | fail) (fun r4 k4 => ?_))
      obtain ⟨x4, s4⟩ := r4
      dsimp only at k4 ⊢
      (repeat' (first | (refine gG ?_; try intro _) | ((first | refine g_split rfl rfl tE (fun _ => ?_) (fun _ => ?_) | refine gk_cond rfl rfl tE (fun _ => ?_) (fun _ => ?_)) <;> (try first | (exfalso; omega; done) | (rename_i hx; exact absurd rfl hx) | (rename_i hx; cases hx; done)))))
      all_goals (refine gk_ret hT rfl rfl (.tmp rfl (.tmp rfl .nil)) (fun w' hk => ?_); first | exact Ret.mk ((x4, 1) : Nat × Nat) ⟨by dsimp only; omega, by dsimp only; omega⟩ rfl hk sA | exact Ret.mk ((x4, 2) : Nat × Nat) ⟨by dsimp only; omega, by dsimp only; omega⟩ rfl hk sA | exact Ret.mk ((x4, 0) : Nat × Nat) ⟨by dsimp only; omega, by dsimp only; omega⟩ rfl hk sA)
  · (repeat' (first | (refine gG ?_; try intro _) | ((first | refine g_split rfl rfl tE (fun _ => ?_) (fun _ => ?_) | refine gk_cond rfl rfl tE (fun _ => ?_) (fun _ => ?_)) <;> (try first | (exfalso; omega; done) | (rename_i hx; exact absurd rfl hx) | (rename_i hx; cases hx; done)))))
    all_goals (refine gk_ret hT rfl rfl (.tmp rfl (.tmp rfl .nil)) (fun w' hk => ?_); first | exact Ret.mk (((a + (b - a) / 4 * 2), 1) : Nat × Nat) ⟨by dsimp only; omega, by dsimp only; omega⟩ rfl hk sA | exact Ret.mk (((a + (b - a) / 4 * 2), 2) : Nat × Nat) ⟨by dsimp only; omega, by dsimp only; omega⟩ rfl hk sA | exact Ret.mk (((a + (b - a) / 4 * 2), 0) : Nat × Nat) ⟨by dsimp only; omega, by dsimp only; omega⟩ rfl hk sA)
end Go.Proofs.Ytgpfedmfbkhhcaa.SoW

