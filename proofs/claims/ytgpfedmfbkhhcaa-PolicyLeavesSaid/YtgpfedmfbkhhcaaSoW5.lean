/- Sorting at a type: patterns broken, the whole (uint64). -/
import Derived.Test.YtgpfedmfbkhhcaaSoW2
import Derived.Test.YtgpfedmfbkhhcaaSoW3
import Derived.Test.YtgpfedmfbkhhcaaSoW4
import Derived.Test.YtgpfedmfbkhhcaaSoB
namespace Go.Proofs.Ytgpfedmfbkhhcaa.SoW
open Go.RowKit Mem Gx Hp Pq SoB
set_option linter.unusedVariables false
set_option linter.unusedSimpArgs false
set_option maxRecDepth 100000
set_option maxHeartbeats 1000000
theorem rd_own {α : Type} [Inhabited α] {base e sz n c : Nat} {A : Option Addr} {enc : α → Nat → Value} {L : List α} {w : World} (h : Rd1 w (own base e sz (.slice A n c) enc L)) : Rd1 w (sl A sz enc L) := by
  obtain ⟨A', c', e1, _, _, _, h2⟩ := own_rdv h
  injection e1 with e1
  subst e1
  exact h2
theorem and_rng (x : Int) (m : Nat) (hx : 0 ≤ x ∧ x ≤ 18446744073709551615) (h0 : 1 ≤ m) (h9 : m ≤ 2000001) : ∃ o : Nat, bits .and .u64 x ((m : Int) - 1) = (o : Int) ∧ o ≤ m - 1 := by
  refine ⟨_, u64_and x ((m : Int) - 1) hx.1 (by omega) (by omega) (by omega), ?_⟩
  have e : ((m : Int) - 1).toNat = m - 1 := by omega
  rw [e]
  exact Nat.and_le_right
theorem brk_any (g n c a b : Nat) (L : List El) (w : World) (hn : L.length = n) (h9 : n ≤ 1000000) (hab : a + 8 ≤ b) (hb : b ≤ n) (h : Rd1 w (rF g n c L)) :
    Calls Try.prog 85 [.slice (some ⟨g, 0, none⟩) n c, .int .i64 (a : Int), .int .i64 (b : Int)].toArray w (RetM (rF g n c L) (fun L' : List El => Seg a b L L') (fun _ => .tuple #[]) (fun L' => rF g n c L') w) := by
  refine g_enter0 T (finE (rF g n c L) w) [rF g n c L] [] Try.func85 rfl Try.ntmps85 rfl (Kn.startM h (fun b hb => (finE_mem h.2 b).2 hb) (fun ψ hψ => by cases hψ)) ?_
  (repeat (refine gG ?_; try intro _))
  refine gk_cond_t rfl (congrArg some (congrArg Value.bool (tB_true (by omega)))) ?_
  (repeat (refine gG ?_; try intro _))
  rename_i qb
  refine g_say 18 (.int .i64 ((b - a : Nat) : Int)) rfl (by first | (congr 1; done) | (congr 1; omega)) ?_
  refine g_mv rfl ?_; refine mv_call_rt (fun w hk => nextp_any (b - a) w (by omega) (by omega)) rfl rfl rfl rfl rfl (by kernel_rfl) (fun _ => rfl) (fun m hm => ?_)
  (repeat (refine gG ?_; try intro _))
  refine gk_say 6 (.int .i64 ((b - a : Nat) : Int)) rfl (by first | (congr 1; done) | (congr 1; omega)) ?_
  refine gk_say 9 (.int .i64 ((a + (b - a) / 4 * 2 - 1 : Nat) : Int)) rfl (by first | (congr 1; done) | (congr 1; omega)) ?_
  have hx0 : (0 : Int) ≤ (b : Int) - (a : Int) ∧ (b : Int) - (a : Int) ≤ 18446744073709551615 := by omega
  refine gk_loop_sel (fun (q : Nat × W64 × (List El)) => match q with | (i, x, L1) => (a ≤ i ∧ i ≤ a + (b - a) / 4 * 2 + 2 ∧ Seg a b L L1)) (fun (q : Nat × W64 × (List El)) => match q with | (i, x, L1) => [(0, .slice (some ⟨g, 0, none⟩) n c), (1, (.int .i64 (a : Int))), (2, (.int .i64 (b : Int))), (6, (.int .i64 ((b - a : Nat) : Int))), (7, .pointer (some ⟨qb, 0, none⟩)), (8, (.int .u64 (m : Int))), (9, (.int .i64 (i : Int)))]) (fun (q : Nat × W64 × (List El)) => match q with | (i, x, L1) => [blk qb [.int .u64 x.1] 158, rF g n c L1]) (fun (q : Nat × W64 × (List El)) => match q with | (i, x, L1) => []) (fun (q : Nat × W64 × (List El)) => match q with | (i, x, L1) => a + (b - a) / 4 * 2 + 2 - i) (a + (b - a) / 4 * 2 - 1, ⟨(b : Int) - (a : Int), hx0⟩, L) rfl ⟨by omega, by omega, .refl _ _ _⟩ (by repeat (first | exact trivial | refine ⟨rfl, ?_⟩)) sA sS ?_
  rintro ⟨i, x, L1⟩ hI
  replace hI : (a ≤ i ∧ i ≤ a + (b - a) / 4 * 2 + 2 ∧ Seg a b L L1) := hI
  change GK _ _ [(0, .slice (some ⟨g, 0, none⟩) n c), (1, (.int .i64 (a : Int))), (2, (.int .i64 (b : Int))), (6, (.int .i64 ((b - a : Nat) : Int))), (7, .pointer (some ⟨qb, 0, none⟩)), (8, (.int .u64 (m : Int))), (9, (.int .i64 (i : Int)))] [blk qb [.int .u64 x.1] 158, rF g n c L1] []
  obtain ⟨i1, i2, hs⟩ := hI
  have hl1 := hs.len
  by_cases hi : i ≤ a + (b - a) / 4 * 2 + 1
  · (repeat' (first | (refine gG ?_; try intro _) | ((first | refine g_split rfl rfl tE (fun _ => ?_) (fun _ => ?_) | refine gk_cond rfl rfl tE (fun _ => ?_) (fun _ => ?_)) <;> (try first | (exfalso; omega; done) | (rename_i hx; exact absurd rfl hx) | (rename_i hx; cases hx; done)))))
    refine g_mv rfl (mv_call_mod (φ := blk qb [.int .u64 x.1] 158) (ψ := fun r : W64 => blk qb [.int .u64 r.1] 158) (fun w1 hk => by exact next_any qb x.1 w1 x.2 (hk.rO (φ := blk qb [.int .u64 x.1] 158) mE)) rfl rfl rfl rfl rfl (by kernel_rfl) (by intro _; first | ((repeat (first | with_reducible exact Upd.here _ | with_reducible apply Upd.there)); done) | ((repeat (first | exact Upd.here _ | apply Upd.there)); done) | fail) (fun r _ => ?_))
    (repeat (refine gG ?_; try intro _))
    obtain ⟨o, ho, ho2⟩ := and_rng r.1 m r.2 (by omega) (by omega)
    refine g_yd rfl rfl (Ys.yd (ys_bits .and (.inl rfl) rfl rfl rfl)) ?_
    refine g_say 39 (.int .u64 (o : Int)) rfl (congrArg (Value.int .u64) ho) ?_
    by_cases ho3 : b - a ≤ o
    · (repeat' (first | (refine gG ?_; try intro _) | ((first | refine g_split rfl rfl tE (fun _ => ?_) (fun _ => ?_) | refine gk_cond rfl rfl tE (fun _ => ?_) (fun _ => ?_)) <;> (try first | (exfalso; omega; done) | (rename_i hx; exact absurd rfl hx) | (rename_i hx; cases hx; done)))))
      obtain ⟨o', ho'⟩ : ∃ o', o' = o - (b - a) := ⟨_, rfl⟩
      refine gk_say 10 (.int .i64 ((o' : Nat) : Int)) rfl (by first | (congr 1; done) | (congr 1; omega)) ?_
      obtain ⟨x1, hx1⟩ : ∃ x1, L1[i]? = some x1 := ⟨_, List.getElem?_eq_getElem (by omega)⟩
      obtain ⟨y1, hy1⟩ : ∃ y1, L1[a + o']? = some y1 := ⟨_, List.getElem?_eq_getElem (by omega)⟩
      have hy2 : (L1.set (i) y1)[a + o']? = some y1 := set_other hx1 hy1
      refine gk_any [] (Cut _ (fun _ : Unit => [(0, .slice (some ⟨g, 0, none⟩) n c), (1, (.int .i64 (a : Int))), (2, (.int .i64 (b : Int))), (6, (.int .i64 ((b - a : Nat) : Int))), (7, .pointer (some ⟨qb, 0, none⟩)), (8, (.int .u64 (m : Int))), (9, (.int .i64 (i : Int))), (10, (.int .i64 (o' : Int)))]) (fun _ => [rF g n c (swp L1 i (a + o') x1 y1), blk qb [.int .u64 r.1] 158]) (fun _ => [])) rfl rfl (by kernel_rfl) ?_ (cut_k fun _ => ?_)
      · skip
        refine gb_take 0 rfl (by decide +kernel) rfl rfl (ys_ev (nw := true) hT rfl sI) sF ?_
        refine gb_take 1 rfl (by decide +kernel) rfl rfl (ys_ev (nw := true) hT rfl sI) sF ?_
        refine gb_take 2 rfl (by decide +kernel) rfl rfl (ys_ev (nw := true) hT rfl sI) sF ?_
        refine gb_take 3 rfl (by decide +kernel) rfl rfl (ys_ev (nw := true) hT rfl sI) sF ?_
        refine gb_take 4 rfl (by decide +kernel) rfl rfl (ys_ev (nw := true) hT rfl sI) sF ?_
        refine gb_take 5 rfl (by decide +kernel) rfl rfl (ys_ev (nw := true) hT rfl sI) sF ?_
        refine gb_take 6 rfl (by decide +kernel) rfl rfl (ys_ev (nw := true) hT rfl sI) sF ?_
        refine gb_take 7 rfl (by decide +kernel) rfl rfl (ys_ev (nw := true) hT rfl sI) sF ?_
        refine gb_take 8 rfl (by decide +kernel) rfl rfl (ys_ev (nw := true) hT rfl sI) sF ?_
        refine gb_take 9 rfl (by decide +kernel) rfl rfl (ys_ev (nw := true) hT rfl sI) sF ?_
        refine gb_take 10 rfl (by decide +kernel) rfl rfl (ys_ev (nw := true) hT rfl sI) sF ?_
        refine gb_take 12 rfl (by decide +kernel) rfl rfl (ys_ev (nw := true) hT rfl sI) sF ?_
        refine gb_take 13 rfl (by decide +kernel) rfl rfl (ys_ev (nw := true) hT rfl sI) sF ?_
        refine gb_take 14 rfl (by decide +kernel) rfl rfl (ys_ev (nw := true) hT rfl sI) sF ?_
        refine gb_all (by decide +kernel) ?_
        refine gball_not (by decide +kernel) ?_
        refine gball_not (by decide +kernel) ?_
        refine gball_not (by decide +kernel) ?_
        refine gball_not (by decide +kernel) ?_
        refine gball_not (by decide +kernel) ?_
        refine gball_not (by decide +kernel) ?_
        refine gball_not (by decide +kernel) ?_
        refine gball_not (by decide +kernel) ?_
        refine gball_not (by decide +kernel) ?_
        refine gball_not (by decide +kernel) ?_
        refine gball_not (by decide +kernel) ?_
        refine gball_yes rfl rfl ?_ ?_
        · refine mv_yd rfl ((ys_load_el (S := [own 0 31 1 (.slice (some ⟨g, 0, none⟩) n c) E (L1)]) (o0 := 0) (sz := 1) (enc := E) (L := L1) hT (a + o') y1 0 rfl rfl rfl (by first | rfl | omega) hy1 (at_own mE) rfl rfl).ydS sF) ?_
          refine ⟨sF, ?_⟩
          refine gb_only 15 (by decide +kernel) rfl rfl ?_
          refine mv_yd rfl ((ys_load_el (S := [own 0 31 1 (.slice (some ⟨g, 0, none⟩) n c) E (L1)]) (o0 := 0) (sz := 1) (enc := E) (L := L1) hT (i) x1 0 rfl rfl rfl (by first | rfl | omega) hx1 (at_own mE) rfl rfl).ydS sF) ?_
          refine ⟨sF, ?_⟩
          refine gb_take 16 rfl (by decide +kernel) rfl rfl (ys_ev (nw := true) hT rfl sI) sF ?_
          refine gb_only 17 (by decide +kernel) rfl rfl ?_
          refine mv_store_own (α := El) (g := g) (n := n) (c := c) (base := 0) (e := 31) (sz := 1) (enc := E) (L := L1) hT (i) 0 x1 y1 rfl rfl (by first | rfl | omega) rfl rfl rfl rfl hx1 (by decide) (fun b h1 h2 => absurd h1 (by omega)) rfl (by first | ((repeat (first | with_reducible exact Upd.here _ | with_reducible apply Upd.there)); done) | ((repeat (first | exact Upd.here _ | apply Upd.there)); done) | fail) rfl ?_
          refine ⟨sF, ?_⟩
          refine gb_take 18 rfl (by decide +kernel) rfl rfl (ys_ev (nw := true) hT rfl sI) sF ?_
          refine gb_only 19 (by decide +kernel) rfl rfl ?_
          refine mv_store_own (α := El) (g := g) (n := n) (c := c) (base := 0) (e := 31) (sz := 1) (enc := E) (L := L1.set (i) y1) hT (a + o') 0 y1 x1 rfl rfl (by first | rfl | omega) rfl rfl rfl rfl hy2 (by decide) (fun b h1 h2 => absurd h1 (by omega)) rfl (by first | ((repeat (first | with_reducible exact Upd.here _ | with_reducible apply Upd.there)); done) | ((repeat (first | exact Upd.here _ | apply Upd.there)); done) | fail) rfl ?_
          refine ⟨sF, ?_⟩
          refine gb_nil (by decide +kernel) ?_
          exact ⟨(), (by repeat (first | exact trivial | refine ⟨rfl, ?_⟩)), sA, List.nil_subset _⟩
        refine gball_not (by decide +kernel) ?_
        refine gball_not (by decide +kernel) ?_
        refine gball_not (by decide +kernel) ?_
        refine gball_yes rfl rfl ?_ ?_
        · refine mv_yd rfl ((ys_load_el (S := [own 0 31 1 (.slice (some ⟨g, 0, none⟩) n c) E (L1)]) (o0 := 0) (sz := 1) (enc := E) (L := L1) hT (i) x1 0 rfl rfl rfl (by first | rfl | omega) hx1 (at_own mE) rfl rfl).ydS sF) ?_
          refine ⟨sF, ?_⟩
          refine gb_only 11 (by decide +kernel) rfl rfl ?_
          refine mv_yd rfl ((ys_load_el (S := [own 0 31 1 (.slice (some ⟨g, 0, none⟩) n c) E (L1)]) (o0 := 0) (sz := 1) (enc := E) (L := L1) hT (a + o') y1 0 rfl rfl rfl (by first | rfl | omega) hy1 (at_own mE) rfl rfl).ydS sF) ?_
          refine ⟨sF, ?_⟩
          refine gb_take 16 rfl (by decide +kernel) rfl rfl (ys_ev (nw := true) hT rfl sI) sF ?_
          refine gb_only 17 (by decide +kernel) rfl rfl ?_
          refine mv_store_own (α := El) (g := g) (n := n) (c := c) (base := 0) (e := 31) (sz := 1) (enc := E) (L := L1) hT (i) 0 x1 y1 rfl rfl (by first | rfl | omega) rfl rfl rfl rfl hx1 (by decide) (fun b h1 h2 => absurd h1 (by omega)) rfl (by first | ((repeat (first | with_reducible exact Upd.here _ | with_reducible apply Upd.there)); done) | ((repeat (first | exact Upd.here _ | apply Upd.there)); done) | fail) rfl ?_
          refine ⟨sF, ?_⟩
          refine gb_take 18 rfl (by decide +kernel) rfl rfl (ys_ev (nw := true) hT rfl sI) sF ?_
          refine gb_only 19 (by decide +kernel) rfl rfl ?_
          refine mv_store_own (α := El) (g := g) (n := n) (c := c) (base := 0) (e := 31) (sz := 1) (enc := E) (L := L1.set (i) y1) hT (a + o') 0 y1 x1 rfl rfl (by first | rfl | omega) rfl rfl rfl rfl hy2 (by decide) (fun b h1 h2 => absurd h1 (by omega)) rfl (by first | ((repeat (first | with_reducible exact Upd.here _ | with_reducible apply Upd.there)); done) | ((repeat (first | exact Upd.here _ | apply Upd.there)); done) | fail) rfl ?_
          refine ⟨sF, ?_⟩
          refine gb_nil (by decide +kernel) ?_
          exact ⟨(), (by repeat (first | exact trivial | refine ⟨rfl, ?_⟩)), sA, List.nil_subset _⟩
        refine gball_not (by decide +kernel) ?_
        refine gball_not (by decide +kernel) ?_
        refine gball_not (by decide +kernel) ?_
        refine gball_not (by decide +kernel) ?_
        exact gball_end (by decide +kernel)
      · (repeat (refine gG ?_; try intro _))
        refine gk_say 9 (.int .i64 ((i + 1 : Nat) : Int)) rfl (by first | (congr 1; done) | (congr 1; omega)) ?_
        refine gk_again_sel rfl (i + 1, r, swp L1 i (a + o') x1 y1) ⟨by omega, (by show i + 1 ≤ a + (b - a) / 4 * 2 + 2; omega), hs.trans (.swp (by omega) (by omega) (by omega) (by omega) hx1 hy1)⟩ (by dsimp only; omega) (by repeat (first | exact trivial | refine ⟨rfl, ?_⟩)) sA sS
    · (repeat' (first | (refine gG ?_; try intro _) | ((first | refine g_split rfl rfl tE (fun _ => ?_) (fun _ => ?_) | refine gk_cond rfl rfl tE (fun _ => ?_) (fun _ => ?_)) <;> (try first | (exfalso; omega; done) | (rename_i hx; exact absurd rfl hx) | (rename_i hx; cases hx; done)))))
      obtain ⟨o', ho'⟩ : ∃ o', o' = o := ⟨_, rfl⟩
      refine gk_say 10 (.int .i64 ((o' : Nat) : Int)) rfl (by first | (congr 1; done) | (congr 1; omega)) ?_
      obtain ⟨x1, hx1⟩ : ∃ x1, L1[i]? = some x1 := ⟨_, List.getElem?_eq_getElem (by omega)⟩
      obtain ⟨y1, hy1⟩ : ∃ y1, L1[a + o']? = some y1 := ⟨_, List.getElem?_eq_getElem (by omega)⟩
      have hy2 : (L1.set (i) y1)[a + o']? = some y1 := set_other hx1 hy1
      refine gk_any [] (Cut _ (fun _ : Unit => [(0, .slice (some ⟨g, 0, none⟩) n c), (1, (.int .i64 (a : Int))), (2, (.int .i64 (b : Int))), (6, (.int .i64 ((b - a : Nat) : Int))), (7, .pointer (some ⟨qb, 0, none⟩)), (8, (.int .u64 (m : Int))), (9, (.int .i64 (i : Int))), (10, (.int .i64 (o' : Int)))]) (fun _ => [rF g n c (swp L1 i (a + o') x1 y1), blk qb [.int .u64 r.1] 158]) (fun _ => [])) rfl rfl (by kernel_rfl) ?_ (cut_k fun _ => ?_)
      · skip
        refine gb_take 0 rfl (by decide +kernel) rfl rfl (ys_ev (nw := true) hT rfl sI) sF ?_
        refine gb_take 1 rfl (by decide +kernel) rfl rfl (ys_ev (nw := true) hT rfl sI) sF ?_
        refine gb_take 2 rfl (by decide +kernel) rfl rfl (ys_ev (nw := true) hT rfl sI) sF ?_
        refine gb_take 3 rfl (by decide +kernel) rfl rfl (ys_ev (nw := true) hT rfl sI) sF ?_
        refine gb_take 4 rfl (by decide +kernel) rfl rfl (ys_ev (nw := true) hT rfl sI) sF ?_
        refine gb_take 5 rfl (by decide +kernel) rfl rfl (ys_ev (nw := true) hT rfl sI) sF ?_
        refine gb_take 6 rfl (by decide +kernel) rfl rfl (ys_ev (nw := true) hT rfl sI) sF ?_
        refine gb_take 7 rfl (by decide +kernel) rfl rfl (ys_ev (nw := true) hT rfl sI) sF ?_
        refine gb_take 8 rfl (by decide +kernel) rfl rfl (ys_ev (nw := true) hT rfl sI) sF ?_
        refine gb_take 9 rfl (by decide +kernel) rfl rfl (ys_ev (nw := true) hT rfl sI) sF ?_
        refine gb_take 10 rfl (by decide +kernel) rfl rfl (ys_ev (nw := true) hT rfl sI) sF ?_
        refine gb_take 12 rfl (by decide +kernel) rfl rfl (ys_ev (nw := true) hT rfl sI) sF ?_
        refine gb_take 13 rfl (by decide +kernel) rfl rfl (ys_ev (nw := true) hT rfl sI) sF ?_
        refine gb_take 14 rfl (by decide +kernel) rfl rfl (ys_ev (nw := true) hT rfl sI) sF ?_
        refine gb_all (by decide +kernel) ?_
        refine gball_not (by decide +kernel) ?_
        refine gball_not (by decide +kernel) ?_
        refine gball_not (by decide +kernel) ?_
        refine gball_not (by decide +kernel) ?_
        refine gball_not (by decide +kernel) ?_
        refine gball_not (by decide +kernel) ?_
        refine gball_not (by decide +kernel) ?_
        refine gball_not (by decide +kernel) ?_
        refine gball_not (by decide +kernel) ?_
        refine gball_not (by decide +kernel) ?_
        refine gball_not (by decide +kernel) ?_
        refine gball_yes rfl rfl ?_ ?_
        · refine mv_yd rfl ((ys_load_el (S := [own 0 31 1 (.slice (some ⟨g, 0, none⟩) n c) E (L1)]) (o0 := 0) (sz := 1) (enc := E) (L := L1) hT (a + o') y1 0 rfl rfl rfl (by first | rfl | omega) hy1 (at_own mE) rfl rfl).ydS sF) ?_
          refine ⟨sF, ?_⟩
          refine gb_only 15 (by decide +kernel) rfl rfl ?_
          refine mv_yd rfl ((ys_load_el (S := [own 0 31 1 (.slice (some ⟨g, 0, none⟩) n c) E (L1)]) (o0 := 0) (sz := 1) (enc := E) (L := L1) hT (i) x1 0 rfl rfl rfl (by first | rfl | omega) hx1 (at_own mE) rfl rfl).ydS sF) ?_
          refine ⟨sF, ?_⟩
          refine gb_take 16 rfl (by decide +kernel) rfl rfl (ys_ev (nw := true) hT rfl sI) sF ?_
          refine gb_only 17 (by decide +kernel) rfl rfl ?_
          refine mv_store_own (α := El) (g := g) (n := n) (c := c) (base := 0) (e := 31) (sz := 1) (enc := E) (L := L1) hT (i) 0 x1 y1 rfl rfl (by first | rfl | omega) rfl rfl rfl rfl hx1 (by decide) (fun b h1 h2 => absurd h1 (by omega)) rfl (by first | ((repeat (first | with_reducible exact Upd.here _ | with_reducible apply Upd.there)); done) | ((repeat (first | exact Upd.here _ | apply Upd.there)); done) | fail) rfl ?_
          refine ⟨sF, ?_⟩
          refine gb_take 18 rfl (by decide +kernel) rfl rfl (ys_ev (nw := true) hT rfl sI) sF ?_
          refine gb_only 19 (by decide +kernel) rfl rfl ?_
          refine mv_store_own (α := El) (g := g) (n := n) (c := c) (base := 0) (e := 31) (sz := 1) (enc := E) (L := L1.set (i) y1) hT (a + o') 0 y1 x1 rfl rfl (by first | rfl | omega) rfl rfl rfl rfl hy2 (by decide) (fun b h1 h2 => absurd h1 (by omega)) rfl (by first | ((repeat (first | with_reducible exact Upd.here _ | with_reducible apply Upd.there)); done) | ((repeat (first | exact Upd.here _ | apply Upd.there)); done) | fail) rfl ?_
          refine ⟨sF, ?_⟩
          refine gb_nil (by decide +kernel) ?_
          exact ⟨(), (by repeat (first | exact trivial | refine ⟨rfl, ?_⟩)), sA, List.nil_subset _⟩
        refine gball_not (by decide +kernel) ?_
        refine gball_not (by decide +kernel) ?_
        refine gball_not (by decide +kernel) ?_
        refine gball_yes rfl rfl ?_ ?_
        · refine mv_yd rfl ((ys_load_el (S := [own 0 31 1 (.slice (some ⟨g, 0, none⟩) n c) E (L1)]) (o0 := 0) (sz := 1) (enc := E) (L := L1) hT (i) x1 0 rfl rfl rfl (by first | rfl | omega) hx1 (at_own mE) rfl rfl).ydS sF) ?_
          refine ⟨sF, ?_⟩
          refine gb_only 11 (by decide +kernel) rfl rfl ?_
          refine mv_yd rfl ((ys_load_el (S := [own 0 31 1 (.slice (some ⟨g, 0, none⟩) n c) E (L1)]) (o0 := 0) (sz := 1) (enc := E) (L := L1) hT (a + o') y1 0 rfl rfl rfl (by first | rfl | omega) hy1 (at_own mE) rfl rfl).ydS sF) ?_
          refine ⟨sF, ?_⟩
          refine gb_take 16 rfl (by decide +kernel) rfl rfl (ys_ev (nw := true) hT rfl sI) sF ?_
          refine gb_only 17 (by decide +kernel) rfl rfl ?_
          refine mv_store_own (α := El) (g := g) (n := n) (c := c) (base := 0) (e := 31) (sz := 1) (enc := E) (L := L1) hT (i) 0 x1 y1 rfl rfl (by first | rfl | omega) rfl rfl rfl rfl hx1 (by decide) (fun b h1 h2 => absurd h1 (by omega)) rfl (by first | ((repeat (first | with_reducible exact Upd.here _ | with_reducible apply Upd.there)); done) | ((repeat (first | exact Upd.here _ | apply Upd.there)); done) | fail) rfl ?_
          refine ⟨sF, ?_⟩
          refine gb_take 18 rfl (by decide +kernel) rfl rfl (ys_ev (nw := true) hT rfl sI) sF ?_
          refine gb_only 19 (by decide +kernel) rfl rfl ?_
          refine mv_store_own (α := El) (g := g) (n := n) (c := c) (base := 0) (e := 31) (sz := 1) (enc := E) (L := L1.set (i) y1) hT (a + o') 0 y1 x1 rfl rfl (by first | rfl | omega) rfl rfl rfl rfl hy2 (by decide) (fun b h1 h2 => absurd h1 (by omega)) rfl (by first | ((repeat (first | with_reducible exact Upd.here _ | with_reducible apply Upd.there)); done) | ((repeat (first | exact Upd.here _ | apply Upd.there)); done) | fail) rfl ?_
          refine ⟨sF, ?_⟩
          refine gb_nil (by decide +kernel) ?_
          exact ⟨(), (by repeat (first | exact trivial | refine ⟨rfl, ?_⟩)), sA, List.nil_subset _⟩
        refine gball_not (by decide +kernel) ?_
        refine gball_not (by decide +kernel) ?_
        refine gball_not (by decide +kernel) ?_
        refine gball_not (by decide +kernel) ?_
        exact gball_end (by decide +kernel)
      · (repeat (refine gG ?_; try intro _))
        refine gk_say 9 (.int .i64 ((i + 1 : Nat) : Int)) rfl (by first | (congr 1; done) | (congr 1; omega)) ?_
        refine gk_again_sel rfl (i + 1, r, swp L1 i (a + o') x1 y1) ⟨by omega, (by show i + 1 ≤ a + (b - a) / 4 * 2 + 2; omega), hs.trans (.swp (by omega) (by omega) (by omega) (by omega) hx1 hy1)⟩ (by dsimp only; omega) (by repeat (first | exact trivial | refine ⟨rfl, ?_⟩)) sA sS
  · (repeat' (first | (refine gG ?_; try intro _) | ((first | refine g_split rfl rfl tE (fun _ => ?_) (fun _ => ?_) | refine gk_cond rfl rfl tE (fun _ => ?_) (fun _ => ?_)) <;> (try first | (exfalso; omega; done) | (rename_i hx; exact absurd rfl hx) | (rename_i hx; cases hx; done)))))
    refine gk_fin hT rfl rfl .nil (fun w' hk => ?_)
    exact RetM.mk L1 hs rfl hk (fun b hb => (finE_mem h.2 b).1 hb) mE
theorem gk_at {X : Cx} {ks k : List KI} {f : Fr} {O R : List Fact} {id : Nat} {l : List Oper} {d : Bool} (h : nx 1000 ks = some (.region id l d k)) (hg : GK X (.code (.region id l.toArray d) :: k) f O R) : GK X ks f O R := .mk fun a w hr hk => nx_sound h (hg.out a w hr hk)
theorem joinD {X : Cx} {c : Code} {k : List KI} {ι : Type} (P : ι → Prop) (F : ι → Fr) (OO RR : ι → List Fact) {q : Prop} (r : Later (∀ i, P i → GK X (.code c :: k) (F i) (OO i) (RR i)) → q) (g : ∀ i, P i → GK X (.code c :: k) (F i) (OO i) (RR i)) : q := r ⟨g⟩
theorem joinR {X : Cx} {ops rest : List Oper} {k : List KI} {ι : Type} (P : ι → Prop) (F : ι → Fr) (OO RR : ι → List Fact) {q : Prop} (r : Later (∀ i, P i → G X ops rest k (F i) (OO i) (RR i)) → q) (g : ∀ i, P i → G X ops rest k (F i) (OO i) (RR i)) : q := r ⟨g⟩
theorem pdq_any (N : Nat) : ∀ (g n c a b : Nat) (limit : Int) (L : List El) (w : World), b - a = N → L.length = n → n ≤ 1000000 → a ≤ b → b ≤ n → 0 ≤ limit → limit ≤ 1000 → Pre lt a b L → Rd1 w (rF g n c L) →
    Calls Try.prog 81 [.slice (some ⟨g, 0, none⟩) n c, .int .i64 (a : Int), .int .i64 (b : Int), .int .i64 limit].toArray w (RetM (rF g n c L) (fun L' : List El => Seg a b L L' ∧ SortedIn lt a b L') (fun _ => .tuple #[]) (fun L' => rF g n c L') w) := by
  induction N using Nat.strongRecOn with
  | _ N ih =>
  intro g n c a b limit L w hN hn h9 hab hb hm0 hm1 hpre h
  refine g_enter0 T (finE (rF g n c L) w) [rF g n c L] [] Try.func81 rfl Try.ntmps81 rfl (Kn.startM h (fun b hb => (finE_mem h.2 b).2 hb) (fun ψ hψ => by cases hψ)) ?_
  (repeat (refine gG ?_; try intro _))
  refine gk_loop_sel (fun (q : Nat × Nat × Int × Bool × Bool × (List El)) => match q with | (a1, b1, lim, wb, wp, L1) => (a ≤ a1 ∧ a1 ≤ b1 ∧ b1 ≤ b ∧ 0 ≤ lim ∧ lim ≤ 1000 ∧ Seg a b L L1 ∧ Pq.Rest lt a b a1 b1 L1 ∧ Pre lt a1 b1 L1)) (fun (q : Nat × Nat × Int × Bool × Bool × (List El)) => match q with | (a1, b1, lim, wb, wp, L1) => [(0, .slice (some ⟨g, 0, none⟩) n c), (1, (.int .i64 (a1 : Int))), (2, (.int .i64 (b1 : Int))), (3, (.int .i64 lim)), (8, (.bool wb)), (9, (.bool wp))]) (fun (q : Nat × Nat × Int × Bool × Bool × (List El)) => match q with | (a1, b1, lim, wb, wp, L1) => [rF g n c L1]) (fun (q : Nat × Nat × Int × Bool × Bool × (List El)) => match q with | (a1, b1, lim, wb, wp, L1) => []) (fun (q : Nat × Nat × Int × Bool × Bool × (List El)) => match q with | (a1, b1, lim, wb, wp, L1) => b1 - a1) (a, b, limit, true, true, L) rfl ⟨by omega, by omega, by omega, hm0, hm1, .refl _ _ _, .start, hpre⟩ (by repeat (first | exact trivial | refine ⟨rfl, ?_⟩)) sA sS ?_
  rintro ⟨a1, b1, lim, wb, wp, L1⟩ hI
  replace hI : (a ≤ a1 ∧ a1 ≤ b1 ∧ b1 ≤ b ∧ 0 ≤ lim ∧ lim ≤ 1000 ∧ Seg a b L L1 ∧ Pq.Rest lt a b a1 b1 L1 ∧ Pre lt a1 b1 L1) := hI
  change GK _ _ [(0, .slice (some ⟨g, 0, none⟩) n c), (1, (.int .i64 (a1 : Int))), (2, (.int .i64 (b1 : Int))), (3, (.int .i64 lim)), (8, (.bool wb)), (9, (.bool wp))] [rF g n c L1] []
  obtain ⟨la, lab, lb, l0, l9, hs, hR, hP⟩ := hI
  have hl1 := hs.len
  by_cases h12 : b1 - a1 ≤ 12
  · (repeat' (first | (refine gG ?_; try intro _) | ((first | refine g_split rfl rfl tE (fun _ => ?_) (fun _ => ?_) | refine gk_cond rfl rfl tE (fun _ => ?_) (fun _ => ?_)) <;> (try first | (exfalso; omega; done) | (rename_i hx; exact absurd rfl hx) | (rename_i hx; cases hx; done)))))
    refine g_mv rfl (mv_call_mod (φ := rF g n c L1) (ψ := fun L' : List El => rF g n c L') (fun w1 hk => by exact ins_any g n c a1 b1 L1 w1 (by omega) h9 (by omega) (by omega) (hk.rO (φ := rF g n c L1) mE)) rfl rfl rfl rfl rfl (by kernel_rfl) (by intro _; first | ((repeat (first | with_reducible exact Upd.here _ | with_reducible apply Upd.there)); done) | ((repeat (first | exact Upd.here _ | apply Upd.there)); done) | fail) (fun L2 h2 => ?_))
    (repeat (refine gG ?_; try intro _))
    refine gk_ret hT rfl rfl .nil (fun w' hk => ?_)
    exact RetM.mk L2 ⟨hs.trans (h2.1.wide la lb), hR.done h2.1 h2.2⟩ rfl hk (fun b hb => (finE_mem h.2 b).1 hb) mE
  by_cases hl0 : lim = 0
  · (repeat' (first | (refine gG ?_; try intro _) | ((first | refine g_split rfl rfl tE (fun _ => ?_) (fun _ => ?_) | refine gk_cond rfl rfl tE (fun _ => ?_) (fun _ => ?_)) <;> (try first | (exfalso; omega; done) | (rename_i hx; exact absurd rfl hx) | (rename_i hx; cases hx; done)))))
    refine g_mv rfl (mv_call_mod (φ := rF g n c L1) (ψ := fun L' : List El => rF g n c L') (fun w1 hk => by exact heap_any g n c a1 b1 L1 w1 (by omega) h9 (by omega) (by omega) (hk.rO (φ := rF g n c L1) mE)) rfl rfl rfl rfl rfl (by kernel_rfl) (by intro _; first | ((repeat (first | with_reducible exact Upd.here _ | with_reducible apply Upd.there)); done) | ((repeat (first | exact Upd.here _ | apply Upd.there)); done) | fail) (fun L2 h2 => ?_))
    (repeat (refine gG ?_; try intro _))
    refine gk_ret hT rfl rfl .nil (fun w' hk => ?_)
    exact RetM.mk L2 ⟨hs.trans (h2.1.wide la lb), hR.done h2.1 h2.2⟩ rfl hk (fun b hb => (finE_mem h.2 b).1 hb) mE
  (repeat' (first | (refine gG ?_; try intro _) | ((first | refine g_split rfl rfl tE (fun _ => ?_) (fun _ => ?_) | refine gk_cond rfl rfl tE (fun _ => ?_) (fun _ => ?_)) <;> (try first | (exfalso; omega; done) | (rename_i hx; exact absurd rfl hx) | (rename_i hx; cases hx; done)))))
  refine gk_say 10 (.int .i64 ((b1 - a1 : Nat) : Int)) rfl (by first | (congr 1; done) | (congr 1; omega)) ?_
  apply joinR (fun q : List El × Int => Seg a1 b1 L1 q.1 ∧ 0 ≤ q.2 ∧ q.2 ≤ 1000) (fun q => [(0, .slice (some ⟨g, 0, none⟩) n c), (1, (.int .i64 (a1 : Int))), (2, (.int .i64 (b1 : Int))), (3, (.int .i64 q.2)), (8, (.bool wb)), (9, (.bool wp)), (10, (.int .i64 ((b1 - a1 : Nat) : Int))), (43, .slice (some ⟨g, 0, none⟩) n c), (44, (.int .i64 (a1 : Int))), (45, (.int .i64 (b1 : Int)))]) (fun q => [rF g n c q.1]) (fun _ => [])
  case r =>
    intro J
    cases wb
    · refine gk_cond_t rfl rfl ?_
      (repeat (refine gG ?_; try intro _))
      refine g_mv rfl (mv_call_mod (φ := rF g n c L1) (ψ := fun L' : List El => rF g n c L') (fun w1 hk => by exact brk_any g n c a1 b1 L1 w1 (by omega) h9 (by omega) (by omega) (hk.rO (φ := rF g n c L1) mE)) rfl rfl rfl rfl rfl (by kernel_rfl) (by intro _; first | ((repeat (first | with_reducible exact Upd.here _ | with_reducible apply Upd.there)); done) | ((repeat (first | exact Upd.here _ | apply Upd.there)); done) | fail) (fun L2 h2 => ?_))
      (repeat (refine gG ?_; try intro _))
      have hJ := J.out (L2, lim - 1) ⟨h2, (by show 0 ≤ lim - 1; omega), (by show lim - 1 ≤ 1000; omega)⟩
      try dsimp only at hJ
      refine g_wk (by repeat (first | exact trivial | refine ⟨rfl, ?_⟩)) sA sS hJ
    · refine gk_cond_f rfl rfl ?_
      (repeat (refine gG ?_; try intro _))
      have hJ := J.out (L1, lim) ⟨.refl _ _ _, l0, l9⟩
      try dsimp only at hJ
      refine g_wk (by repeat (first | exact trivial | refine ⟨rfl, ?_⟩)) sA sS hJ
  case g =>
  rintro ⟨L2, lim2⟩ ⟨hs2, m0, m9⟩
  dsimp only at hs2 m0 m9 ⊢
  have hl2 := hs2.len
  refine g_mv rfl ?_; refine mv_call_rt (fun w hk => piv_any g n c a1 b1 L2 w (by omega) h9 (by omega) (by omega) (rd_own (hk.rO (φ := rF g n c L2) mE))) rfl rfl rfl rfl rfl (by kernel_rfl) (fun _ => rfl) (fun r hr => ?_)
  obtain ⟨pv, hint⟩ := r
  dsimp only at hr ⊢
  (repeat (refine gG ?_; try intro _))
  apply joinR (fun q : List El × Nat × Nat => Seg a1 b1 L1 q.1 ∧ a1 ≤ q.2.1 ∧ q.2.1 < b1) (fun q => [(0, .slice (some ⟨g, 0, none⟩) n c), (1, (.int .i64 (a1 : Int))), (2, (.int .i64 (b1 : Int))), (3, (.int .i64 lim2)), (8, (.bool wb)), (9, (.bool wp)), (10, (.int .i64 ((b1 - a1 : Nat) : Int))), (11, (.int .i64 (q.2.1 : Nat))), (12, (.int .i64 (q.2.2 : Nat))), (62, (.bool wb))]) (fun q => [rF g n c q.1]) (fun _ => [])
  case r =>
    intro J
    by_cases hh : hint = 2
    · (repeat' (first | (refine gG ?_; try intro _) | ((first | refine g_split rfl rfl tE (fun _ => ?_) (fun _ => ?_) | refine gk_cond rfl rfl tE (fun _ => ?_) (fun _ => ?_)) <;> (try first | (exfalso; omega; done) | (rename_i hx; exact absurd rfl hx) | (rename_i hx; cases hx; done)))))
      refine g_mv rfl (mv_call_mod (φ := rF g n c L2) (ψ := fun L' : List El => rF g n c L') (fun w1 hk => by exact rev_any g n c a1 b1 L2 w1 (by omega) h9 (by omega) (by omega) (hk.rO (φ := rF g n c L2) mE)) rfl rfl rfl rfl rfl (by kernel_rfl) (by intro _; first | ((repeat (first | with_reducible exact Upd.here _ | with_reducible apply Upd.there)); done) | ((repeat (first | exact Upd.here _ | apply Upd.there)); done) | fail) (fun L3 h3 => ?_))
      (repeat (refine gG ?_; try intro _))
      refine g_say 11 (.int .i64 (((b1 - 1) - (pv - a1) : Nat) : Int)) rfl (by first | (congr 1; done) | (congr 1; omega)) ?_
      have hJ := J.out (L3, (b1 - 1) - (pv - a1), 1) ⟨hs2.trans h3, (by show a1 ≤ (b1 - 1) - (pv - a1); omega), (by show (b1 - 1) - (pv - a1) < b1; omega)⟩
      try dsimp only at hJ
      refine g_wk (by repeat (first | exact trivial | refine ⟨rfl, ?_⟩)) sA sS hJ
    · (repeat' (first | (refine gG ?_; try intro _) | ((first | refine g_split rfl rfl tE (fun _ => ?_) (fun _ => ?_) | refine gk_cond rfl rfl tE (fun _ => ?_) (fun _ => ?_)) <;> (try first | (exfalso; omega; done) | (rename_i hx; exact absurd rfl hx) | (rename_i hx; cases hx; done)))))
      have hJ := J.out (L2, pv, hint) ⟨hs2, hr.1.1, hr.1.2⟩
      try dsimp only at hJ
      refine g_wk (by repeat (first | exact trivial | refine ⟨rfl, ?_⟩)) sA sS hJ
  case g =>
  clear hr hs2 hl2
  rintro ⟨L3, pv, hint⟩ ⟨hs3, p1, p2⟩
  dsimp only at hs3 p1 p2 ⊢
  have hl3 := hs3.len
  apply joinD (fun q : List El => Seg a1 b1 L1 q) (fun q => [(0, .slice (some ⟨g, 0, none⟩) n c), (1, (.int .i64 (a1 : Int))), (2, (.int .i64 (b1 : Int))), (3, (.int .i64 lim2)), (8, (.bool wb)), (9, (.bool wp)), (10, (.int .i64 ((b1 - a1 : Nat) : Int))), (11, (.int .i64 (pv : Int)))]) (fun q => [rF g n c q]) (fun _ => [])
  case r =>
    intro J
    cases wb
    · (repeat (refine gG ?_; try intro _))
      refine gk_at rfl ?_
      refine gk_sel (by repeat (first | exact trivial | refine ⟨rfl, ?_⟩)) sA sS (J.out L3 hs3)
    · cases wp
      · (repeat (refine gG ?_; try intro _))
        refine gk_at rfl ?_
        refine gk_sel (by repeat (first | exact trivial | refine ⟨rfl, ?_⟩)) sA sS (J.out L3 hs3)
      · by_cases hh : hint = 1
        · (repeat' (first | (refine gG ?_; try intro _) | ((first | refine g_split rfl rfl tE (fun _ => ?_) (fun _ => ?_) | refine gk_cond rfl rfl tE (fun _ => ?_) (fun _ => ?_)) <;> (try first | (exfalso; omega; done) | (rename_i hx; exact absurd rfl hx) | (rename_i hx; cases hx; done)))))
          refine g_mv rfl (mv_call_mod (φ := rF g n c L3) (ψ := fun r : List El × Bool => rF g n c r.1) (fun w1 hk => by exact par_any g n c a1 b1 L3 w1 (by omega) h9 (by omega) (by omega) (hP.turn (by omega) hs3) (hk.rO (φ := rF g n c L3) mE)) rfl rfl rfl rfl rfl (by kernel_rfl) (by intro _; first | ((repeat (first | with_reducible exact Upd.here _ | with_reducible apply Upd.there)); done) | ((repeat (first | exact Upd.here _ | apply Upd.there)); done) | fail) (fun q hq => ?_))
          obtain ⟨L4, r⟩ := q
          dsimp only at hq ⊢
          cases r
          · (repeat (refine gG ?_; try intro _))
            refine gk_at rfl ?_
            refine gk_sel (by repeat (first | exact trivial | refine ⟨rfl, ?_⟩)) sA sS (J.out L4 (hs3.trans hq.1))
          · (repeat (refine gG ?_; try intro _))
            refine gk_ret hT rfl rfl .nil (fun w' hk => ?_)
            exact RetM.mk L4 ⟨hs.trans ((hs3.trans hq.1).wide la lb), hR.done (hs3.trans hq.1) (hq.2 rfl)⟩ rfl hk (fun b hb => (finE_mem h.2 b).1 hb) mE
        · (repeat' (first | (refine gG ?_; try intro _) | ((first | refine g_split rfl rfl tE (fun _ => ?_) (fun _ => ?_) | refine gk_cond rfl rfl tE (fun _ => ?_) (fun _ => ?_)) <;> (try first | (exfalso; omega; done) | (rename_i hx; exact absurd rfl hx) | (rename_i hx; cases hx; done)))))
          refine gk_at rfl ?_
          refine gk_sel (by repeat (first | exact trivial | refine ⟨rfl, ?_⟩)) sA sS (J.out L3 hs3)
  case g =>
  clear hs3 hl3
  intro L3 hs3
  try dsimp only at hs3 ⊢
  have hl3 := hs3.len
  have hP3 := hP.turn (by omega) hs3
  have hR3 := hR.turn hs3
  have hs' := hs.trans (hs3.wide la lb)
  obtain ⟨p, hp⟩ : ∃ p, L3[pv]? = some p := ⟨_, List.getElem?_eq_getElem (by omega)⟩
  refine gk_any [0] (Cut _ (fun r : { r : Bool // r = true → (0 < a1 ∧ ∃ z, L3[a1 - 1]? = some z ∧ ¬ lt z p) } => [(0, .slice (some ⟨g, 0, none⟩) n c), (1, (.int .i64 (a1 : Int))), (2, (.int .i64 (b1 : Int))), (3, (.int .i64 lim2)), (8, (.bool wb)), (9, (.bool wp)), (10, (.int .i64 ((b1 - a1 : Nat) : Int))), (11, (.int .i64 (pv : Int))), (87, .bool r.1)]) (fun _ => [rF g n c L3]) (fun _ => [])) rfl rfl (by kernel_rfl) ?_ (cut_k fun r => ?_)
  · by_cases ha0 : 0 < a1
    · obtain ⟨z, hz⟩ : ∃ z, L3[a1 - 1]? = some z := ⟨_, List.getElem?_eq_getElem (by omega)⟩
      by_cases hl : lt z p
      · skip
        refine gb_take 0 rfl (by decide +kernel) rfl rfl (ys_ev (nw := true) hT rfl sI) sF ?_
        refine gb_take 1 rfl (by decide +kernel) rfl rfl (ys_ev (nw := true) hT rfl sI) sF ?_
        refine gb_take 2 rfl (by decide +kernel) rfl rfl (ys_ev (nw := true) hT rfl sI) sF ?_
        try (refine gb_say 75 (.bool true) rfl (congrArg Value.bool (tB_true (by omega))) ?_)
        first | refine gb_take 3 rfl (by decide +kernel) rfl rfl (ys_ev (nw := true) hT rfl sI) sF ?_ | refine gb_skip 3 rfl (by decide +kernel) rfl rfl sF ?_
        first | refine gb_take 4 rfl (by decide +kernel) rfl rfl (ys_ev (nw := true) hT rfl sI) sF ?_ | refine gb_skip 4 rfl (by decide +kernel) rfl rfl sF ?_
        first | refine gb_take 5 rfl (by decide +kernel) rfl rfl (ys_ev (nw := true) hT rfl sI) sF ?_ | refine gb_skip 5 rfl (by decide +kernel) rfl rfl sF ?_
        first | refine gb_take 6 rfl (by decide +kernel) rfl rfl (ys_ev (nw := true) hT rfl sI) sF ?_ | refine gb_skip 6 rfl (by decide +kernel) rfl rfl sF ?_
        first | refine gb_take 7 rfl (by decide +kernel) rfl rfl (ys_load_el (S := [own 0 31 1 (.slice (some ⟨g, 0, none⟩) n c) E (L3)]) (o0 := 0) (sz := 1) (enc := E) (L := L3) hT (a1 - 1) z 0 rfl rfl rfl (by first | rfl | omega) hz (at_own mE) rfl rfl) sF ?_ | refine gb_skip 7 rfl (by decide +kernel) rfl rfl sF ?_
        first | refine gb_take 8 rfl (by decide +kernel) rfl rfl (ys_ev (nw := true) hT rfl sI) sF ?_ | refine gb_skip 8 rfl (by decide +kernel) rfl rfl sF ?_
        first | refine gb_take 9 rfl (by decide +kernel) rfl rfl (ys_ev (nw := true) hT rfl sI) sF ?_ | refine gb_skip 9 rfl (by decide +kernel) rfl rfl sF ?_
        first | refine gb_take 10 rfl (by decide +kernel) rfl rfl (ys_ev (nw := true) hT rfl sI) sF ?_ | refine gb_skip 10 rfl (by decide +kernel) rfl rfl sF ?_
        first | refine gb_take 11 rfl (by decide +kernel) rfl rfl (ys_load_el (S := [own 0 31 1 (.slice (some ⟨g, 0, none⟩) n c) E (L3)]) (o0 := 0) (sz := 1) (enc := E) (L := L3) hT (pv) p 0 rfl rfl rfl (by first | rfl | omega) hp (at_own mE) rfl rfl) sF ?_ | refine gb_skip 11 rfl (by decide +kernel) rfl rfl sF ?_
        first | refine gb_skip 12 rfl (by decide +kernel) rfl rfl sF ?_ | (refine gb_only 12 (by decide +kernel) rfl rfl ?_; (refine mv_call_bel (fun w hk => less_any z p w) rfl rfl rfl rfl rfl (by kernel_rfl) ?_); refine ⟨sF, ?_⟩)
        try (refine gb_say 85 (.bool true) rfl (congrArg Value.bool (tB_true hl)) ?_)
        first | refine gb_take 13 rfl (by decide +kernel) rfl rfl (ys_ev (nw := true) hT rfl sI) sF ?_ | refine gb_skip 13 rfl (by decide +kernel) rfl rfl sF ?_
        refine gb_take 14 rfl (by decide +kernel) rfl rfl (ys_ev (nw := true) hT rfl sI) sF ?_
        refine gb_nil (by decide +kernel) ?_
        exact ⟨⟨false, fun h => (by cases h)⟩, (by repeat (first | exact trivial | refine ⟨rfl, ?_⟩)), sA, sS⟩
      · skip
        refine gb_take 0 rfl (by decide +kernel) rfl rfl (ys_ev (nw := true) hT rfl sI) sF ?_
        refine gb_take 1 rfl (by decide +kernel) rfl rfl (ys_ev (nw := true) hT rfl sI) sF ?_
        refine gb_take 2 rfl (by decide +kernel) rfl rfl (ys_ev (nw := true) hT rfl sI) sF ?_
        try (refine gb_say 75 (.bool true) rfl (congrArg Value.bool (tB_true (by omega))) ?_)
        first | refine gb_take 3 rfl (by decide +kernel) rfl rfl (ys_ev (nw := true) hT rfl sI) sF ?_ | refine gb_skip 3 rfl (by decide +kernel) rfl rfl sF ?_
        first | refine gb_take 4 rfl (by decide +kernel) rfl rfl (ys_ev (nw := true) hT rfl sI) sF ?_ | refine gb_skip 4 rfl (by decide +kernel) rfl rfl sF ?_
        first | refine gb_take 5 rfl (by decide +kernel) rfl rfl (ys_ev (nw := true) hT rfl sI) sF ?_ | refine gb_skip 5 rfl (by decide +kernel) rfl rfl sF ?_
        first | refine gb_take 6 rfl (by decide +kernel) rfl rfl (ys_ev (nw := true) hT rfl sI) sF ?_ | refine gb_skip 6 rfl (by decide +kernel) rfl rfl sF ?_
        first | refine gb_take 7 rfl (by decide +kernel) rfl rfl (ys_load_el (S := [own 0 31 1 (.slice (some ⟨g, 0, none⟩) n c) E (L3)]) (o0 := 0) (sz := 1) (enc := E) (L := L3) hT (a1 - 1) z 0 rfl rfl rfl (by first | rfl | omega) hz (at_own mE) rfl rfl) sF ?_ | refine gb_skip 7 rfl (by decide +kernel) rfl rfl sF ?_
        first | refine gb_take 8 rfl (by decide +kernel) rfl rfl (ys_ev (nw := true) hT rfl sI) sF ?_ | refine gb_skip 8 rfl (by decide +kernel) rfl rfl sF ?_
        first | refine gb_take 9 rfl (by decide +kernel) rfl rfl (ys_ev (nw := true) hT rfl sI) sF ?_ | refine gb_skip 9 rfl (by decide +kernel) rfl rfl sF ?_
        first | refine gb_take 10 rfl (by decide +kernel) rfl rfl (ys_ev (nw := true) hT rfl sI) sF ?_ | refine gb_skip 10 rfl (by decide +kernel) rfl rfl sF ?_
        first | refine gb_take 11 rfl (by decide +kernel) rfl rfl (ys_load_el (S := [own 0 31 1 (.slice (some ⟨g, 0, none⟩) n c) E (L3)]) (o0 := 0) (sz := 1) (enc := E) (L := L3) hT (pv) p 0 rfl rfl rfl (by first | rfl | omega) hp (at_own mE) rfl rfl) sF ?_ | refine gb_skip 11 rfl (by decide +kernel) rfl rfl sF ?_
        first | refine gb_skip 12 rfl (by decide +kernel) rfl rfl sF ?_ | (refine gb_only 12 (by decide +kernel) rfl rfl ?_; (refine mv_call_bel (fun w hk => less_any z p w) rfl rfl rfl rfl rfl (by kernel_rfl) ?_); refine ⟨sF, ?_⟩)
        try (refine gb_say 85 (.bool false) rfl (congrArg Value.bool (tB_false hl)) ?_)
        first | refine gb_take 13 rfl (by decide +kernel) rfl rfl (ys_ev (nw := true) hT rfl sI) sF ?_ | refine gb_skip 13 rfl (by decide +kernel) rfl rfl sF ?_
        refine gb_take 14 rfl (by decide +kernel) rfl rfl (ys_ev (nw := true) hT rfl sI) sF ?_
        refine gb_nil (by decide +kernel) ?_
        exact ⟨⟨true, fun _ => ⟨ha0, z, hz, hl⟩⟩, (by repeat (first | exact trivial | refine ⟨rfl, ?_⟩)), sA, sS⟩
    · skip
      refine gb_take 0 rfl (by decide +kernel) rfl rfl (ys_ev (nw := true) hT rfl sI) sF ?_
      refine gb_take 1 rfl (by decide +kernel) rfl rfl (ys_ev (nw := true) hT rfl sI) sF ?_
      refine gb_take 2 rfl (by decide +kernel) rfl rfl (ys_ev (nw := true) hT rfl sI) sF ?_
      try (refine gb_say 75 (.bool false) rfl (congrArg Value.bool (tB_false (by omega))) ?_)
      first | refine gb_take 3 rfl (by decide +kernel) rfl rfl (ys_ev (nw := true) hT rfl sI) sF ?_ | refine gb_skip 3 rfl (by decide +kernel) rfl rfl sF ?_
      first | refine gb_take 4 rfl (by decide +kernel) rfl rfl (ys_ev (nw := true) hT rfl sI) sF ?_ | refine gb_skip 4 rfl (by decide +kernel) rfl rfl sF ?_
      first | refine gb_take 5 rfl (by decide +kernel) rfl rfl (ys_ev (nw := true) hT rfl sI) sF ?_ | refine gb_skip 5 rfl (by decide +kernel) rfl rfl sF ?_
      first | refine gb_take 6 rfl (by decide +kernel) rfl rfl (ys_ev (nw := true) hT rfl sI) sF ?_ | refine gb_skip 6 rfl (by decide +kernel) rfl rfl sF ?_
      first | refine gb_take 7 rfl (by decide +kernel) rfl rfl (by first | exact ys_blk hT rfl rfl mE rfl rfl | exact ys_row hT rfl rfl mE rfl rfl | exact ys_row0 hT rfl rfl mE rfl rfl) sF ?_ | refine gb_skip 7 rfl (by decide +kernel) rfl rfl sF ?_
      first | refine gb_take 8 rfl (by decide +kernel) rfl rfl (ys_ev (nw := true) hT rfl sI) sF ?_ | refine gb_skip 8 rfl (by decide +kernel) rfl rfl sF ?_
      first | refine gb_take 9 rfl (by decide +kernel) rfl rfl (ys_ev (nw := true) hT rfl sI) sF ?_ | refine gb_skip 9 rfl (by decide +kernel) rfl rfl sF ?_
      first | refine gb_take 10 rfl (by decide +kernel) rfl rfl (ys_ev (nw := true) hT rfl sI) sF ?_ | refine gb_skip 10 rfl (by decide +kernel) rfl rfl sF ?_
      first | refine gb_take 11 rfl (by decide +kernel) rfl rfl (by first | exact ys_blk hT rfl rfl mE rfl rfl | exact ys_row hT rfl rfl mE rfl rfl | exact ys_row0 hT rfl rfl mE rfl rfl) sF ?_ | refine gb_skip 11 rfl (by decide +kernel) rfl rfl sF ?_
      first | refine gb_skip 12 rfl (by decide +kernel) rfl rfl sF ?_ | (refine gb_only 12 (by decide +kernel) rfl rfl ?_; (skip); refine ⟨sF, ?_⟩)
      first | refine gb_take 13 rfl (by decide +kernel) rfl rfl (ys_ev (nw := true) hT rfl sI) sF ?_ | refine gb_skip 13 rfl (by decide +kernel) rfl rfl sF ?_
      refine gb_take 14 rfl (by decide +kernel) rfl rfl (ys_ev (nw := true) hT rfl sI) sF ?_
      refine gb_nil (by decide +kernel) ?_
      exact ⟨⟨false, fun h => (by cases h)⟩, (by repeat (first | exact trivial | refine ⟨rfl, ?_⟩)), sA, sS⟩
  obtain ⟨r, hr⟩ := r
  by_cases hrt : r = true
  · subst hrt
    obtain ⟨ha0, z, hz, hlz⟩ := hr rfl
    (repeat (refine gG ?_; try intro _))
    refine g_mv rfl (mv_call_mod (φ := rF g n c L3) (ψ := fun r : Nat × List El => rF g n c r.2) (fun w1 hk => by exact peq_any g n c a1 b1 pv p L3 w1 (by omega) h9 p2 p1 (by omega) hp (hk.rO (φ := rF g n c L3) mE)) rfl rfl rfl rfl rfl (by kernel_rfl) (by intro _; first | ((repeat (first | with_reducible exact Upd.here _ | with_reducible apply Upd.there)); done) | ((repeat (first | exact Upd.here _ | apply Upd.there)); done) | fail) (fun q hq => ?_))
    obtain ⟨m, L4⟩ := q
    dsimp only at hq ⊢
    obtain ⟨q1, q2, q3, q4⟩ := hq
    (repeat (refine gG ?_; try intro _))
    have hmin : ∀ k x, a1 ≤ k → k < b1 → L4[k]? = some x → ¬ lt x p := q3.all (P := fun x => ¬ lt x p) (by omega) (fun k x k1 k2 k3 => ord.ntr hlz (hP3 z ha0 hz k x k1 k2 k3))
    refine gk_again_sel rfl (m, b1, lim2, wb, wp, L4) ⟨(by show a ≤ m; omega), q2, lb, m0, m9, hs'.trans (q3.wide la lb), (hR3.turn q3).goEq ord q4 (by omega) hmin (by omega) q2, q4.pre ord (by omega) q1⟩ (by dsimp only; omega) (by repeat (first | exact trivial | refine ⟨rfl, ?_⟩)) sA sS
  · obtain rfl : r = false := by simpa using hrt
    (repeat (refine gG ?_; try intro _))
    refine g_mv rfl (mv_call_mod (φ := rF g n c L3) (ψ := fun r : Nat × Bool × List El => rF g n c r.2.2) (fun w1 hk => by exact prt_any g n c a1 b1 pv p L3 w1 (by omega) h9 p2 p1 (by omega) hp (hk.rO (φ := rF g n c L3) mE)) rfl rfl rfl rfl rfl (by kernel_rfl) (by intro _; first | ((repeat (first | with_reducible exact Upd.here _ | with_reducible apply Upd.there)); done) | ((repeat (first | exact Upd.here _ | apply Upd.there)); done) | fail) (fun q hq => ?_))
    obtain ⟨m, ap, L4⟩ := q
    dsimp only at hq ⊢
    obtain ⟨q1, q2, q3, q4⟩ := hq
    have hl4 := q3.len
    have hP4 := hP3.turn (by omega) q3
    have hR4 := hR3.turn q3
    have hs4 := hs'.trans (q3.wide la lb)
    (repeat (refine gG ?_; try intro _))
    by_cases hlr : m - a1 < b1 - m
    · (repeat' (first | (refine gG ?_; try intro _) | ((first | refine g_split rfl rfl tE (fun _ => ?_) (fun _ => ?_) | refine gk_cond rfl rfl tE (fun _ => ?_) (fun _ => ?_)) <;> (try first | (exfalso; omega; done) | (rename_i hx; exact absurd rfl hx) | (rename_i hx; cases hx; done)))))
      refine g_mv rfl (mv_call_mod (φ := rF g n c L4) (ψ := fun L' : List El => rF g n c L') (fun w1 hk => by exact ih (m - a1) (by omega) g n c a1 m lim2 L4 w1 rfl (by omega) h9 (by omega) (by omega) m0 m9 (hP4.left (by omega)) (hk.rO (φ := rF g n c L4) mE)) rfl rfl rfl rfl rfl (by kernel_rfl) (by intro _; first | ((repeat (first | with_reducible exact Upd.here _ | with_reducible apply Upd.there)); done) | ((repeat (first | exact Upd.here _ | apply Upd.there)); done) | fail) (fun L5 h5 => ?_))
      (repeat (refine gG ?_; try intro _))
      refine gk_say 1 (.int .i64 ((m + 1 : Nat) : Int)) rfl (by first | (congr 1; done) | (congr 1; omega)) ?_
      obtain ⟨wb2, hwb2⟩ : ∃ wb2, wb2 = tB (((b1 - a1 : Nat) : Int) / 8 ≤ (m : Int) - (a1 : Int)) := ⟨_, rfl⟩
      refine gk_say 8 (.bool wb2) rfl (by rw [hwb2]) ?_
      refine gk_again_sel rfl (m + 1, b1, lim2, wb2, ap, L5) ⟨(by show a ≤ m + 1; omega), q2, lb, m0, m9, hs4.trans (h5.1.wide la (by omega)), hR4.goRight ord q4 (by omega) (by show m + 1 ≤ b1; omega) h5.1 h5.2, .right (q4.left (by omega) h5.1)⟩ (by dsimp only; omega) (by repeat (first | exact trivial | refine ⟨rfl, ?_⟩)) sA sS
    · (repeat' (first | (refine gG ?_; try intro _) | ((first | refine g_split rfl rfl tE (fun _ => ?_) (fun _ => ?_) | refine gk_cond rfl rfl tE (fun _ => ?_) (fun _ => ?_)) <;> (try first | (exfalso; omega; done) | (rename_i hx; exact absurd rfl hx) | (rename_i hx; cases hx; done)))))
      refine g_say 129 (.int .i64 ((m + 1 : Nat) : Int)) rfl (by first | (congr 1; done) | (congr 1; omega)) ?_
      refine g_mv rfl (mv_call_mod (φ := rF g n c L4) (ψ := fun L' : List El => rF g n c L') (fun w1 hk => by exact ih (b1 - (m + 1)) (by omega) g n c (m + 1) b1 lim2 L4 w1 rfl (by omega) h9 (by omega) (by omega) m0 m9 (.right q4) (hk.rO (φ := rF g n c L4) mE)) rfl rfl rfl rfl rfl (by kernel_rfl) (by intro _; first | ((repeat (first | with_reducible exact Upd.here _ | with_reducible apply Upd.there)); done) | ((repeat (first | exact Upd.here _ | apply Upd.there)); done) | fail) (fun L5 h5 => ?_))
      (repeat (refine gG ?_; try intro _))
      have hR5 := hR4.goLeft ord q4 (by omega) (by omega) h5.1 h5.2
      have hP5 : Pre lt a1 m L5 := (hP4.turn (by omega) (h5.1.wide (by omega) (Nat.le_refl _))).left (by omega)
      obtain ⟨wb2, hwb2⟩ : ∃ wb2, wb2 = tB (((b1 - a1 : Nat) : Int) / 8 ≤ (b1 : Int) - (m : Int)) := ⟨_, rfl⟩
      refine gk_say 8 (.bool wb2) rfl (by rw [hwb2]) ?_
      refine gk_again_sel rfl (a1, m, lim2, wb2, ap, L5) ⟨la, q1, (by show m ≤ b; omega), m0, m9, hs4.trans (h5.1.wide (by omega) lb), hR5, hP5⟩ (by dsimp only; omega) (by repeat (first | exact trivial | refine ⟨rfl, ?_⟩)) sA sS
theorem sort0_any (g n c : Nat) (L : List El) (w : World) (hn : L.length = n) (h9 : n ≤ 1000000) (h : Rd1 w (rF g n c L)) :
    Calls Try.prog 75 [.slice (some ⟨g, 0, none⟩) n c].toArray w (RetM (rF g n c L) (fun L' : List El => L'.Perm L ∧ SortedIn lt 0 n L') (fun _ => .tuple #[]) (fun L' => rF g n c L') w) := by
  refine g_enter0 T (finE (rF g n c L) w) [rF g n c L] [] Try.func75 rfl Try.ntmps75 rfl (Kn.startM h (fun b hb => (finE_mem h.2 b).2 hb) (fun ψ hψ => by cases hψ)) ?_
  (repeat (refine gG ?_; try intro _))
  refine g_mv rfl ?_; refine mv_call_rt (fun w hk => len_any n w h9) rfl rfl rfl rfl rfl (by kernel_rfl) (fun _ => rfl) (fun k hk0 => ?_)
  (repeat (refine gG ?_; try intro _))
  refine g_mv rfl (mv_call_mod (φ := rF g n c L) (ψ := fun L' : List El => rF g n c L') (fun w1 hk => by exact pdq_any n g n c 0 n k L w1 (by omega) hn h9 (by omega) (by omega) (by omega) (by omega) .zero (hk.rO (φ := rF g n c L) mE)) rfl rfl rfl rfl rfl (by kernel_rfl) (by intro _; first | ((repeat (first | with_reducible exact Upd.here _ | with_reducible apply Upd.there)); done) | ((repeat (first | exact Upd.here _ | apply Upd.there)); done) | fail) (fun L2 h2 => ?_))
  (repeat (refine gG ?_; try intro _))
  refine gk_fin hT rfl rfl .nil (fun w' hk => ?_)
  exact RetM.mk L2 ⟨h2.1.perm, h2.2⟩ rfl hk (fun b hb => (finE_mem h.2 b).1 hb) mE
theorem ins_nil (A : Option Addr) (c : Nat) (k : Int) (w : World) : Calls Try.prog 83 [.slice A 0 c, .int .i64 0, .int .i64 0].toArray w fun e w' => e = .returned (.tuple #[]) ∧ Below w.heap.size w w' := by
  refine g_enter0 T [] [] [] Try.func83 rfl Try.ntmps83 rfl (Kn.start _) ?_
  (repeat (refine gG ?_; try intro _))
  refine gk_loop_sel (fun (q : Nat × Unit) => match q with | (i, z) => (i = 1)) (fun (q : Nat × Unit) => match q with | (i, z) => [(2, .int .i64 0), (6, .int .i64 (i : Int))]) (fun (q : Nat × Unit) => match q with | (i, z) => []) (fun (q : Nat × Unit) => match q with | (i, z) => []) (fun (q : Nat × Unit) => match q with | (i, z) => 1) (1, ()) rfl rfl (by repeat (first | exact trivial | refine ⟨rfl, ?_⟩)) sA sS ?_
  rintro ⟨i, z⟩ hI
  replace hI : (i = 1) := hI
  change GK _ _ [(2, .int .i64 0), (6, .int .i64 (i : Int))] [] []
  subst hI
  (repeat' (first | (refine gG ?_; try intro _) | ((first | refine g_split rfl rfl tE (fun _ => ?_) (fun _ => ?_) | refine gk_cond rfl rfl tE (fun _ => ?_) (fun _ => ?_)) <;> (try first | (exfalso; omega; done) | (rename_i hx; exact absurd rfl hx) | (rename_i hx; cases hx; done)))))
  refine gk_fin hT rfl rfl .nil (fun w' hk => ?_)
  exact ⟨rfl, hk.toBelow⟩
theorem pdq_nil (A : Option Addr) (c : Nat) (k : Int) (w : World) : Calls Try.prog 81 [.slice A 0 c, .int .i64 0, .int .i64 0, .int .i64 k].toArray w fun e w' => e = .returned (.tuple #[]) ∧ Below w.heap.size w w' := by
  refine g_enter0 T [] [] [] Try.func81 rfl Try.ntmps81 rfl (Kn.start _) ?_
  (repeat (refine gG ?_; try intro _))
  refine gk_loop_sel (fun (q : Nat × Unit) => match q with | (i, z) => (i = 1)) (fun (q : Nat × Unit) => match q with | (i, z) => [(0, .slice A 0 c), (1, .int .i64 0), (2, .int .i64 0)]) (fun (q : Nat × Unit) => match q with | (i, z) => []) (fun (q : Nat × Unit) => match q with | (i, z) => []) (fun (q : Nat × Unit) => match q with | (i, z) => 1) (1, ()) rfl rfl (by repeat (first | exact trivial | refine ⟨rfl, ?_⟩)) sA sS ?_
  rintro ⟨i, z⟩ hI
  replace hI : (i = 1) := hI
  change GK _ _ [(0, .slice A 0 c), (1, .int .i64 0), (2, .int .i64 0)] [] []
  (repeat' (first | (refine gG ?_; try intro _) | (refine g_mv rfl ?_; first | refine mv_call_bel (fun w hk => ins_nil A c 0 w) rfl rfl rfl rfl rfl (by kernel_rfl) ?_) | ((first | refine g_split rfl rfl tE (fun _ => ?_) (fun _ => ?_) | refine gk_cond rfl rfl tE (fun _ => ?_) (fun _ => ?_)) <;> (try first | (exfalso; omega; done) | (rename_i hx; exact absurd rfl hx) | (rename_i hx; cases hx; done)))))
  refine gk_ret hT rfl rfl .nil (fun w' hk => ?_)
  exact ⟨rfl, hk.toBelow⟩
theorem sort_nil (A : Option Addr) (c : Nat) (k : Int) (w : World) : Calls Try.prog 75 [.slice A 0 c].toArray w fun e w' => e = .returned (.tuple #[]) ∧ Below w.heap.size w w' := by
  refine g_enter0 T [] [] [] Try.func75 rfl Try.ntmps75 rfl (Kn.start _) ?_
  (repeat (refine gG ?_; try intro _))
  refine g_mv rfl ?_; refine mv_call_rt (fun w hk => len_any 0 w (by omega)) rfl rfl rfl rfl rfl (by kernel_rfl) (fun _ => rfl) (fun k hk0 => ?_)
  (repeat' (first | (refine gG ?_; try intro _) | (refine g_mv rfl ?_; first | refine mv_call_bel (fun w hk => pdq_nil A c k w) rfl rfl rfl rfl rfl (by kernel_rfl) ?_) | ((first | refine g_split rfl rfl tE (fun _ => ?_) (fun _ => ?_) | refine gk_cond rfl rfl tE (fun _ => ?_) (fun _ => ?_)) <;> (try first | (exfalso; omega; done) | (rename_i hx; exact absurd rfl hx) | (rename_i hx; cases hx; done)))))
  refine gk_fin hT rfl rfl .nil (fun w' hk => ?_)
  exact ⟨rfl, hk.toBelow⟩
/-- slices.Sort of a slice of one's own. -/
theorem sort_any (v : Value) (L : List El) (w : World) (h9 : L.length ≤ 1000000) (h : Rd1 w (own 0 31 1 v E L)) :
    Calls Try.prog 75 [v].toArray w (RetM (own 0 31 1 v E L) (fun L' : List El => L'.Perm L ∧ SortedIn lt 0 L.length L') (fun _ => .tuple #[]) (fun L' => own 0 31 1 v E L') w) := by
  rcases L with _ | ⟨x, L⟩
  · obtain ⟨A, c, rfl, _⟩ := own_rdv h
    exact (sort_nil A c 0 w).mono fun e w' ⟨he, hb⟩ => ⟨[], ⟨.refl _, .small (Nat.zero_le _)⟩, he, .of_below h hb⟩
  · obtain ⟨b, c, hv, hc, hm⟩ := own_at0 (h.1) (by simp)
    subst hv
    exact sort0_any b _ c (x :: L) w rfl h9 h
end Go.Proofs.Ytgpfedmfbkhhcaa.SoW

