/- Sorting at a type: partitions (uint64). -/
import Derived.Test.YtgpfedmfbkhhcaaSoW1
namespace Go.Proofs.Ytgpfedmfbkhhcaa.SoW
open Go.RowKit Mem Gx Hp Pq
set_option linter.unusedVariables false
set_option linter.unusedSimpArgs false
set_option maxRecDepth 100000
set_option maxHeartbeats 1000000
theorem swp_left {L : List El} {i j : Nat} {x y : El} (hx : L[i]? = some x) (hy : L[j]? = some y) : (swp L i j x y)[i]? = some y := by
  rw [swp_get (List.getElem?_eq_some_iff.1 hx).1 (List.getElem?_eq_some_iff.1 hy).1]
  by_cases e : i = j
  · subst e; rw [if_pos rfl, ← hx, hy]
  · rw [if_neg e, if_pos rfl]
theorem prt_any (g n c a b pv : Nat) (p : El) (L : List El) (w : World) (hn : L.length = n) (h9 : n ≤ 1000000) (hpb : pv < b) (hap : a ≤ pv) (hb : b ≤ n) (hp : L[pv]? = some p) (h : Rd1 w (rF g n c L)) :
    Calls Try.prog 91 [.slice (some ⟨g, 0, none⟩) n c, .int .i64 (a : Int), .int .i64 (b : Int), .int .i64 (pv : Int)].toArray w (RetM (rF g n c L) (fun r : Nat × Bool × List El => a ≤ r.1 ∧ r.1 < b ∧ Seg a b L r.2.2 ∧ Parted lt a b r.1 p r.2.2) (fun r => .tuple #[.int .i64 (r.1 : Int), .bool r.2.1]) (fun r => rF g n c r.2.2) w) := by
  refine g_enter0 T (finE (rF g n c L) w) [rF g n c L] [] Try.func91 rfl Try.ntmps91 rfl (Kn.startM h (fun b hb => (finE_mem h.2 b).2 hb) (fun ψ hψ => by cases hψ)) ?_
  (repeat (refine gG ?_; try intro _))
  obtain ⟨x0, hx0⟩ : ∃ x0, L[a]? = some x0 := ⟨_, List.getElem?_eq_getElem (by omega)⟩
  have hy2 : (L.set (a) p)[pv]? = some p := set_other hx0 hp
  refine gk_any [] (Cut _ (fun _ : Unit => [(0, .slice (some ⟨g, 0, none⟩) n c), (1, (.int .i64 (a : Int))), (2, (.int .i64 (b : Int))), (3, (.int .i64 (pv : Int))), (8, (.int .i64 0)), (9, (.bool false))]) (fun _ => [rF g n c (swp L a pv x0 p)]) (fun _ => [])) rfl rfl (by kernel_rfl) ?_ (cut_k fun _ => ?_)
  · skip
    refine gb_take 0 rfl (by decide +kernel) rfl rfl (ys_ev (nw := true) hT rfl sI) sF ?_
    refine gb_take 1 rfl (by decide +kernel) rfl rfl (ys_ev (nw := true) hT rfl sI) sF ?_
    refine gb_take 2 rfl (by decide +kernel) rfl rfl (ys_ev (nw := true) hT rfl sI) sF ?_
    refine gb_take 3 rfl (by decide +kernel) rfl rfl (ys_ev (nw := true) hT rfl sI) sF ?_
    refine gb_take 4 rfl (by decide +kernel) rfl rfl (ys_ev (nw := true) hT rfl sI) sF ?_
    refine gb_take 5 rfl (by decide +kernel) rfl rfl (ys_ev (nw := true) hT rfl sI) sF ?_
    refine gb_take 6 rfl (by decide +kernel) rfl rfl (ys_ev (nw := true) hT rfl sI) sF ?_
    refine gb_take 8 rfl (by decide +kernel) rfl rfl (ys_ev (nw := true) hT rfl sI) sF ?_
    refine gb_take 9 rfl (by decide +kernel) rfl rfl (ys_ev (nw := true) hT rfl sI) sF ?_
    refine gb_take 10 rfl (by decide +kernel) rfl rfl (ys_ev (nw := true) hT rfl sI) sF ?_
    refine gb_all (by decide +kernel) ?_
    refine gball_not (by decide +kernel) ?_
    refine gball_not (by decide +kernel) ?_
    refine gball_not (by decide +kernel) ?_
    refine gball_not (by decide +kernel) ?_
    refine gball_not (by decide +kernel) ?_
    refine gball_not (by decide +kernel) ?_
    refine gball_not (by decide +kernel) ?_
    refine gball_yes rfl rfl ?_ ?_
    · refine mv_yd rfl ((ys_load_el (S := [own 0 31 1 (.slice (some ⟨g, 0, none⟩) n c) E (L)]) (o0 := 0) (sz := 1) (enc := E) (L := L) hT (pv) p 0 rfl rfl rfl (by first | rfl | omega) hp (at_own mE) rfl rfl).ydS sF) ?_
      refine ⟨sF, ?_⟩
      refine gb_only 11 (by decide +kernel) rfl rfl ?_
      refine mv_yd rfl ((ys_load_el (S := [own 0 31 1 (.slice (some ⟨g, 0, none⟩) n c) E (L)]) (o0 := 0) (sz := 1) (enc := E) (L := L) hT (a) x0 0 rfl rfl rfl (by first | rfl | omega) hx0 (at_own mE) rfl rfl).ydS sF) ?_
      refine ⟨sF, ?_⟩
      refine gb_take 12 rfl (by decide +kernel) rfl rfl (ys_ev (nw := true) hT rfl sI) sF ?_
      refine gb_only 13 (by decide +kernel) rfl rfl ?_
      refine mv_store_own (α := El) (g := g) (n := n) (c := c) (base := 0) (e := 31) (sz := 1) (enc := E) (L := L) hT (a) 0 x0 p rfl rfl (by first | rfl | omega) rfl rfl rfl rfl hx0 (by decide) (fun b h1 h2 => absurd h1 (by omega)) rfl (by first | ((repeat (first | with_reducible exact Upd.here _ | with_reducible apply Upd.there)); done) | ((repeat (first | exact Upd.here _ | apply Upd.there)); done) | fail) rfl ?_
      refine ⟨sF, ?_⟩
      refine gb_take 14 rfl (by decide +kernel) rfl rfl (ys_ev (nw := true) hT rfl sI) sF ?_
      refine gb_only 15 (by decide +kernel) rfl rfl ?_
      refine mv_store_own (α := El) (g := g) (n := n) (c := c) (base := 0) (e := 31) (sz := 1) (enc := E) (L := L.set (a) p) hT (pv) 0 p x0 rfl rfl (by first | rfl | omega) rfl rfl rfl rfl hy2 (by decide) (fun b h1 h2 => absurd h1 (by omega)) rfl (by first | ((repeat (first | with_reducible exact Upd.here _ | with_reducible apply Upd.there)); done) | ((repeat (first | exact Upd.here _ | apply Upd.there)); done) | fail) rfl ?_
      refine ⟨sF, ?_⟩
      refine gb_nil (by decide +kernel) ?_
      exact ⟨(), (by repeat (first | exact trivial | refine ⟨rfl, ?_⟩)), sA, List.nil_subset _⟩
    refine gball_not (by decide +kernel) ?_
    refine gball_not (by decide +kernel) ?_
    refine gball_not (by decide +kernel) ?_
    refine gball_yes rfl rfl ?_ ?_
    · refine mv_yd rfl ((ys_load_el (S := [own 0 31 1 (.slice (some ⟨g, 0, none⟩) n c) E (L)]) (o0 := 0) (sz := 1) (enc := E) (L := L) hT (a) x0 0 rfl rfl rfl (by first | rfl | omega) hx0 (at_own mE) rfl rfl).ydS sF) ?_
      refine ⟨sF, ?_⟩
      refine gb_only 7 (by decide +kernel) rfl rfl ?_
      refine mv_yd rfl ((ys_load_el (S := [own 0 31 1 (.slice (some ⟨g, 0, none⟩) n c) E (L)]) (o0 := 0) (sz := 1) (enc := E) (L := L) hT (pv) p 0 rfl rfl rfl (by first | rfl | omega) hp (at_own mE) rfl rfl).ydS sF) ?_
      refine ⟨sF, ?_⟩
      refine gb_take 12 rfl (by decide +kernel) rfl rfl (ys_ev (nw := true) hT rfl sI) sF ?_
      refine gb_only 13 (by decide +kernel) rfl rfl ?_
      refine mv_store_own (α := El) (g := g) (n := n) (c := c) (base := 0) (e := 31) (sz := 1) (enc := E) (L := L) hT (a) 0 x0 p rfl rfl (by first | rfl | omega) rfl rfl rfl rfl hx0 (by decide) (fun b h1 h2 => absurd h1 (by omega)) rfl (by first | ((repeat (first | with_reducible exact Upd.here _ | with_reducible apply Upd.there)); done) | ((repeat (first | exact Upd.here _ | apply Upd.there)); done) | fail) rfl ?_
      refine ⟨sF, ?_⟩
      refine gb_take 14 rfl (by decide +kernel) rfl rfl (ys_ev (nw := true) hT rfl sI) sF ?_
      refine gb_only 15 (by decide +kernel) rfl rfl ?_
      refine mv_store_own (α := El) (g := g) (n := n) (c := c) (base := 0) (e := 31) (sz := 1) (enc := E) (L := L.set (a) p) hT (pv) 0 p x0 rfl rfl (by first | rfl | omega) rfl rfl rfl rfl hy2 (by decide) (fun b h1 h2 => absurd h1 (by omega)) rfl (by first | ((repeat (first | with_reducible exact Upd.here _ | with_reducible apply Upd.there)); done) | ((repeat (first | exact Upd.here _ | apply Upd.there)); done) | fail) rfl ?_
      refine ⟨sF, ?_⟩
      refine gb_nil (by decide +kernel) ?_
      exact ⟨(), (by repeat (first | exact trivial | refine ⟨rfl, ?_⟩)), sA, List.nil_subset _⟩
    refine gball_not (by decide +kernel) ?_
    refine gball_not (by decide +kernel) ?_
    refine gball_not (by decide +kernel) ?_
    refine gball_not (by decide +kernel) ?_
    exact gball_end (by decide +kernel)
  have hL1a := swp_left hx0 hp
  have hs1 : Seg a b L (swp L a pv x0 p) := .swp (Nat.le_refl _) (by omega) hap hpb hx0 hp
  obtain ⟨L1, e1⟩ : ∃ L1, L1 = swp L a pv x0 p := ⟨_, rfl⟩
  rw [← e1] at hL1a hs1 ⊢
  have hl1 := hs1.len
  (repeat (refine gG ?_; try intro _))
  refine gk_say 10 (.int .i64 ((a + 1 : Nat) : Int)) rfl (by first | (congr 1; done) | (congr 1; omega)) ?_
  refine gk_say 11 (.int .i64 ((b - 1 : Nat) : Int)) rfl (by first | (congr 1; done) | (congr 1; omega)) ?_
  refine gk_loop_sel (fun (q : Nat × Unit) => match q with | (i, z) => (a + 1 ≤ i ∧ a < i ∧ i ≤ (b - 1) + 1 ∧ PInv lt a b p i (b - 1) L1)) (fun (q : Nat × Unit) => match q with | (i, z) => [(0, .slice (some ⟨g, 0, none⟩) n c), (1, (.int .i64 (a : Int))), (2, (.int .i64 (b : Int))), (3, (.int .i64 (pv : Int))), (8, (.int .i64 0)), (9, (.bool false)), (10, (.int .i64 (i : Int))), (11, (.int .i64 (((b - 1) : Nat) : Int)))]) (fun (q : Nat × Unit) => match q with | (i, z) => [rF g n c L1]) (fun (q : Nat × Unit) => match q with | (i, z) => []) (fun (q : Nat × Unit) => match q with | (i, z) => (b - 1) + 1 - i) (a + 1, ()) rfl ⟨Nat.le_refl _, by omega, by omega, .start hL1a⟩ (by repeat (first | exact trivial | refine ⟨rfl, ?_⟩)) sA sS ?_
  rintro ⟨i, z⟩ hI
  replace hI : (a + 1 ≤ i ∧ a < i ∧ i ≤ (b - 1) + 1 ∧ PInv lt a b p i (b - 1) L1) := hI
  change GK _ _ [(0, .slice (some ⟨g, 0, none⟩) n c), (1, (.int .i64 (a : Int))), (2, (.int .i64 (b : Int))), (3, (.int .i64 (pv : Int))), (8, (.int .i64 0)), (9, (.bool false)), (10, (.int .i64 (i : Int))), (11, (.int .i64 (((b - 1) : Nat) : Int)))] [rF g n c L1] []
  obtain ⟨i0, i1, i2, hP⟩ := hI
  have hpa := hP.at'
  obtain ⟨jo, hj0⟩ : ∃ jo, jo = (b - 1) := ⟨_, rfl⟩
  rw [← hj0] at i2 hP ⊢
  have hjb : jo < b := by omega
  refine gk_any [0] (Cut _ (fun r : { r : Bool // (r = true → (i ≤ jo ∧ ∃ x, L1[i]? = some x ∧ lt x p)) ∧ (r = false → ∀ x, i ≤ jo → L1[i]? = some x → ¬ lt x p) } => [(0, .slice (some ⟨g, 0, none⟩) n c), (1, (.int .i64 (a : Int))), (2, (.int .i64 (b : Int))), (3, (.int .i64 (pv : Int))), (8, (.int .i64 0)), (9, (.bool false)), (10, (.int .i64 (i : Int))), (11, (.int .i64 (jo : Int))), (43, .bool r.1)]) (fun _ => [rF g n c L1]) (fun _ => [])) rfl rfl (by kernel_rfl) ?_ (cut_k fun r => ?_)
  · by_cases hij : i ≤ jo
    · obtain ⟨x, hx⟩ : ∃ x, L1[i]? = some x := ⟨_, List.getElem?_eq_getElem (by omega)⟩
      by_cases hl : lt x p
      · skip
        refine gb_take 0 rfl (by decide +kernel) rfl rfl (ys_ev (nw := true) hT rfl sI) sF ?_
        refine gb_take 1 rfl (by decide +kernel) rfl rfl (ys_ev (nw := true) hT rfl sI) sF ?_
        refine gb_take 2 rfl (by decide +kernel) rfl rfl (ys_ev (nw := true) hT rfl sI) sF ?_
        refine gb_take 3 rfl (by decide +kernel) rfl rfl (ys_ev (nw := true) hT rfl sI) sF ?_
        try (refine gb_say 33 (.bool true) rfl (congrArg Value.bool (tB_true (by omega))) ?_)
        first | refine gb_take 4 rfl (by decide +kernel) rfl rfl (ys_ev (nw := true) hT rfl sI) sF ?_ | refine gb_skip 4 rfl (by decide +kernel) rfl rfl sF ?_
        first | refine gb_take 5 rfl (by decide +kernel) rfl rfl (ys_ev (nw := true) hT rfl sI) sF ?_ | refine gb_skip 5 rfl (by decide +kernel) rfl rfl sF ?_
        first | refine gb_take 6 rfl (by decide +kernel) rfl rfl (ys_ev (nw := true) hT rfl sI) sF ?_ | refine gb_skip 6 rfl (by decide +kernel) rfl rfl sF ?_
        first | refine gb_take 7 rfl (by decide +kernel) rfl rfl (ys_load_el (S := [own 0 31 1 (.slice (some ⟨g, 0, none⟩) n c) E (L1)]) (o0 := 0) (sz := 1) (enc := E) (L := L1) hT (i) x 0 rfl rfl rfl (by first | rfl | omega) hx (at_own mE) rfl rfl) sF ?_ | refine gb_skip 7 rfl (by decide +kernel) rfl rfl sF ?_
        first | refine gb_take 8 rfl (by decide +kernel) rfl rfl (ys_ev (nw := true) hT rfl sI) sF ?_ | refine gb_skip 8 rfl (by decide +kernel) rfl rfl sF ?_
        first | refine gb_take 9 rfl (by decide +kernel) rfl rfl (ys_ev (nw := true) hT rfl sI) sF ?_ | refine gb_skip 9 rfl (by decide +kernel) rfl rfl sF ?_
        first | refine gb_take 10 rfl (by decide +kernel) rfl rfl (ys_ev (nw := true) hT rfl sI) sF ?_ | refine gb_skip 10 rfl (by decide +kernel) rfl rfl sF ?_
        first | refine gb_take 11 rfl (by decide +kernel) rfl rfl (ys_load_el (S := [own 0 31 1 (.slice (some ⟨g, 0, none⟩) n c) E (L1)]) (o0 := 0) (sz := 1) (enc := E) (L := L1) hT (a) p 0 rfl rfl rfl (by first | rfl | omega) hpa (at_own mE) rfl rfl) sF ?_ | refine gb_skip 11 rfl (by decide +kernel) rfl rfl sF ?_
        first | refine gb_skip 12 rfl (by decide +kernel) rfl rfl sF ?_ | (refine gb_only 12 (by decide +kernel) rfl rfl ?_; (refine mv_call_bel (fun w hk => less_any x p w) rfl rfl rfl rfl rfl (by kernel_rfl) ?_); refine ⟨sF, ?_⟩)
        try (refine gb_say 42 (.bool true) rfl (congrArg Value.bool (tB_true hl)) ?_)
        refine gb_take 13 rfl (by decide +kernel) rfl rfl (ys_ev (nw := true) hT rfl sI) sF ?_
        refine gb_nil (by decide +kernel) ?_
        exact ⟨⟨true, ⟨fun _ => ⟨hij, x, hx, hl⟩, fun h => (by cases h)⟩⟩, (by repeat (first | exact trivial | refine ⟨rfl, ?_⟩)), sA, sS⟩
      · skip
        refine gb_take 0 rfl (by decide +kernel) rfl rfl (ys_ev (nw := true) hT rfl sI) sF ?_
        refine gb_take 1 rfl (by decide +kernel) rfl rfl (ys_ev (nw := true) hT rfl sI) sF ?_
        refine gb_take 2 rfl (by decide +kernel) rfl rfl (ys_ev (nw := true) hT rfl sI) sF ?_
        refine gb_take 3 rfl (by decide +kernel) rfl rfl (ys_ev (nw := true) hT rfl sI) sF ?_
        try (refine gb_say 33 (.bool true) rfl (congrArg Value.bool (tB_true (by omega))) ?_)
        first | refine gb_take 4 rfl (by decide +kernel) rfl rfl (ys_ev (nw := true) hT rfl sI) sF ?_ | refine gb_skip 4 rfl (by decide +kernel) rfl rfl sF ?_
        first | refine gb_take 5 rfl (by decide +kernel) rfl rfl (ys_ev (nw := true) hT rfl sI) sF ?_ | refine gb_skip 5 rfl (by decide +kernel) rfl rfl sF ?_
        first | refine gb_take 6 rfl (by decide +kernel) rfl rfl (ys_ev (nw := true) hT rfl sI) sF ?_ | refine gb_skip 6 rfl (by decide +kernel) rfl rfl sF ?_
        first | refine gb_take 7 rfl (by decide +kernel) rfl rfl (ys_load_el (S := [own 0 31 1 (.slice (some ⟨g, 0, none⟩) n c) E (L1)]) (o0 := 0) (sz := 1) (enc := E) (L := L1) hT (i) x 0 rfl rfl rfl (by first | rfl | omega) hx (at_own mE) rfl rfl) sF ?_ | refine gb_skip 7 rfl (by decide +kernel) rfl rfl sF ?_
        first | refine gb_take 8 rfl (by decide +kernel) rfl rfl (ys_ev (nw := true) hT rfl sI) sF ?_ | refine gb_skip 8 rfl (by decide +kernel) rfl rfl sF ?_
        first | refine gb_take 9 rfl (by decide +kernel) rfl rfl (ys_ev (nw := true) hT rfl sI) sF ?_ | refine gb_skip 9 rfl (by decide +kernel) rfl rfl sF ?_
        first | refine gb_take 10 rfl (by decide +kernel) rfl rfl (ys_ev (nw := true) hT rfl sI) sF ?_ | refine gb_skip 10 rfl (by decide +kernel) rfl rfl sF ?_
        first | refine gb_take 11 rfl (by decide +kernel) rfl rfl (ys_load_el (S := [own 0 31 1 (.slice (some ⟨g, 0, none⟩) n c) E (L1)]) (o0 := 0) (sz := 1) (enc := E) (L := L1) hT (a) p 0 rfl rfl rfl (by first | rfl | omega) hpa (at_own mE) rfl rfl) sF ?_ | refine gb_skip 11 rfl (by decide +kernel) rfl rfl sF ?_
        first | refine gb_skip 12 rfl (by decide +kernel) rfl rfl sF ?_ | (refine gb_only 12 (by decide +kernel) rfl rfl ?_; (refine mv_call_bel (fun w hk => less_any x p w) rfl rfl rfl rfl rfl (by kernel_rfl) ?_); refine ⟨sF, ?_⟩)
        try (refine gb_say 42 (.bool false) rfl (congrArg Value.bool (tB_false hl)) ?_)
        refine gb_take 13 rfl (by decide +kernel) rfl rfl (ys_ev (nw := true) hT rfl sI) sF ?_
        refine gb_nil (by decide +kernel) ?_
        exact ⟨⟨false, ⟨fun h => (by cases h), fun _ x' _ hx' => by rw [hx] at hx'; cases hx'; exact hl⟩⟩, (by repeat (first | exact trivial | refine ⟨rfl, ?_⟩)), sA, sS⟩
    · skip
      refine gb_take 0 rfl (by decide +kernel) rfl rfl (ys_ev (nw := true) hT rfl sI) sF ?_
      refine gb_take 1 rfl (by decide +kernel) rfl rfl (ys_ev (nw := true) hT rfl sI) sF ?_
      refine gb_take 2 rfl (by decide +kernel) rfl rfl (ys_ev (nw := true) hT rfl sI) sF ?_
      refine gb_take 3 rfl (by decide +kernel) rfl rfl (ys_ev (nw := true) hT rfl sI) sF ?_
      try (refine gb_say 33 (.bool false) rfl (congrArg Value.bool (tB_false (by omega))) ?_)
      first | refine gb_take 4 rfl (by decide +kernel) rfl rfl (ys_ev (nw := true) hT rfl sI) sF ?_ | refine gb_skip 4 rfl (by decide +kernel) rfl rfl sF ?_
      first | refine gb_take 5 rfl (by decide +kernel) rfl rfl (ys_ev (nw := true) hT rfl sI) sF ?_ | refine gb_skip 5 rfl (by decide +kernel) rfl rfl sF ?_
      first | refine gb_take 6 rfl (by decide +kernel) rfl rfl (ys_ev (nw := true) hT rfl sI) sF ?_ | refine gb_skip 6 rfl (by decide +kernel) rfl rfl sF ?_
      first | refine gb_take 7 rfl (by decide +kernel) rfl rfl (by first | exact ys_blk hT rfl rfl mE rfl rfl | exact ys_row hT rfl rfl mE rfl rfl | exact ys_row0 hT rfl rfl mE rfl rfl) sF ?_ | refine gb_skip 7 rfl (by decide +kernel) rfl rfl sF ?_
      first | refine gb_take 8 rfl (by decide +kernel) rfl rfl (ys_ev (nw := true) hT rfl sI) sF ?_ | refine gb_skip 8 rfl (by decide +kernel) rfl rfl sF ?_
      first | refine gb_take 9 rfl (by decide +kernel) rfl rfl (ys_ev (nw := true) hT rfl sI) sF ?_ | refine gb_skip 9 rfl (by decide +kernel) rfl rfl sF ?_
      first | refine gb_take 10 rfl (by decide +kernel) rfl rfl (ys_ev (nw := true) hT rfl sI) sF ?_ | refine gb_skip 10 rfl (by decide +kernel) rfl rfl sF ?_
      first | refine gb_take 11 rfl (by decide +kernel) rfl rfl (by first | exact ys_blk hT rfl rfl mE rfl rfl | exact ys_row hT rfl rfl mE rfl rfl | exact ys_row0 hT rfl rfl mE rfl rfl) sF ?_ | refine gb_skip 11 rfl (by decide +kernel) rfl rfl sF ?_
      first | refine gb_skip 12 rfl (by decide +kernel) rfl rfl sF ?_ | (refine gb_only 12 (by decide +kernel) rfl rfl ?_; (skip); refine ⟨sF, ?_⟩)
      refine gb_take 13 rfl (by decide +kernel) rfl rfl (ys_ev (nw := true) hT rfl sI) sF ?_
      refine gb_nil (by decide +kernel) ?_
      exact ⟨⟨false, ⟨fun h => (by cases h), fun _ x h => absurd h hij⟩⟩, (by repeat (first | exact trivial | refine ⟨rfl, ?_⟩)), sA, sS⟩
  obtain ⟨r, hr1, hr2⟩ := r
  by_cases hr : r = true
  · subst hr
    obtain ⟨hij, x, hx, hl⟩ := hr1 rfl
    (repeat (refine gG ?_; try intro _))
    refine gk_say 10 (.int .i64 ((i + 1 : Nat) : Int)) rfl (by first | (congr 1; done) | (congr 1; omega)) ?_
    subst hj0
    refine gk_again_sel rfl (i + 1, ()) ⟨by omega, by omega, by omega, hP.left hx hl⟩ (by dsimp only; omega) (by repeat (first | exact trivial | refine ⟨rfl, ?_⟩)) sA sS
  obtain rfl : r = false := by simpa using hr
  have h1 := hr2 rfl
  dsimp only
  clear hr hr1 hr2
  (repeat (refine gG ?_; try intro _))
  refine gk_loop_sel (fun (q : Nat × Unit) => match q with | (j, z) => (a ≤ j ∧ j < b ∧ j ≤ jo ∧ i ≤ j + 1 ∧ PInv lt a b p i j L1)) (fun (q : Nat × Unit) => match q with | (j, z) => [(0, .slice (some ⟨g, 0, none⟩) n c), (1, (.int .i64 (a : Int))), (2, (.int .i64 (b : Int))), (3, (.int .i64 (pv : Int))), (8, (.int .i64 0)), (9, (.bool false)), (10, (.int .i64 (i : Int))), (11, (.int .i64 (j : Int)))]) (fun (q : Nat × Unit) => match q with | (j, z) => [rF g n c L1]) (fun (q : Nat × Unit) => match q with | (j, z) => []) (fun (q : Nat × Unit) => match q with | (j, z) => j) (jo, ()) rfl ⟨by omega, hjb, Nat.le_refl _, i2, hP⟩ (by repeat (first | exact trivial | refine ⟨rfl, ?_⟩)) sA sS ?_
  rintro ⟨j, z⟩ hI
  replace hI : (a ≤ j ∧ j < b ∧ j ≤ jo ∧ i ≤ j + 1 ∧ PInv lt a b p i j L1) := hI
  change GK _ _ [(0, .slice (some ⟨g, 0, none⟩) n c), (1, (.int .i64 (a : Int))), (2, (.int .i64 (b : Int))), (3, (.int .i64 (pv : Int))), (8, (.int .i64 0)), (9, (.bool false)), (10, (.int .i64 (i : Int))), (11, (.int .i64 (j : Int)))] [rF g n c L1] []
  obtain ⟨j1, j2', j3, i2', hP'⟩ := hI
  have h1'' : ∀ x, i ≤ j → L1[i]? = some x → ¬ lt x p := fun x h h' => h1 x (by omega) h'
  clear h1
  have hpa := hP'.at'
  refine gk_any [0] (Cut _ (fun r : { r : Bool // (r = true → (i ≤ j ∧ ∃ x, L1[j]? = some x ∧ ¬ lt x p)) ∧ (r = false → ∀ x, i ≤ j → L1[j]? = some x → lt x p) } => [(0, .slice (some ⟨g, 0, none⟩) n c), (1, (.int .i64 (a : Int))), (2, (.int .i64 (b : Int))), (3, (.int .i64 (pv : Int))), (8, (.int .i64 0)), (9, (.bool false)), (10, (.int .i64 (i : Int))), (11, (.int .i64 (j : Int))), (60, .bool r.1)]) (fun _ => [rF g n c L1]) (fun _ => [])) rfl rfl (by kernel_rfl) ?_ (cut_k fun r => ?_)
  · by_cases hij : i ≤ j
    · obtain ⟨x, hx⟩ : ∃ x, L1[j]? = some x := ⟨_, List.getElem?_eq_getElem (by omega)⟩
      by_cases hl : lt x p
      · skip
        refine gb_take 0 rfl (by decide +kernel) rfl rfl (ys_ev (nw := true) hT rfl sI) sF ?_
        refine gb_take 1 rfl (by decide +kernel) rfl rfl (ys_ev (nw := true) hT rfl sI) sF ?_
        refine gb_take 2 rfl (by decide +kernel) rfl rfl (ys_ev (nw := true) hT rfl sI) sF ?_
        refine gb_take 3 rfl (by decide +kernel) rfl rfl (ys_ev (nw := true) hT rfl sI) sF ?_
        try (refine gb_say 49 (.bool true) rfl (congrArg Value.bool (tB_true (by omega))) ?_)
        first | refine gb_take 4 rfl (by decide +kernel) rfl rfl (ys_ev (nw := true) hT rfl sI) sF ?_ | refine gb_skip 4 rfl (by decide +kernel) rfl rfl sF ?_
        first | refine gb_take 5 rfl (by decide +kernel) rfl rfl (ys_ev (nw := true) hT rfl sI) sF ?_ | refine gb_skip 5 rfl (by decide +kernel) rfl rfl sF ?_
        first | refine gb_take 6 rfl (by decide +kernel) rfl rfl (ys_ev (nw := true) hT rfl sI) sF ?_ | refine gb_skip 6 rfl (by decide +kernel) rfl rfl sF ?_
        first | refine gb_take 7 rfl (by decide +kernel) rfl rfl (ys_load_el (S := [own 0 31 1 (.slice (some ⟨g, 0, none⟩) n c) E (L1)]) (o0 := 0) (sz := 1) (enc := E) (L := L1) hT (j) x 0 rfl rfl rfl (by first | rfl | omega) hx (at_own mE) rfl rfl) sF ?_ | refine gb_skip 7 rfl (by decide +kernel) rfl rfl sF ?_
        first | refine gb_take 8 rfl (by decide +kernel) rfl rfl (ys_ev (nw := true) hT rfl sI) sF ?_ | refine gb_skip 8 rfl (by decide +kernel) rfl rfl sF ?_
        first | refine gb_take 9 rfl (by decide +kernel) rfl rfl (ys_ev (nw := true) hT rfl sI) sF ?_ | refine gb_skip 9 rfl (by decide +kernel) rfl rfl sF ?_
        first | refine gb_take 10 rfl (by decide +kernel) rfl rfl (ys_ev (nw := true) hT rfl sI) sF ?_ | refine gb_skip 10 rfl (by decide +kernel) rfl rfl sF ?_
        first | refine gb_take 11 rfl (by decide +kernel) rfl rfl (ys_load_el (S := [own 0 31 1 (.slice (some ⟨g, 0, none⟩) n c) E (L1)]) (o0 := 0) (sz := 1) (enc := E) (L := L1) hT (a) p 0 rfl rfl rfl (by first | rfl | omega) hpa (at_own mE) rfl rfl) sF ?_ | refine gb_skip 11 rfl (by decide +kernel) rfl rfl sF ?_
        first | refine gb_skip 12 rfl (by decide +kernel) rfl rfl sF ?_ | (refine gb_only 12 (by decide +kernel) rfl rfl ?_; (refine mv_call_bel (fun w hk => less_any x p w) rfl rfl rfl rfl rfl (by kernel_rfl) ?_); refine ⟨sF, ?_⟩)
        try (refine gb_say 58 (.bool true) rfl (congrArg Value.bool (tB_true hl)) ?_)
        first | refine gb_take 13 rfl (by decide +kernel) rfl rfl (ys_ev (nw := true) hT rfl sI) sF ?_ | refine gb_skip 13 rfl (by decide +kernel) rfl rfl sF ?_
        refine gb_take 14 rfl (by decide +kernel) rfl rfl (ys_ev (nw := true) hT rfl sI) sF ?_
        refine gb_nil (by decide +kernel) ?_
        exact ⟨⟨false, ⟨fun h => (by cases h), fun _ x' _ hx' => by rw [hx] at hx'; cases hx'; exact hl⟩⟩, (by repeat (first | exact trivial | refine ⟨rfl, ?_⟩)), sA, sS⟩
      · skip
        refine gb_take 0 rfl (by decide +kernel) rfl rfl (ys_ev (nw := true) hT rfl sI) sF ?_
        refine gb_take 1 rfl (by decide +kernel) rfl rfl (ys_ev (nw := true) hT rfl sI) sF ?_
        refine gb_take 2 rfl (by decide +kernel) rfl rfl (ys_ev (nw := true) hT rfl sI) sF ?_
        refine gb_take 3 rfl (by decide +kernel) rfl rfl (ys_ev (nw := true) hT rfl sI) sF ?_
        try (refine gb_say 49 (.bool true) rfl (congrArg Value.bool (tB_true (by omega))) ?_)
        first | refine gb_take 4 rfl (by decide +kernel) rfl rfl (ys_ev (nw := true) hT rfl sI) sF ?_ | refine gb_skip 4 rfl (by decide +kernel) rfl rfl sF ?_
        first | refine gb_take 5 rfl (by decide +kernel) rfl rfl (ys_ev (nw := true) hT rfl sI) sF ?_ | refine gb_skip 5 rfl (by decide +kernel) rfl rfl sF ?_
        first | refine gb_take 6 rfl (by decide +kernel) rfl rfl (ys_ev (nw := true) hT rfl sI) sF ?_ | refine gb_skip 6 rfl (by decide +kernel) rfl rfl sF ?_
        first | refine gb_take 7 rfl (by decide +kernel) rfl rfl (ys_load_el (S := [own 0 31 1 (.slice (some ⟨g, 0, none⟩) n c) E (L1)]) (o0 := 0) (sz := 1) (enc := E) (L := L1) hT (j) x 0 rfl rfl rfl (by first | rfl | omega) hx (at_own mE) rfl rfl) sF ?_ | refine gb_skip 7 rfl (by decide +kernel) rfl rfl sF ?_
        first | refine gb_take 8 rfl (by decide +kernel) rfl rfl (ys_ev (nw := true) hT rfl sI) sF ?_ | refine gb_skip 8 rfl (by decide +kernel) rfl rfl sF ?_
        first | refine gb_take 9 rfl (by decide +kernel) rfl rfl (ys_ev (nw := true) hT rfl sI) sF ?_ | refine gb_skip 9 rfl (by decide +kernel) rfl rfl sF ?_
        first | refine gb_take 10 rfl (by decide +kernel) rfl rfl (ys_ev (nw := true) hT rfl sI) sF ?_ | refine gb_skip 10 rfl (by decide +kernel) rfl rfl sF ?_
        first | refine gb_take 11 rfl (by decide +kernel) rfl rfl (ys_load_el (S := [own 0 31 1 (.slice (some ⟨g, 0, none⟩) n c) E (L1)]) (o0 := 0) (sz := 1) (enc := E) (L := L1) hT (a) p 0 rfl rfl rfl (by first | rfl | omega) hpa (at_own mE) rfl rfl) sF ?_ | refine gb_skip 11 rfl (by decide +kernel) rfl rfl sF ?_
        first | refine gb_skip 12 rfl (by decide +kernel) rfl rfl sF ?_ | (refine gb_only 12 (by decide +kernel) rfl rfl ?_; (refine mv_call_bel (fun w hk => less_any x p w) rfl rfl rfl rfl rfl (by kernel_rfl) ?_); refine ⟨sF, ?_⟩)
        try (refine gb_say 58 (.bool false) rfl (congrArg Value.bool (tB_false hl)) ?_)
        first | refine gb_take 13 rfl (by decide +kernel) rfl rfl (ys_ev (nw := true) hT rfl sI) sF ?_ | refine gb_skip 13 rfl (by decide +kernel) rfl rfl sF ?_
        refine gb_take 14 rfl (by decide +kernel) rfl rfl (ys_ev (nw := true) hT rfl sI) sF ?_
        refine gb_nil (by decide +kernel) ?_
        exact ⟨⟨true, ⟨fun _ => ⟨hij, x, hx, hl⟩, fun h => (by cases h)⟩⟩, (by repeat (first | exact trivial | refine ⟨rfl, ?_⟩)), sA, sS⟩
    · skip
      refine gb_take 0 rfl (by decide +kernel) rfl rfl (ys_ev (nw := true) hT rfl sI) sF ?_
      refine gb_take 1 rfl (by decide +kernel) rfl rfl (ys_ev (nw := true) hT rfl sI) sF ?_
      refine gb_take 2 rfl (by decide +kernel) rfl rfl (ys_ev (nw := true) hT rfl sI) sF ?_
      refine gb_take 3 rfl (by decide +kernel) rfl rfl (ys_ev (nw := true) hT rfl sI) sF ?_
      try (refine gb_say 49 (.bool false) rfl (congrArg Value.bool (tB_false (by omega))) ?_)
      first | refine gb_take 4 rfl (by decide +kernel) rfl rfl (ys_ev (nw := true) hT rfl sI) sF ?_ | refine gb_skip 4 rfl (by decide +kernel) rfl rfl sF ?_
      first | refine gb_take 5 rfl (by decide +kernel) rfl rfl (ys_ev (nw := true) hT rfl sI) sF ?_ | refine gb_skip 5 rfl (by decide +kernel) rfl rfl sF ?_
      first | refine gb_take 6 rfl (by decide +kernel) rfl rfl (ys_ev (nw := true) hT rfl sI) sF ?_ | refine gb_skip 6 rfl (by decide +kernel) rfl rfl sF ?_
      first | refine gb_take 7 rfl (by decide +kernel) rfl rfl (by first | exact ys_blk hT rfl rfl mE rfl rfl | exact ys_row hT rfl rfl mE rfl rfl | exact ys_row0 hT rfl rfl mE rfl rfl) sF ?_ | refine gb_skip 7 rfl (by decide +kernel) rfl rfl sF ?_
      first | refine gb_take 8 rfl (by decide +kernel) rfl rfl (ys_ev (nw := true) hT rfl sI) sF ?_ | refine gb_skip 8 rfl (by decide +kernel) rfl rfl sF ?_
      first | refine gb_take 9 rfl (by decide +kernel) rfl rfl (ys_ev (nw := true) hT rfl sI) sF ?_ | refine gb_skip 9 rfl (by decide +kernel) rfl rfl sF ?_
      first | refine gb_take 10 rfl (by decide +kernel) rfl rfl (ys_ev (nw := true) hT rfl sI) sF ?_ | refine gb_skip 10 rfl (by decide +kernel) rfl rfl sF ?_
      first | refine gb_take 11 rfl (by decide +kernel) rfl rfl (by first | exact ys_blk hT rfl rfl mE rfl rfl | exact ys_row hT rfl rfl mE rfl rfl | exact ys_row0 hT rfl rfl mE rfl rfl) sF ?_ | refine gb_skip 11 rfl (by decide +kernel) rfl rfl sF ?_
      first | refine gb_skip 12 rfl (by decide +kernel) rfl rfl sF ?_ | (refine gb_only 12 (by decide +kernel) rfl rfl ?_; (skip); refine ⟨sF, ?_⟩)
      first | refine gb_take 13 rfl (by decide +kernel) rfl rfl (ys_ev (nw := true) hT rfl sI) sF ?_ | refine gb_skip 13 rfl (by decide +kernel) rfl rfl sF ?_
      refine gb_take 14 rfl (by decide +kernel) rfl rfl (ys_ev (nw := true) hT rfl sI) sF ?_
      refine gb_nil (by decide +kernel) ?_
      exact ⟨⟨false, ⟨fun h => (by cases h), fun _ x h => absurd h hij⟩⟩, (by repeat (first | exact trivial | refine ⟨rfl, ?_⟩)), sA, sS⟩
  obtain ⟨r, hr1, hr2⟩ := r
  by_cases hr : r = true
  · subst hr
    obtain ⟨hij, x, hx, hl⟩ := hr1 rfl
    (repeat (refine gG ?_; try intro _))
    refine gk_say 11 (.int .i64 ((j - 1 : Nat) : Int)) rfl (by first | (congr 1; done) | (congr 1; omega)) ?_
    refine gk_again_sel rfl (j - 1, ()) ⟨by omega, by omega, by omega, by omega, hP'.right (by omega) hx hl⟩ (by dsimp only; omega) (by repeat (first | exact trivial | refine ⟨rfl, ?_⟩)) sA sS
  obtain rfl : r = false := by simpa using hr
  have h2 := hr2 rfl
  dsimp only
  clear hr hr1 hr2
  by_cases hji : j < i
  · (repeat' (first | (refine gG ?_; try intro _) | ((first | refine g_split rfl rfl tE (fun _ => ?_) (fun _ => ?_) | refine gk_cond rfl rfl tE (fun _ => ?_) (fun _ => ?_)) <;> (try first | (exfalso; omega; done) | (rename_i hx; exact absurd rfl hx) | (rename_i hx; cases hx; done)))))
    obtain ⟨y, hy⟩ : ∃ y, L1[j]? = some y := ⟨_, List.getElem?_eq_getElem (by omega)⟩
    have hy2 : (L1.set (j) p)[a]? = some p := set_other hy hpa
    refine gk_any [] (Cut _ (fun _ : Unit => [(0, .slice (some ⟨g, 0, none⟩) n c), (1, (.int .i64 (a : Int))), (2, (.int .i64 (b : Int))), (3, (.int .i64 (pv : Int))), (8, (.int .i64 0)), (9, (.bool false)), (10, (.int .i64 (i : Int))), (11, (.int .i64 (j : Int)))]) (fun _ => [rF g n c (swp L1 j a y p)]) (fun _ => [])) rfl rfl (by kernel_rfl) ?_ (cut_k fun _ => ?_)
    · skip
      refine gb_take 0 rfl (by decide +kernel) rfl rfl (ys_ev (nw := true) hT rfl sI) sF ?_
      refine gb_take 1 rfl (by decide +kernel) rfl rfl (ys_ev (nw := true) hT rfl sI) sF ?_
      refine gb_take 2 rfl (by decide +kernel) rfl rfl (ys_ev (nw := true) hT rfl sI) sF ?_
      refine gb_take 3 rfl (by decide +kernel) rfl rfl (ys_ev (nw := true) hT rfl sI) sF ?_
      refine gb_take 4 rfl (by decide +kernel) rfl rfl (ys_ev (nw := true) hT rfl sI) sF ?_
      refine gb_take 5 rfl (by decide +kernel) rfl rfl (ys_ev (nw := true) hT rfl sI) sF ?_
      refine gb_take 6 rfl (by decide +kernel) rfl rfl (ys_ev (nw := true) hT rfl sI) sF ?_
      refine gb_take 8 rfl (by decide +kernel) rfl rfl (ys_ev (nw := true) hT rfl sI) sF ?_
      refine gb_take 9 rfl (by decide +kernel) rfl rfl (ys_ev (nw := true) hT rfl sI) sF ?_
      refine gb_take 10 rfl (by decide +kernel) rfl rfl (ys_ev (nw := true) hT rfl sI) sF ?_
      refine gb_all (by decide +kernel) ?_
      refine gball_not (by decide +kernel) ?_
      refine gball_not (by decide +kernel) ?_
      refine gball_not (by decide +kernel) ?_
      refine gball_not (by decide +kernel) ?_
      refine gball_not (by decide +kernel) ?_
      refine gball_not (by decide +kernel) ?_
      refine gball_not (by decide +kernel) ?_
      refine gball_yes rfl rfl ?_ ?_
      · refine mv_yd rfl ((ys_load_el (S := [own 0 31 1 (.slice (some ⟨g, 0, none⟩) n c) E (L1)]) (o0 := 0) (sz := 1) (enc := E) (L := L1) hT (a) p 0 rfl rfl rfl (by first | rfl | omega) hpa (at_own mE) rfl rfl).ydS sF) ?_
        refine ⟨sF, ?_⟩
        refine gb_only 11 (by decide +kernel) rfl rfl ?_
        refine mv_yd rfl ((ys_load_el (S := [own 0 31 1 (.slice (some ⟨g, 0, none⟩) n c) E (L1)]) (o0 := 0) (sz := 1) (enc := E) (L := L1) hT (j) y 0 rfl rfl rfl (by first | rfl | omega) hy (at_own mE) rfl rfl).ydS sF) ?_
        refine ⟨sF, ?_⟩
        refine gb_take 12 rfl (by decide +kernel) rfl rfl (ys_ev (nw := true) hT rfl sI) sF ?_
        refine gb_only 13 (by decide +kernel) rfl rfl ?_
        refine mv_store_own (α := El) (g := g) (n := n) (c := c) (base := 0) (e := 31) (sz := 1) (enc := E) (L := L1) hT (j) 0 y p rfl rfl (by first | rfl | omega) rfl rfl rfl rfl hy (by decide) (fun b h1 h2 => absurd h1 (by omega)) rfl (by first | ((repeat (first | with_reducible exact Upd.here _ | with_reducible apply Upd.there)); done) | ((repeat (first | exact Upd.here _ | apply Upd.there)); done) | fail) rfl ?_
        refine ⟨sF, ?_⟩
        refine gb_take 14 rfl (by decide +kernel) rfl rfl (ys_ev (nw := true) hT rfl sI) sF ?_
        refine gb_only 15 (by decide +kernel) rfl rfl ?_
        refine mv_store_own (α := El) (g := g) (n := n) (c := c) (base := 0) (e := 31) (sz := 1) (enc := E) (L := L1.set (j) p) hT (a) 0 p y rfl rfl (by first | rfl | omega) rfl rfl rfl rfl hy2 (by decide) (fun b h1 h2 => absurd h1 (by omega)) rfl (by first | ((repeat (first | with_reducible exact Upd.here _ | with_reducible apply Upd.there)); done) | ((repeat (first | exact Upd.here _ | apply Upd.there)); done) | fail) rfl ?_
        refine ⟨sF, ?_⟩
        refine gb_nil (by decide +kernel) ?_
        exact ⟨(), (by repeat (first | exact trivial | refine ⟨rfl, ?_⟩)), sA, List.nil_subset _⟩
      refine gball_not (by decide +kernel) ?_
      refine gball_not (by decide +kernel) ?_
      refine gball_not (by decide +kernel) ?_
      refine gball_yes rfl rfl ?_ ?_
      · refine mv_yd rfl ((ys_load_el (S := [own 0 31 1 (.slice (some ⟨g, 0, none⟩) n c) E (L1)]) (o0 := 0) (sz := 1) (enc := E) (L := L1) hT (j) y 0 rfl rfl rfl (by first | rfl | omega) hy (at_own mE) rfl rfl).ydS sF) ?_
        refine ⟨sF, ?_⟩
        refine gb_only 7 (by decide +kernel) rfl rfl ?_
        refine mv_yd rfl ((ys_load_el (S := [own 0 31 1 (.slice (some ⟨g, 0, none⟩) n c) E (L1)]) (o0 := 0) (sz := 1) (enc := E) (L := L1) hT (a) p 0 rfl rfl rfl (by first | rfl | omega) hpa (at_own mE) rfl rfl).ydS sF) ?_
        refine ⟨sF, ?_⟩
        refine gb_take 12 rfl (by decide +kernel) rfl rfl (ys_ev (nw := true) hT rfl sI) sF ?_
        refine gb_only 13 (by decide +kernel) rfl rfl ?_
        refine mv_store_own (α := El) (g := g) (n := n) (c := c) (base := 0) (e := 31) (sz := 1) (enc := E) (L := L1) hT (j) 0 y p rfl rfl (by first | rfl | omega) rfl rfl rfl rfl hy (by decide) (fun b h1 h2 => absurd h1 (by omega)) rfl (by first | ((repeat (first | with_reducible exact Upd.here _ | with_reducible apply Upd.there)); done) | ((repeat (first | exact Upd.here _ | apply Upd.there)); done) | fail) rfl ?_
        refine ⟨sF, ?_⟩
        refine gb_take 14 rfl (by decide +kernel) rfl rfl (ys_ev (nw := true) hT rfl sI) sF ?_
        refine gb_only 15 (by decide +kernel) rfl rfl ?_
        refine mv_store_own (α := El) (g := g) (n := n) (c := c) (base := 0) (e := 31) (sz := 1) (enc := E) (L := L1.set (j) p) hT (a) 0 p y rfl rfl (by first | rfl | omega) rfl rfl rfl rfl hy2 (by decide) (fun b h1 h2 => absurd h1 (by omega)) rfl (by first | ((repeat (first | with_reducible exact Upd.here _ | with_reducible apply Upd.there)); done) | ((repeat (first | exact Upd.here _ | apply Upd.there)); done) | fail) rfl ?_
        refine ⟨sF, ?_⟩
        refine gb_nil (by decide +kernel) ?_
        exact ⟨(), (by repeat (first | exact trivial | refine ⟨rfl, ?_⟩)), sA, List.nil_subset _⟩
      refine gball_not (by decide +kernel) ?_
      refine gball_not (by decide +kernel) ?_
      refine gball_not (by decide +kernel) ?_
      refine gball_not (by decide +kernel) ?_
      exact gball_end (by decide +kernel)
    · (repeat (refine gG ?_; try intro _))
      refine gk_ret hT rfl rfl (.tmp rfl (.tmp rfl .nil)) (fun w' hk => ?_)
      exact RetM.mk ((j, true, swp L1 j a y p) : Nat × Bool × List El) ⟨j1, j2', hs1.trans (.swp j1 j2' (Nat.le_refl _) (by omega) hy hpa), hP'.done (by omega) j1 hy⟩ rfl hk (fun b hb => (finE_mem h.2 b).1 hb) mE
  · (repeat' (first | (refine gG ?_; try intro _) | ((first | refine g_split rfl rfl tE (fun _ => ?_) (fun _ => ?_) | refine gk_cond rfl rfl tE (fun _ => ?_) (fun _ => ?_)) <;> (try first | (exfalso; omega; done) | (rename_i hx; exact absurd rfl hx) | (rename_i hx; cases hx; done)))))
    obtain ⟨x, hx⟩ : ∃ x, L1[i]? = some x := ⟨_, List.getElem?_eq_getElem (by omega)⟩
    obtain ⟨y, hy⟩ : ∃ y, L1[j]? = some y := ⟨_, List.getElem?_eq_getElem (by omega)⟩
    have hlx := h1'' x (by omega) hx
    have hly := h2 y (by omega) hy
    have hne : i ≠ j := fun e => by subst e; rw [hx] at hy; cases hy; exact hlx hly
    have hy2 : (L1.set (i) y)[j]? = some y := set_other hx hy
    refine gk_any [] (Cut _ (fun _ : Unit => [(0, .slice (some ⟨g, 0, none⟩) n c), (1, (.int .i64 (a : Int))), (2, (.int .i64 (b : Int))), (3, (.int .i64 (pv : Int))), (8, (.int .i64 0)), (9, (.bool false)), (10, (.int .i64 (i : Int))), (11, (.int .i64 (j : Int)))]) (fun _ => [rF g n c (swp L1 i j x y)]) (fun _ => [])) rfl rfl (by kernel_rfl) ?_ (cut_k fun _ => ?_)
    · skip
      refine gb_take 0 rfl (by decide +kernel) rfl rfl (ys_ev (nw := true) hT rfl sI) sF ?_
      refine gb_take 1 rfl (by decide +kernel) rfl rfl (ys_ev (nw := true) hT rfl sI) sF ?_
      refine gb_take 2 rfl (by decide +kernel) rfl rfl (ys_ev (nw := true) hT rfl sI) sF ?_
      refine gb_take 3 rfl (by decide +kernel) rfl rfl (ys_ev (nw := true) hT rfl sI) sF ?_
      refine gb_take 4 rfl (by decide +kernel) rfl rfl (ys_ev (nw := true) hT rfl sI) sF ?_
      refine gb_take 5 rfl (by decide +kernel) rfl rfl (ys_ev (nw := true) hT rfl sI) sF ?_
      refine gb_take 6 rfl (by decide +kernel) rfl rfl (ys_ev (nw := true) hT rfl sI) sF ?_
      refine gb_take 8 rfl (by decide +kernel) rfl rfl (ys_ev (nw := true) hT rfl sI) sF ?_
      refine gb_take 9 rfl (by decide +kernel) rfl rfl (ys_ev (nw := true) hT rfl sI) sF ?_
      refine gb_take 10 rfl (by decide +kernel) rfl rfl (ys_ev (nw := true) hT rfl sI) sF ?_
      refine gb_all (by decide +kernel) ?_
      refine gball_not (by decide +kernel) ?_
      refine gball_not (by decide +kernel) ?_
      refine gball_not (by decide +kernel) ?_
      refine gball_not (by decide +kernel) ?_
      refine gball_not (by decide +kernel) ?_
      refine gball_not (by decide +kernel) ?_
      refine gball_not (by decide +kernel) ?_
      refine gball_yes rfl rfl ?_ ?_
      · refine mv_yd rfl ((ys_load_el (S := [own 0 31 1 (.slice (some ⟨g, 0, none⟩) n c) E (L1)]) (o0 := 0) (sz := 1) (enc := E) (L := L1) hT (j) y 0 rfl rfl rfl (by first | rfl | omega) hy (at_own mE) rfl rfl).ydS sF) ?_
        refine ⟨sF, ?_⟩
        refine gb_only 11 (by decide +kernel) rfl rfl ?_
        refine mv_yd rfl ((ys_load_el (S := [own 0 31 1 (.slice (some ⟨g, 0, none⟩) n c) E (L1)]) (o0 := 0) (sz := 1) (enc := E) (L := L1) hT (i) x 0 rfl rfl rfl (by first | rfl | omega) hx (at_own mE) rfl rfl).ydS sF) ?_
        refine ⟨sF, ?_⟩
        refine gb_take 12 rfl (by decide +kernel) rfl rfl (ys_ev (nw := true) hT rfl sI) sF ?_
        refine gb_only 13 (by decide +kernel) rfl rfl ?_
        refine mv_store_own (α := El) (g := g) (n := n) (c := c) (base := 0) (e := 31) (sz := 1) (enc := E) (L := L1) hT (i) 0 x y rfl rfl (by first | rfl | omega) rfl rfl rfl rfl hx (by decide) (fun b h1 h2 => absurd h1 (by omega)) rfl (by first | ((repeat (first | with_reducible exact Upd.here _ | with_reducible apply Upd.there)); done) | ((repeat (first | exact Upd.here _ | apply Upd.there)); done) | fail) rfl ?_
        refine ⟨sF, ?_⟩
        refine gb_take 14 rfl (by decide +kernel) rfl rfl (ys_ev (nw := true) hT rfl sI) sF ?_
        refine gb_only 15 (by decide +kernel) rfl rfl ?_
        refine mv_store_own (α := El) (g := g) (n := n) (c := c) (base := 0) (e := 31) (sz := 1) (enc := E) (L := L1.set (i) y) hT (j) 0 y x rfl rfl (by first | rfl | omega) rfl rfl rfl rfl hy2 (by decide) (fun b h1 h2 => absurd h1 (by omega)) rfl (by first | ((repeat (first | with_reducible exact Upd.here _ | with_reducible apply Upd.there)); done) | ((repeat (first | exact Upd.here _ | apply Upd.there)); done) | fail) rfl ?_
        refine ⟨sF, ?_⟩
        refine gb_nil (by decide +kernel) ?_
        exact ⟨(), (by repeat (first | exact trivial | refine ⟨rfl, ?_⟩)), sA, List.nil_subset _⟩
      refine gball_not (by decide +kernel) ?_
      refine gball_not (by decide +kernel) ?_
      refine gball_not (by decide +kernel) ?_
      refine gball_yes rfl rfl ?_ ?_
      · refine mv_yd rfl ((ys_load_el (S := [own 0 31 1 (.slice (some ⟨g, 0, none⟩) n c) E (L1)]) (o0 := 0) (sz := 1) (enc := E) (L := L1) hT (i) x 0 rfl rfl rfl (by first | rfl | omega) hx (at_own mE) rfl rfl).ydS sF) ?_
        refine ⟨sF, ?_⟩
        refine gb_only 7 (by decide +kernel) rfl rfl ?_
        refine mv_yd rfl ((ys_load_el (S := [own 0 31 1 (.slice (some ⟨g, 0, none⟩) n c) E (L1)]) (o0 := 0) (sz := 1) (enc := E) (L := L1) hT (j) y 0 rfl rfl rfl (by first | rfl | omega) hy (at_own mE) rfl rfl).ydS sF) ?_
        refine ⟨sF, ?_⟩
        refine gb_take 12 rfl (by decide +kernel) rfl rfl (ys_ev (nw := true) hT rfl sI) sF ?_
        refine gb_only 13 (by decide +kernel) rfl rfl ?_
        refine mv_store_own (α := El) (g := g) (n := n) (c := c) (base := 0) (e := 31) (sz := 1) (enc := E) (L := L1) hT (i) 0 x y rfl rfl (by first | rfl | omega) rfl rfl rfl rfl hx (by decide) (fun b h1 h2 => absurd h1 (by omega)) rfl (by first | ((repeat (first | with_reducible exact Upd.here _ | with_reducible apply Upd.there)); done) | ((repeat (first | exact Upd.here _ | apply Upd.there)); done) | fail) rfl ?_
        refine ⟨sF, ?_⟩
        refine gb_take 14 rfl (by decide +kernel) rfl rfl (ys_ev (nw := true) hT rfl sI) sF ?_
        refine gb_only 15 (by decide +kernel) rfl rfl ?_
        refine mv_store_own (α := El) (g := g) (n := n) (c := c) (base := 0) (e := 31) (sz := 1) (enc := E) (L := L1.set (i) y) hT (j) 0 y x rfl rfl (by first | rfl | omega) rfl rfl rfl rfl hy2 (by decide) (fun b h1 h2 => absurd h1 (by omega)) rfl (by first | ((repeat (first | with_reducible exact Upd.here _ | with_reducible apply Upd.there)); done) | ((repeat (first | exact Upd.here _ | apply Upd.there)); done) | fail) rfl ?_
        refine ⟨sF, ?_⟩
        refine gb_nil (by decide +kernel) ?_
        exact ⟨(), (by repeat (first | exact trivial | refine ⟨rfl, ?_⟩)), sA, List.nil_subset _⟩
      refine gball_not (by decide +kernel) ?_
      refine gball_not (by decide +kernel) ?_
      refine gball_not (by decide +kernel) ?_
      refine gball_not (by decide +kernel) ?_
      exact gball_end (by decide +kernel)
    · (repeat (refine gG ?_; try intro _))
      refine gk_say 10 (.int .i64 ((i + 1 : Nat) : Int)) rfl (by first | (congr 1; done) | (congr 1; omega)) ?_
      refine gk_say 11 (.int .i64 ((j - 1 : Nat) : Int)) rfl (by first | (congr 1; done) | (congr 1; omega)) ?_
      have hP2 := hP'.swp i1 (by omega) hx hy hlx hly
      have hs2 : Seg a b L (swp L1 i j x y) := hs1.trans (.swp (by omega) (by omega) j1 j2' hx hy)
      obtain ⟨L0, e0⟩ : ∃ L0, L0 = swp L1 i j x y := ⟨_, rfl⟩
      rw [← e0] at hP2 hs2 ⊢
      refine gk_loop_sel (fun (q : Nat × Nat × (List El)) => match q with | (i2, j2, L2) => (a < i2 ∧ j2 < b ∧ i2 ≤ j2 + 1 ∧ Seg a b L L2 ∧ PInv lt a b p i2 j2 L2)) (fun (q : Nat × Nat × (List El)) => match q with | (i2, j2, L2) => [(0, .slice (some ⟨g, 0, none⟩) n c), (1, (.int .i64 (a : Int))), (2, (.int .i64 (b : Int))), (3, (.int .i64 (pv : Int))), (8, (.int .i64 0)), (9, (.bool false)), (10, (.int .i64 (i2 : Int))), (11, (.int .i64 (j2 : Int)))]) (fun (q : Nat × Nat × (List El)) => match q with | (i2, j2, L2) => [rF g n c L2]) (fun (q : Nat × Nat × (List El)) => match q with | (i2, j2, L2) => []) (fun (q : Nat × Nat × (List El)) => match q with | (i2, j2, L2) => j2 + 1 - i2) (i + 1, j - 1, L0) rfl ⟨by omega, by omega, by omega, hs2, hP2⟩ (by repeat (first | exact trivial | refine ⟨rfl, ?_⟩)) sA sS ?_
      rintro ⟨i2, j2, L2⟩ hI
      replace hI : (a < i2 ∧ j2 < b ∧ i2 ≤ j2 + 1 ∧ Seg a b L L2 ∧ PInv lt a b p i2 j2 L2) := hI
      change GK _ _ [(0, .slice (some ⟨g, 0, none⟩) n c), (1, (.int .i64 (a : Int))), (2, (.int .i64 (b : Int))), (3, (.int .i64 (pv : Int))), (8, (.int .i64 0)), (9, (.bool false)), (10, (.int .i64 (i2 : Int))), (11, (.int .i64 (j2 : Int)))] [rF g n c L2] []
      clear hx hy hlx hly hne h1'' h2 hji hy2 e0 hs2 hP2 e1
      obtain ⟨m1, m2, m3, hs2, hP2⟩ := hI
      have hl2 := hs2.len
      refine gk_loop_sel (fun (q : Nat × Unit) => match q with | (i, z) => (i2 ≤ i ∧ a < i ∧ i ≤ j2 + 1 ∧ PInv lt a b p i j2 L2)) (fun (q : Nat × Unit) => match q with | (i, z) => [(0, .slice (some ⟨g, 0, none⟩) n c), (1, (.int .i64 (a : Int))), (2, (.int .i64 (b : Int))), (3, (.int .i64 (pv : Int))), (8, (.int .i64 0)), (9, (.bool false)), (10, (.int .i64 (i : Int))), (11, (.int .i64 ((j2 : Nat) : Int)))]) (fun (q : Nat × Unit) => match q with | (i, z) => [rF g n c L2]) (fun (q : Nat × Unit) => match q with | (i, z) => []) (fun (q : Nat × Unit) => match q with | (i, z) => j2 + 1 - i) (i2, ()) rfl ⟨Nat.le_refl _, m1, m3, hP2⟩ (by repeat (first | exact trivial | refine ⟨rfl, ?_⟩)) sA sS ?_
      rintro ⟨i, z⟩ hI
      replace hI : (i2 ≤ i ∧ a < i ∧ i ≤ j2 + 1 ∧ PInv lt a b p i j2 L2) := hI
      change GK _ _ [(0, .slice (some ⟨g, 0, none⟩) n c), (1, (.int .i64 (a : Int))), (2, (.int .i64 (b : Int))), (3, (.int .i64 (pv : Int))), (8, (.int .i64 0)), (9, (.bool false)), (10, (.int .i64 (i : Int))), (11, (.int .i64 ((j2 : Nat) : Int)))] [rF g n c L2] []
      obtain ⟨i0, i1, i2, hP⟩ := hI
      have hpa := hP.at'
      obtain ⟨jo, hj0⟩ : ∃ jo, jo = j2 := ⟨_, rfl⟩
      rw [← hj0] at i2 hP ⊢
      have hjb : jo < b := by omega
      refine gk_any [0] (Cut _ (fun r : { r : Bool // (r = true → (i ≤ jo ∧ ∃ x, L2[i]? = some x ∧ lt x p)) ∧ (r = false → ∀ x, i ≤ jo → L2[i]? = some x → ¬ lt x p) } => [(0, .slice (some ⟨g, 0, none⟩) n c), (1, (.int .i64 (a : Int))), (2, (.int .i64 (b : Int))), (3, (.int .i64 (pv : Int))), (8, (.int .i64 0)), (9, (.bool false)), (10, (.int .i64 (i : Int))), (11, (.int .i64 (jo : Int))), (112, .bool r.1)]) (fun _ => [rF g n c L2]) (fun _ => [])) rfl rfl (by kernel_rfl) ?_ (cut_k fun r => ?_)
      · by_cases hij : i ≤ jo
        · obtain ⟨x, hx⟩ : ∃ x, L2[i]? = some x := ⟨_, List.getElem?_eq_getElem (by omega)⟩
          by_cases hl : lt x p
          · skip
            refine gb_take 0 rfl (by decide +kernel) rfl rfl (ys_ev (nw := true) hT rfl sI) sF ?_
            refine gb_take 1 rfl (by decide +kernel) rfl rfl (ys_ev (nw := true) hT rfl sI) sF ?_
            refine gb_take 2 rfl (by decide +kernel) rfl rfl (ys_ev (nw := true) hT rfl sI) sF ?_
            refine gb_take 3 rfl (by decide +kernel) rfl rfl (ys_ev (nw := true) hT rfl sI) sF ?_
            try (refine gb_say 102 (.bool true) rfl (congrArg Value.bool (tB_true (by omega))) ?_)
            first | refine gb_take 4 rfl (by decide +kernel) rfl rfl (ys_ev (nw := true) hT rfl sI) sF ?_ | refine gb_skip 4 rfl (by decide +kernel) rfl rfl sF ?_
            first | refine gb_take 5 rfl (by decide +kernel) rfl rfl (ys_ev (nw := true) hT rfl sI) sF ?_ | refine gb_skip 5 rfl (by decide +kernel) rfl rfl sF ?_
            first | refine gb_take 6 rfl (by decide +kernel) rfl rfl (ys_ev (nw := true) hT rfl sI) sF ?_ | refine gb_skip 6 rfl (by decide +kernel) rfl rfl sF ?_
            first | refine gb_take 7 rfl (by decide +kernel) rfl rfl (ys_load_el (S := [own 0 31 1 (.slice (some ⟨g, 0, none⟩) n c) E (L2)]) (o0 := 0) (sz := 1) (enc := E) (L := L2) hT (i) x 0 rfl rfl rfl (by first | rfl | omega) hx (at_own mE) rfl rfl) sF ?_ | refine gb_skip 7 rfl (by decide +kernel) rfl rfl sF ?_
            first | refine gb_take 8 rfl (by decide +kernel) rfl rfl (ys_ev (nw := true) hT rfl sI) sF ?_ | refine gb_skip 8 rfl (by decide +kernel) rfl rfl sF ?_
            first | refine gb_take 9 rfl (by decide +kernel) rfl rfl (ys_ev (nw := true) hT rfl sI) sF ?_ | refine gb_skip 9 rfl (by decide +kernel) rfl rfl sF ?_
            first | refine gb_take 10 rfl (by decide +kernel) rfl rfl (ys_ev (nw := true) hT rfl sI) sF ?_ | refine gb_skip 10 rfl (by decide +kernel) rfl rfl sF ?_
            first | refine gb_take 11 rfl (by decide +kernel) rfl rfl (ys_load_el (S := [own 0 31 1 (.slice (some ⟨g, 0, none⟩) n c) E (L2)]) (o0 := 0) (sz := 1) (enc := E) (L := L2) hT (a) p 0 rfl rfl rfl (by first | rfl | omega) hpa (at_own mE) rfl rfl) sF ?_ | refine gb_skip 11 rfl (by decide +kernel) rfl rfl sF ?_
            first | refine gb_skip 12 rfl (by decide +kernel) rfl rfl sF ?_ | (refine gb_only 12 (by decide +kernel) rfl rfl ?_; (refine mv_call_bel (fun w hk => less_any x p w) rfl rfl rfl rfl rfl (by kernel_rfl) ?_); refine ⟨sF, ?_⟩)
            try (refine gb_say 111 (.bool true) rfl (congrArg Value.bool (tB_true hl)) ?_)
            refine gb_take 13 rfl (by decide +kernel) rfl rfl (ys_ev (nw := true) hT rfl sI) sF ?_
            refine gb_nil (by decide +kernel) ?_
            exact ⟨⟨true, ⟨fun _ => ⟨hij, x, hx, hl⟩, fun h => (by cases h)⟩⟩, (by repeat (first | exact trivial | refine ⟨rfl, ?_⟩)), sA, sS⟩
          · skip
            refine gb_take 0 rfl (by decide +kernel) rfl rfl (ys_ev (nw := true) hT rfl sI) sF ?_
            refine gb_take 1 rfl (by decide +kernel) rfl rfl (ys_ev (nw := true) hT rfl sI) sF ?_
            refine gb_take 2 rfl (by decide +kernel) rfl rfl (ys_ev (nw := true) hT rfl sI) sF ?_
            refine gb_take 3 rfl (by decide +kernel) rfl rfl (ys_ev (nw := true) hT rfl sI) sF ?_
            try (refine gb_say 102 (.bool true) rfl (congrArg Value.bool (tB_true (by omega))) ?_)
            first | refine gb_take 4 rfl (by decide +kernel) rfl rfl (ys_ev (nw := true) hT rfl sI) sF ?_ | refine gb_skip 4 rfl (by decide +kernel) rfl rfl sF ?_
            first | refine gb_take 5 rfl (by decide +kernel) rfl rfl (ys_ev (nw := true) hT rfl sI) sF ?_ | refine gb_skip 5 rfl (by decide +kernel) rfl rfl sF ?_
            first | refine gb_take 6 rfl (by decide +kernel) rfl rfl (ys_ev (nw := true) hT rfl sI) sF ?_ | refine gb_skip 6 rfl (by decide +kernel) rfl rfl sF ?_
            first | refine gb_take 7 rfl (by decide +kernel) rfl rfl (ys_load_el (S := [own 0 31 1 (.slice (some ⟨g, 0, none⟩) n c) E (L2)]) (o0 := 0) (sz := 1) (enc := E) (L := L2) hT (i) x 0 rfl rfl rfl (by first | rfl | omega) hx (at_own mE) rfl rfl) sF ?_ | refine gb_skip 7 rfl (by decide +kernel) rfl rfl sF ?_
            first | refine gb_take 8 rfl (by decide +kernel) rfl rfl (ys_ev (nw := true) hT rfl sI) sF ?_ | refine gb_skip 8 rfl (by decide +kernel) rfl rfl sF ?_
            first | refine gb_take 9 rfl (by decide +kernel) rfl rfl (ys_ev (nw := true) hT rfl sI) sF ?_ | refine gb_skip 9 rfl (by decide +kernel) rfl rfl sF ?_
            first | refine gb_take 10 rfl (by decide +kernel) rfl rfl (ys_ev (nw := true) hT rfl sI) sF ?_ | refine gb_skip 10 rfl (by decide +kernel) rfl rfl sF ?_
            first | refine gb_take 11 rfl (by decide +kernel) rfl rfl (ys_load_el (S := [own 0 31 1 (.slice (some ⟨g, 0, none⟩) n c) E (L2)]) (o0 := 0) (sz := 1) (enc := E) (L := L2) hT (a) p 0 rfl rfl rfl (by first | rfl | omega) hpa (at_own mE) rfl rfl) sF ?_ | refine gb_skip 11 rfl (by decide +kernel) rfl rfl sF ?_
            first | refine gb_skip 12 rfl (by decide +kernel) rfl rfl sF ?_ | (refine gb_only 12 (by decide +kernel) rfl rfl ?_; (refine mv_call_bel (fun w hk => less_any x p w) rfl rfl rfl rfl rfl (by kernel_rfl) ?_); refine ⟨sF, ?_⟩)
            try (refine gb_say 111 (.bool false) rfl (congrArg Value.bool (tB_false hl)) ?_)
            refine gb_take 13 rfl (by decide +kernel) rfl rfl (ys_ev (nw := true) hT rfl sI) sF ?_
            refine gb_nil (by decide +kernel) ?_
            exact ⟨⟨false, ⟨fun h => (by cases h), fun _ x' _ hx' => by rw [hx] at hx'; cases hx'; exact hl⟩⟩, (by repeat (first | exact trivial | refine ⟨rfl, ?_⟩)), sA, sS⟩
        · skip
          refine gb_take 0 rfl (by decide +kernel) rfl rfl (ys_ev (nw := true) hT rfl sI) sF ?_
          refine gb_take 1 rfl (by decide +kernel) rfl rfl (ys_ev (nw := true) hT rfl sI) sF ?_
          refine gb_take 2 rfl (by decide +kernel) rfl rfl (ys_ev (nw := true) hT rfl sI) sF ?_
          refine gb_take 3 rfl (by decide +kernel) rfl rfl (ys_ev (nw := true) hT rfl sI) sF ?_
          try (refine gb_say 102 (.bool false) rfl (congrArg Value.bool (tB_false (by omega))) ?_)
          first | refine gb_take 4 rfl (by decide +kernel) rfl rfl (ys_ev (nw := true) hT rfl sI) sF ?_ | refine gb_skip 4 rfl (by decide +kernel) rfl rfl sF ?_
          first | refine gb_take 5 rfl (by decide +kernel) rfl rfl (ys_ev (nw := true) hT rfl sI) sF ?_ | refine gb_skip 5 rfl (by decide +kernel) rfl rfl sF ?_
          first | refine gb_take 6 rfl (by decide +kernel) rfl rfl (ys_ev (nw := true) hT rfl sI) sF ?_ | refine gb_skip 6 rfl (by decide +kernel) rfl rfl sF ?_
          first | refine gb_take 7 rfl (by decide +kernel) rfl rfl (by first | exact ys_blk hT rfl rfl mE rfl rfl | exact ys_row hT rfl rfl mE rfl rfl | exact ys_row0 hT rfl rfl mE rfl rfl) sF ?_ | refine gb_skip 7 rfl (by decide +kernel) rfl rfl sF ?_
          first | refine gb_take 8 rfl (by decide +kernel) rfl rfl (ys_ev (nw := true) hT rfl sI) sF ?_ | refine gb_skip 8 rfl (by decide +kernel) rfl rfl sF ?_
          first | refine gb_take 9 rfl (by decide +kernel) rfl rfl (ys_ev (nw := true) hT rfl sI) sF ?_ | refine gb_skip 9 rfl (by decide +kernel) rfl rfl sF ?_
          first | refine gb_take 10 rfl (by decide +kernel) rfl rfl (ys_ev (nw := true) hT rfl sI) sF ?_ | refine gb_skip 10 rfl (by decide +kernel) rfl rfl sF ?_
          first | refine gb_take 11 rfl (by decide +kernel) rfl rfl (by first | exact ys_blk hT rfl rfl mE rfl rfl | exact ys_row hT rfl rfl mE rfl rfl | exact ys_row0 hT rfl rfl mE rfl rfl) sF ?_ | refine gb_skip 11 rfl (by decide +kernel) rfl rfl sF ?_
          first | refine gb_skip 12 rfl (by decide +kernel) rfl rfl sF ?_ | (refine gb_only 12 (by decide +kernel) rfl rfl ?_; (skip); refine ⟨sF, ?_⟩)
          refine gb_take 13 rfl (by decide +kernel) rfl rfl (ys_ev (nw := true) hT rfl sI) sF ?_
          refine gb_nil (by decide +kernel) ?_
          exact ⟨⟨false, ⟨fun h => (by cases h), fun _ x h => absurd h hij⟩⟩, (by repeat (first | exact trivial | refine ⟨rfl, ?_⟩)), sA, sS⟩
      obtain ⟨r, hr1, hr2⟩ := r
      by_cases hr : r = true
      · subst hr
        obtain ⟨hij, x, hx, hl⟩ := hr1 rfl
        (repeat (refine gG ?_; try intro _))
        refine gk_say 10 (.int .i64 ((i + 1 : Nat) : Int)) rfl (by first | (congr 1; done) | (congr 1; omega)) ?_
        subst hj0
        refine gk_again_sel rfl (i + 1, ()) ⟨by omega, by omega, by omega, hP.left hx hl⟩ (by dsimp only; omega) (by repeat (first | exact trivial | refine ⟨rfl, ?_⟩)) sA sS
      obtain rfl : r = false := by simpa using hr
      have h1 := hr2 rfl
      dsimp only
      clear hr hr1 hr2
      (repeat (refine gG ?_; try intro _))
      refine gk_loop_sel (fun (q : Nat × Unit) => match q with | (j, z) => (a ≤ j ∧ j < b ∧ j ≤ jo ∧ i ≤ j + 1 ∧ PInv lt a b p i j L2)) (fun (q : Nat × Unit) => match q with | (j, z) => [(0, .slice (some ⟨g, 0, none⟩) n c), (1, (.int .i64 (a : Int))), (2, (.int .i64 (b : Int))), (3, (.int .i64 (pv : Int))), (8, (.int .i64 0)), (9, (.bool false)), (10, (.int .i64 (i : Int))), (11, (.int .i64 (j : Int)))]) (fun (q : Nat × Unit) => match q with | (j, z) => [rF g n c L2]) (fun (q : Nat × Unit) => match q with | (j, z) => []) (fun (q : Nat × Unit) => match q with | (j, z) => j) (jo, ()) rfl ⟨by omega, hjb, Nat.le_refl _, i2, hP⟩ (by repeat (first | exact trivial | refine ⟨rfl, ?_⟩)) sA sS ?_
      rintro ⟨j, z⟩ hI
      replace hI : (a ≤ j ∧ j < b ∧ j ≤ jo ∧ i ≤ j + 1 ∧ PInv lt a b p i j L2) := hI
      change GK _ _ [(0, .slice (some ⟨g, 0, none⟩) n c), (1, (.int .i64 (a : Int))), (2, (.int .i64 (b : Int))), (3, (.int .i64 (pv : Int))), (8, (.int .i64 0)), (9, (.bool false)), (10, (.int .i64 (i : Int))), (11, (.int .i64 (j : Int)))] [rF g n c L2] []
      obtain ⟨j1, j2', j3, i2', hP'⟩ := hI
      have h1'' : ∀ x, i ≤ j → L2[i]? = some x → ¬ lt x p := fun x h h' => h1 x (by omega) h'
      clear h1
      have hpa := hP'.at'
      refine gk_any [0] (Cut _ (fun r : { r : Bool // (r = true → (i ≤ j ∧ ∃ x, L2[j]? = some x ∧ ¬ lt x p)) ∧ (r = false → ∀ x, i ≤ j → L2[j]? = some x → lt x p) } => [(0, .slice (some ⟨g, 0, none⟩) n c), (1, (.int .i64 (a : Int))), (2, (.int .i64 (b : Int))), (3, (.int .i64 (pv : Int))), (8, (.int .i64 0)), (9, (.bool false)), (10, (.int .i64 (i : Int))), (11, (.int .i64 (j : Int))), (129, .bool r.1)]) (fun _ => [rF g n c L2]) (fun _ => [])) rfl rfl (by kernel_rfl) ?_ (cut_k fun r => ?_)
      · by_cases hij : i ≤ j
        · obtain ⟨x, hx⟩ : ∃ x, L2[j]? = some x := ⟨_, List.getElem?_eq_getElem (by omega)⟩
          by_cases hl : lt x p
          · skip
            refine gb_take 0 rfl (by decide +kernel) rfl rfl (ys_ev (nw := true) hT rfl sI) sF ?_
            refine gb_take 1 rfl (by decide +kernel) rfl rfl (ys_ev (nw := true) hT rfl sI) sF ?_
            refine gb_take 2 rfl (by decide +kernel) rfl rfl (ys_ev (nw := true) hT rfl sI) sF ?_
            refine gb_take 3 rfl (by decide +kernel) rfl rfl (ys_ev (nw := true) hT rfl sI) sF ?_
            try (refine gb_say 118 (.bool true) rfl (congrArg Value.bool (tB_true (by omega))) ?_)
            first | refine gb_take 4 rfl (by decide +kernel) rfl rfl (ys_ev (nw := true) hT rfl sI) sF ?_ | refine gb_skip 4 rfl (by decide +kernel) rfl rfl sF ?_
            first | refine gb_take 5 rfl (by decide +kernel) rfl rfl (ys_ev (nw := true) hT rfl sI) sF ?_ | refine gb_skip 5 rfl (by decide +kernel) rfl rfl sF ?_
            first | refine gb_take 6 rfl (by decide +kernel) rfl rfl (ys_ev (nw := true) hT rfl sI) sF ?_ | refine gb_skip 6 rfl (by decide +kernel) rfl rfl sF ?_
            first | refine gb_take 7 rfl (by decide +kernel) rfl rfl (ys_load_el (S := [own 0 31 1 (.slice (some ⟨g, 0, none⟩) n c) E (L2)]) (o0 := 0) (sz := 1) (enc := E) (L := L2) hT (j) x 0 rfl rfl rfl (by first | rfl | omega) hx (at_own mE) rfl rfl) sF ?_ | refine gb_skip 7 rfl (by decide +kernel) rfl rfl sF ?_
            first | refine gb_take 8 rfl (by decide +kernel) rfl rfl (ys_ev (nw := true) hT rfl sI) sF ?_ | refine gb_skip 8 rfl (by decide +kernel) rfl rfl sF ?_
            first | refine gb_take 9 rfl (by decide +kernel) rfl rfl (ys_ev (nw := true) hT rfl sI) sF ?_ | refine gb_skip 9 rfl (by decide +kernel) rfl rfl sF ?_
            first | refine gb_take 10 rfl (by decide +kernel) rfl rfl (ys_ev (nw := true) hT rfl sI) sF ?_ | refine gb_skip 10 rfl (by decide +kernel) rfl rfl sF ?_
            first | refine gb_take 11 rfl (by decide +kernel) rfl rfl (ys_load_el (S := [own 0 31 1 (.slice (some ⟨g, 0, none⟩) n c) E (L2)]) (o0 := 0) (sz := 1) (enc := E) (L := L2) hT (a) p 0 rfl rfl rfl (by first | rfl | omega) hpa (at_own mE) rfl rfl) sF ?_ | refine gb_skip 11 rfl (by decide +kernel) rfl rfl sF ?_
            first | refine gb_skip 12 rfl (by decide +kernel) rfl rfl sF ?_ | (refine gb_only 12 (by decide +kernel) rfl rfl ?_; (refine mv_call_bel (fun w hk => less_any x p w) rfl rfl rfl rfl rfl (by kernel_rfl) ?_); refine ⟨sF, ?_⟩)
            try (refine gb_say 127 (.bool true) rfl (congrArg Value.bool (tB_true hl)) ?_)
            first | refine gb_take 13 rfl (by decide +kernel) rfl rfl (ys_ev (nw := true) hT rfl sI) sF ?_ | refine gb_skip 13 rfl (by decide +kernel) rfl rfl sF ?_
            refine gb_take 14 rfl (by decide +kernel) rfl rfl (ys_ev (nw := true) hT rfl sI) sF ?_
            refine gb_nil (by decide +kernel) ?_
            exact ⟨⟨false, ⟨fun h => (by cases h), fun _ x' _ hx' => by rw [hx] at hx'; cases hx'; exact hl⟩⟩, (by repeat (first | exact trivial | refine ⟨rfl, ?_⟩)), sA, sS⟩
          · skip
            refine gb_take 0 rfl (by decide +kernel) rfl rfl (ys_ev (nw := true) hT rfl sI) sF ?_
            refine gb_take 1 rfl (by decide +kernel) rfl rfl (ys_ev (nw := true) hT rfl sI) sF ?_
            refine gb_take 2 rfl (by decide +kernel) rfl rfl (ys_ev (nw := true) hT rfl sI) sF ?_
            refine gb_take 3 rfl (by decide +kernel) rfl rfl (ys_ev (nw := true) hT rfl sI) sF ?_
            try (refine gb_say 118 (.bool true) rfl (congrArg Value.bool (tB_true (by omega))) ?_)
            first | refine gb_take 4 rfl (by decide +kernel) rfl rfl (ys_ev (nw := true) hT rfl sI) sF ?_ | refine gb_skip 4 rfl (by decide +kernel) rfl rfl sF ?_
            first | refine gb_take 5 rfl (by decide +kernel) rfl rfl (ys_ev (nw := true) hT rfl sI) sF ?_ | refine gb_skip 5 rfl (by decide +kernel) rfl rfl sF ?_
            first | refine gb_take 6 rfl (by decide +kernel) rfl rfl (ys_ev (nw := true) hT rfl sI) sF ?_ | refine gb_skip 6 rfl (by decide +kernel) rfl rfl sF ?_
            first | refine gb_take 7 rfl (by decide +kernel) rfl rfl (ys_load_el (S := [own 0 31 1 (.slice (some ⟨g, 0, none⟩) n c) E (L2)]) (o0 := 0) (sz := 1) (enc := E) (L := L2) hT (j) x 0 rfl rfl rfl (by first | rfl | omega) hx (at_own mE) rfl rfl) sF ?_ | refine gb_skip 7 rfl (by decide +kernel) rfl rfl sF ?_
            first | refine gb_take 8 rfl (by decide +kernel) rfl rfl (ys_ev (nw := true) hT rfl sI) sF ?_ | refine gb_skip 8 rfl (by decide +kernel) rfl rfl sF ?_
            first | refine gb_take 9 rfl (by decide +kernel) rfl rfl (ys_ev (nw := true) hT rfl sI) sF ?_ | refine gb_skip 9 rfl (by decide +kernel) rfl rfl sF ?_
            first | refine gb_take 10 rfl (by decide +kernel) rfl rfl (ys_ev (nw := true) hT rfl sI) sF ?_ | refine gb_skip 10 rfl (by decide +kernel) rfl rfl sF ?_
            first | refine gb_take 11 rfl (by decide +kernel) rfl rfl (ys_load_el (S := [own 0 31 1 (.slice (some ⟨g, 0, none⟩) n c) E (L2)]) (o0 := 0) (sz := 1) (enc := E) (L := L2) hT (a) p 0 rfl rfl rfl (by first | rfl | omega) hpa (at_own mE) rfl rfl) sF ?_ | refine gb_skip 11 rfl (by decide +kernel) rfl rfl sF ?_
            first | refine gb_skip 12 rfl (by decide +kernel) rfl rfl sF ?_ | (refine gb_only 12 (by decide +kernel) rfl rfl ?_; (refine mv_call_bel (fun w hk => less_any x p w) rfl rfl rfl rfl rfl (by kernel_rfl) ?_); refine ⟨sF, ?_⟩)
            try (refine gb_say 127 (.bool false) rfl (congrArg Value.bool (tB_false hl)) ?_)
            first | refine gb_take 13 rfl (by decide +kernel) rfl rfl (ys_ev (nw := true) hT rfl sI) sF ?_ | refine gb_skip 13 rfl (by decide +kernel) rfl rfl sF ?_
            refine gb_take 14 rfl (by decide +kernel) rfl rfl (ys_ev (nw := true) hT rfl sI) sF ?_
            refine gb_nil (by decide +kernel) ?_
            exact ⟨⟨true, ⟨fun _ => ⟨hij, x, hx, hl⟩, fun h => (by cases h)⟩⟩, (by repeat (first | exact trivial | refine ⟨rfl, ?_⟩)), sA, sS⟩
        · skip
          refine gb_take 0 rfl (by decide +kernel) rfl rfl (ys_ev (nw := true) hT rfl sI) sF ?_
          refine gb_take 1 rfl (by decide +kernel) rfl rfl (ys_ev (nw := true) hT rfl sI) sF ?_
          refine gb_take 2 rfl (by decide +kernel) rfl rfl (ys_ev (nw := true) hT rfl sI) sF ?_
          refine gb_take 3 rfl (by decide +kernel) rfl rfl (ys_ev (nw := true) hT rfl sI) sF ?_
          try (refine gb_say 118 (.bool false) rfl (congrArg Value.bool (tB_false (by omega))) ?_)
          first | refine gb_take 4 rfl (by decide +kernel) rfl rfl (ys_ev (nw := true) hT rfl sI) sF ?_ | refine gb_skip 4 rfl (by decide +kernel) rfl rfl sF ?_
          first | refine gb_take 5 rfl (by decide +kernel) rfl rfl (ys_ev (nw := true) hT rfl sI) sF ?_ | refine gb_skip 5 rfl (by decide +kernel) rfl rfl sF ?_
          first | refine gb_take 6 rfl (by decide +kernel) rfl rfl (ys_ev (nw := true) hT rfl sI) sF ?_ | refine gb_skip 6 rfl (by decide +kernel) rfl rfl sF ?_
          first | refine gb_take 7 rfl (by decide +kernel) rfl rfl (by first | exact ys_blk hT rfl rfl mE rfl rfl | exact ys_row hT rfl rfl mE rfl rfl | exact ys_row0 hT rfl rfl mE rfl rfl) sF ?_ | refine gb_skip 7 rfl (by decide +kernel) rfl rfl sF ?_
          first | refine gb_take 8 rfl (by decide +kernel) rfl rfl (ys_ev (nw := true) hT rfl sI) sF ?_ | refine gb_skip 8 rfl (by decide +kernel) rfl rfl sF ?_
          first | refine gb_take 9 rfl (by decide +kernel) rfl rfl (ys_ev (nw := true) hT rfl sI) sF ?_ | refine gb_skip 9 rfl (by decide +kernel) rfl rfl sF ?_
          first | refine gb_take 10 rfl (by decide +kernel) rfl rfl (ys_ev (nw := true) hT rfl sI) sF ?_ | refine gb_skip 10 rfl (by decide +kernel) rfl rfl sF ?_
          first | refine gb_take 11 rfl (by decide +kernel) rfl rfl (by first | exact ys_blk hT rfl rfl mE rfl rfl | exact ys_row hT rfl rfl mE rfl rfl | exact ys_row0 hT rfl rfl mE rfl rfl) sF ?_ | refine gb_skip 11 rfl (by decide +kernel) rfl rfl sF ?_
          first | refine gb_skip 12 rfl (by decide +kernel) rfl rfl sF ?_ | (refine gb_only 12 (by decide +kernel) rfl rfl ?_; (skip); refine ⟨sF, ?_⟩)
          first | refine gb_take 13 rfl (by decide +kernel) rfl rfl (ys_ev (nw := true) hT rfl sI) sF ?_ | refine gb_skip 13 rfl (by decide +kernel) rfl rfl sF ?_
          refine gb_take 14 rfl (by decide +kernel) rfl rfl (ys_ev (nw := true) hT rfl sI) sF ?_
          refine gb_nil (by decide +kernel) ?_
          exact ⟨⟨false, ⟨fun h => (by cases h), fun _ x h => absurd h hij⟩⟩, (by repeat (first | exact trivial | refine ⟨rfl, ?_⟩)), sA, sS⟩
      obtain ⟨r, hr1, hr2⟩ := r
      by_cases hr : r = true
      · subst hr
        obtain ⟨hij, x, hx, hl⟩ := hr1 rfl
        (repeat (refine gG ?_; try intro _))
        refine gk_say 11 (.int .i64 ((j - 1 : Nat) : Int)) rfl (by first | (congr 1; done) | (congr 1; omega)) ?_
        refine gk_again_sel rfl (j - 1, ()) ⟨by omega, by omega, by omega, by omega, hP'.right (by omega) hx hl⟩ (by dsimp only; omega) (by repeat (first | exact trivial | refine ⟨rfl, ?_⟩)) sA sS
      obtain rfl : r = false := by simpa using hr
      have h2 := hr2 rfl
      dsimp only
      clear hr hr1 hr2
      by_cases hji : j < i
      · (repeat' (first | (refine gG ?_; try intro _) | ((first | refine g_split rfl rfl tE (fun _ => ?_) (fun _ => ?_) | refine gk_cond rfl rfl tE (fun _ => ?_) (fun _ => ?_)) <;> (try first | (exfalso; omega; done) | (rename_i hx; exact absurd rfl hx) | (rename_i hx; cases hx; done)))))
        obtain ⟨y, hy⟩ : ∃ y, L2[j]? = some y := ⟨_, List.getElem?_eq_getElem (by omega)⟩
        have hy2 : (L2.set (j) p)[a]? = some p := set_other hy hpa
        refine gk_any [] (Cut _ (fun _ : Unit => [(0, .slice (some ⟨g, 0, none⟩) n c), (1, (.int .i64 (a : Int))), (2, (.int .i64 (b : Int))), (3, (.int .i64 (pv : Int))), (8, (.int .i64 0)), (9, (.bool false)), (10, (.int .i64 (i : Int))), (11, (.int .i64 (j : Int)))]) (fun _ => [rF g n c (swp L2 j a y p)]) (fun _ => [])) rfl rfl (by kernel_rfl) ?_ (cut_k fun _ => ?_)
        · skip
          refine gb_take 0 rfl (by decide +kernel) rfl rfl (ys_ev (nw := true) hT rfl sI) sF ?_
          refine gb_take 1 rfl (by decide +kernel) rfl rfl (ys_ev (nw := true) hT rfl sI) sF ?_
          refine gb_take 2 rfl (by decide +kernel) rfl rfl (ys_ev (nw := true) hT rfl sI) sF ?_
          refine gb_take 3 rfl (by decide +kernel) rfl rfl (ys_ev (nw := true) hT rfl sI) sF ?_
          refine gb_take 4 rfl (by decide +kernel) rfl rfl (ys_ev (nw := true) hT rfl sI) sF ?_
          refine gb_take 5 rfl (by decide +kernel) rfl rfl (ys_ev (nw := true) hT rfl sI) sF ?_
          refine gb_take 6 rfl (by decide +kernel) rfl rfl (ys_ev (nw := true) hT rfl sI) sF ?_
          refine gb_take 8 rfl (by decide +kernel) rfl rfl (ys_ev (nw := true) hT rfl sI) sF ?_
          refine gb_take 9 rfl (by decide +kernel) rfl rfl (ys_ev (nw := true) hT rfl sI) sF ?_
          refine gb_take 10 rfl (by decide +kernel) rfl rfl (ys_ev (nw := true) hT rfl sI) sF ?_
          refine gb_all (by decide +kernel) ?_
          refine gball_not (by decide +kernel) ?_
          refine gball_not (by decide +kernel) ?_
          refine gball_not (by decide +kernel) ?_
          refine gball_not (by decide +kernel) ?_
          refine gball_not (by decide +kernel) ?_
          refine gball_not (by decide +kernel) ?_
          refine gball_not (by decide +kernel) ?_
          refine gball_yes rfl rfl ?_ ?_
          · refine mv_yd rfl ((ys_load_el (S := [own 0 31 1 (.slice (some ⟨g, 0, none⟩) n c) E (L2)]) (o0 := 0) (sz := 1) (enc := E) (L := L2) hT (a) p 0 rfl rfl rfl (by first | rfl | omega) hpa (at_own mE) rfl rfl).ydS sF) ?_
            refine ⟨sF, ?_⟩
            refine gb_only 11 (by decide +kernel) rfl rfl ?_
            refine mv_yd rfl ((ys_load_el (S := [own 0 31 1 (.slice (some ⟨g, 0, none⟩) n c) E (L2)]) (o0 := 0) (sz := 1) (enc := E) (L := L2) hT (j) y 0 rfl rfl rfl (by first | rfl | omega) hy (at_own mE) rfl rfl).ydS sF) ?_
            refine ⟨sF, ?_⟩
            refine gb_take 12 rfl (by decide +kernel) rfl rfl (ys_ev (nw := true) hT rfl sI) sF ?_
            refine gb_only 13 (by decide +kernel) rfl rfl ?_
            refine mv_store_own (α := El) (g := g) (n := n) (c := c) (base := 0) (e := 31) (sz := 1) (enc := E) (L := L2) hT (j) 0 y p rfl rfl (by first | rfl | omega) rfl rfl rfl rfl hy (by decide) (fun b h1 h2 => absurd h1 (by omega)) rfl (by first | ((repeat (first | with_reducible exact Upd.here _ | with_reducible apply Upd.there)); done) | ((repeat (first | exact Upd.here _ | apply Upd.there)); done) | fail) rfl ?_
            refine ⟨sF, ?_⟩
            refine gb_take 14 rfl (by decide +kernel) rfl rfl (ys_ev (nw := true) hT rfl sI) sF ?_
            refine gb_only 15 (by decide +kernel) rfl rfl ?_
            refine mv_store_own (α := El) (g := g) (n := n) (c := c) (base := 0) (e := 31) (sz := 1) (enc := E) (L := L2.set (j) p) hT (a) 0 p y rfl rfl (by first | rfl | omega) rfl rfl rfl rfl hy2 (by decide) (fun b h1 h2 => absurd h1 (by omega)) rfl (by first | ((repeat (first | with_reducible exact Upd.here _ | with_reducible apply Upd.there)); done) | ((repeat (first | exact Upd.here _ | apply Upd.there)); done) | fail) rfl ?_
            refine ⟨sF, ?_⟩
            refine gb_nil (by decide +kernel) ?_
            exact ⟨(), (by repeat (first | exact trivial | refine ⟨rfl, ?_⟩)), sA, List.nil_subset _⟩
          refine gball_not (by decide +kernel) ?_
          refine gball_not (by decide +kernel) ?_
          refine gball_not (by decide +kernel) ?_
          refine gball_yes rfl rfl ?_ ?_
          · refine mv_yd rfl ((ys_load_el (S := [own 0 31 1 (.slice (some ⟨g, 0, none⟩) n c) E (L2)]) (o0 := 0) (sz := 1) (enc := E) (L := L2) hT (j) y 0 rfl rfl rfl (by first | rfl | omega) hy (at_own mE) rfl rfl).ydS sF) ?_
            refine ⟨sF, ?_⟩
            refine gb_only 7 (by decide +kernel) rfl rfl ?_
            refine mv_yd rfl ((ys_load_el (S := [own 0 31 1 (.slice (some ⟨g, 0, none⟩) n c) E (L2)]) (o0 := 0) (sz := 1) (enc := E) (L := L2) hT (a) p 0 rfl rfl rfl (by first | rfl | omega) hpa (at_own mE) rfl rfl).ydS sF) ?_
            refine ⟨sF, ?_⟩
            refine gb_take 12 rfl (by decide +kernel) rfl rfl (ys_ev (nw := true) hT rfl sI) sF ?_
            refine gb_only 13 (by decide +kernel) rfl rfl ?_
            refine mv_store_own (α := El) (g := g) (n := n) (c := c) (base := 0) (e := 31) (sz := 1) (enc := E) (L := L2) hT (j) 0 y p rfl rfl (by first | rfl | omega) rfl rfl rfl rfl hy (by decide) (fun b h1 h2 => absurd h1 (by omega)) rfl (by first | ((repeat (first | with_reducible exact Upd.here _ | with_reducible apply Upd.there)); done) | ((repeat (first | exact Upd.here _ | apply Upd.there)); done) | fail) rfl ?_
            refine ⟨sF, ?_⟩
            refine gb_take 14 rfl (by decide +kernel) rfl rfl (ys_ev (nw := true) hT rfl sI) sF ?_
            refine gb_only 15 (by decide +kernel) rfl rfl ?_
            refine mv_store_own (α := El) (g := g) (n := n) (c := c) (base := 0) (e := 31) (sz := 1) (enc := E) (L := L2.set (j) p) hT (a) 0 p y rfl rfl (by first | rfl | omega) rfl rfl rfl rfl hy2 (by decide) (fun b h1 h2 => absurd h1 (by omega)) rfl (by first | ((repeat (first | with_reducible exact Upd.here _ | with_reducible apply Upd.there)); done) | ((repeat (first | exact Upd.here _ | apply Upd.there)); done) | fail) rfl ?_
            refine ⟨sF, ?_⟩
            refine gb_nil (by decide +kernel) ?_
            exact ⟨(), (by repeat (first | exact trivial | refine ⟨rfl, ?_⟩)), sA, List.nil_subset _⟩
          refine gball_not (by decide +kernel) ?_
          refine gball_not (by decide +kernel) ?_
          refine gball_not (by decide +kernel) ?_
          refine gball_not (by decide +kernel) ?_
          exact gball_end (by decide +kernel)
        · (repeat (refine gG ?_; try intro _))
          refine gk_ret hT rfl rfl (.tmp rfl (.tmp rfl .nil)) (fun w' hk => ?_)
          exact RetM.mk ((j, false, swp L2 j a y p) : Nat × Bool × List El) ⟨j1, j2', hs2.trans (.swp j1 j2' (Nat.le_refl _) (by omega) hy hpa), hP'.done (by omega) j1 hy⟩ rfl hk (fun b hb => (finE_mem h.2 b).1 hb) mE
      · (repeat' (first | (refine gG ?_; try intro _) | ((first | refine g_split rfl rfl tE (fun _ => ?_) (fun _ => ?_) | refine gk_cond rfl rfl tE (fun _ => ?_) (fun _ => ?_)) <;> (try first | (exfalso; omega; done) | (rename_i hx; exact absurd rfl hx) | (rename_i hx; cases hx; done)))))
        obtain ⟨x, hx⟩ : ∃ x, L2[i]? = some x := ⟨_, List.getElem?_eq_getElem (by omega)⟩
        obtain ⟨y, hy⟩ : ∃ y, L2[j]? = some y := ⟨_, List.getElem?_eq_getElem (by omega)⟩
        have hlx := h1'' x (by omega) hx
        have hly := h2 y (by omega) hy
        have hne : i ≠ j := fun e => by subst e; rw [hx] at hy; cases hy; exact hlx hly
        have hy2 : (L2.set (i) y)[j]? = some y := set_other hx hy
        refine gk_any [] (Cut _ (fun _ : Unit => [(0, .slice (some ⟨g, 0, none⟩) n c), (1, (.int .i64 (a : Int))), (2, (.int .i64 (b : Int))), (3, (.int .i64 (pv : Int))), (8, (.int .i64 0)), (9, (.bool false)), (10, (.int .i64 (i : Int))), (11, (.int .i64 (j : Int)))]) (fun _ => [rF g n c (swp L2 i j x y)]) (fun _ => [])) rfl rfl (by kernel_rfl) ?_ (cut_k fun _ => ?_)
        · skip
          refine gb_take 0 rfl (by decide +kernel) rfl rfl (ys_ev (nw := true) hT rfl sI) sF ?_
          refine gb_take 1 rfl (by decide +kernel) rfl rfl (ys_ev (nw := true) hT rfl sI) sF ?_
          refine gb_take 2 rfl (by decide +kernel) rfl rfl (ys_ev (nw := true) hT rfl sI) sF ?_
          refine gb_take 3 rfl (by decide +kernel) rfl rfl (ys_ev (nw := true) hT rfl sI) sF ?_
          refine gb_take 4 rfl (by decide +kernel) rfl rfl (ys_ev (nw := true) hT rfl sI) sF ?_
          refine gb_take 5 rfl (by decide +kernel) rfl rfl (ys_ev (nw := true) hT rfl sI) sF ?_
          refine gb_take 6 rfl (by decide +kernel) rfl rfl (ys_ev (nw := true) hT rfl sI) sF ?_
          refine gb_take 8 rfl (by decide +kernel) rfl rfl (ys_ev (nw := true) hT rfl sI) sF ?_
          refine gb_take 9 rfl (by decide +kernel) rfl rfl (ys_ev (nw := true) hT rfl sI) sF ?_
          refine gb_take 10 rfl (by decide +kernel) rfl rfl (ys_ev (nw := true) hT rfl sI) sF ?_
          refine gb_all (by decide +kernel) ?_
          refine gball_not (by decide +kernel) ?_
          refine gball_not (by decide +kernel) ?_
          refine gball_not (by decide +kernel) ?_
          refine gball_not (by decide +kernel) ?_
          refine gball_not (by decide +kernel) ?_
          refine gball_not (by decide +kernel) ?_
          refine gball_not (by decide +kernel) ?_
          refine gball_yes rfl rfl ?_ ?_
          · refine mv_yd rfl ((ys_load_el (S := [own 0 31 1 (.slice (some ⟨g, 0, none⟩) n c) E (L2)]) (o0 := 0) (sz := 1) (enc := E) (L := L2) hT (j) y 0 rfl rfl rfl (by first | rfl | omega) hy (at_own mE) rfl rfl).ydS sF) ?_
            refine ⟨sF, ?_⟩
            refine gb_only 11 (by decide +kernel) rfl rfl ?_
            refine mv_yd rfl ((ys_load_el (S := [own 0 31 1 (.slice (some ⟨g, 0, none⟩) n c) E (L2)]) (o0 := 0) (sz := 1) (enc := E) (L := L2) hT (i) x 0 rfl rfl rfl (by first | rfl | omega) hx (at_own mE) rfl rfl).ydS sF) ?_
            refine ⟨sF, ?_⟩
            refine gb_take 12 rfl (by decide +kernel) rfl rfl (ys_ev (nw := true) hT rfl sI) sF ?_
            refine gb_only 13 (by decide +kernel) rfl rfl ?_
            refine mv_store_own (α := El) (g := g) (n := n) (c := c) (base := 0) (e := 31) (sz := 1) (enc := E) (L := L2) hT (i) 0 x y rfl rfl (by first | rfl | omega) rfl rfl rfl rfl hx (by decide) (fun b h1 h2 => absurd h1 (by omega)) rfl (by first | ((repeat (first | with_reducible exact Upd.here _ | with_reducible apply Upd.there)); done) | ((repeat (first | exact Upd.here _ | apply Upd.there)); done) | fail) rfl ?_
            refine ⟨sF, ?_⟩
            refine gb_take 14 rfl (by decide +kernel) rfl rfl (ys_ev (nw := true) hT rfl sI) sF ?_
            refine gb_only 15 (by decide +kernel) rfl rfl ?_
            refine mv_store_own (α := El) (g := g) (n := n) (c := c) (base := 0) (e := 31) (sz := 1) (enc := E) (L := L2.set (i) y) hT (j) 0 y x rfl rfl (by first | rfl | omega) rfl rfl rfl rfl hy2 (by decide) (fun b h1 h2 => absurd h1 (by omega)) rfl (by first | ((repeat (first | with_reducible exact Upd.here _ | with_reducible apply Upd.there)); done) | ((repeat (first | exact Upd.here _ | apply Upd.there)); done) | fail) rfl ?_
            refine ⟨sF, ?_⟩
            refine gb_nil (by decide +kernel) ?_
            exact ⟨(), (by repeat (first | exact trivial | refine ⟨rfl, ?_⟩)), sA, List.nil_subset _⟩
          refine gball_not (by decide +kernel) ?_
          refine gball_not (by decide +kernel) ?_
          refine gball_not (by decide +kernel) ?_
          refine gball_yes rfl rfl ?_ ?_
          · refine mv_yd rfl ((ys_load_el (S := [own 0 31 1 (.slice (some ⟨g, 0, none⟩) n c) E (L2)]) (o0 := 0) (sz := 1) (enc := E) (L := L2) hT (i) x 0 rfl rfl rfl (by first | rfl | omega) hx (at_own mE) rfl rfl).ydS sF) ?_
            refine ⟨sF, ?_⟩
            refine gb_only 7 (by decide +kernel) rfl rfl ?_
            refine mv_yd rfl ((ys_load_el (S := [own 0 31 1 (.slice (some ⟨g, 0, none⟩) n c) E (L2)]) (o0 := 0) (sz := 1) (enc := E) (L := L2) hT (j) y 0 rfl rfl rfl (by first | rfl | omega) hy (at_own mE) rfl rfl).ydS sF) ?_
            refine ⟨sF, ?_⟩
            refine gb_take 12 rfl (by decide +kernel) rfl rfl (ys_ev (nw := true) hT rfl sI) sF ?_
            refine gb_only 13 (by decide +kernel) rfl rfl ?_
            refine mv_store_own (α := El) (g := g) (n := n) (c := c) (base := 0) (e := 31) (sz := 1) (enc := E) (L := L2) hT (i) 0 x y rfl rfl (by first | rfl | omega) rfl rfl rfl rfl hx (by decide) (fun b h1 h2 => absurd h1 (by omega)) rfl (by first | ((repeat (first | with_reducible exact Upd.here _ | with_reducible apply Upd.there)); done) | ((repeat (first | exact Upd.here _ | apply Upd.there)); done) | fail) rfl ?_
            refine ⟨sF, ?_⟩
            refine gb_take 14 rfl (by decide +kernel) rfl rfl (ys_ev (nw := true) hT rfl sI) sF ?_
            refine gb_only 15 (by decide +kernel) rfl rfl ?_
            refine mv_store_own (α := El) (g := g) (n := n) (c := c) (base := 0) (e := 31) (sz := 1) (enc := E) (L := L2.set (i) y) hT (j) 0 y x rfl rfl (by first | rfl | omega) rfl rfl rfl rfl hy2 (by decide) (fun b h1 h2 => absurd h1 (by omega)) rfl (by first | ((repeat (first | with_reducible exact Upd.here _ | with_reducible apply Upd.there)); done) | ((repeat (first | exact Upd.here _ | apply Upd.there)); done) | fail) rfl ?_
            refine ⟨sF, ?_⟩
            refine gb_nil (by decide +kernel) ?_
            exact ⟨(), (by repeat (first | exact trivial | refine ⟨rfl, ?_⟩)), sA, List.nil_subset _⟩
          refine gball_not (by decide +kernel) ?_
          refine gball_not (by decide +kernel) ?_
          refine gball_not (by decide +kernel) ?_
          refine gball_not (by decide +kernel) ?_
          exact gball_end (by decide +kernel)
        · (repeat (refine gG ?_; try intro _))
          refine gk_say 10 (.int .i64 ((i + 1 : Nat) : Int)) rfl (by first | (congr 1; done) | (congr 1; omega)) ?_
          refine gk_say 11 (.int .i64 ((j - 1 : Nat) : Int)) rfl (by first | (congr 1; done) | (congr 1; omega)) ?_
          refine gk_again_sel rfl (i + 1, j - 1, swp L2 i j x y) ⟨(by show a < i + 1; omega), (by show j - 1 < b; omega), (by show i + 1 ≤ j - 1 + 1; omega), hs2.trans (.swp (by omega) (by omega) j1 j2' hx hy), hP'.swp i1 (by omega) hx hy hlx hly⟩ (by dsimp only; omega) (by repeat (first | exact trivial | refine ⟨rfl, ?_⟩)) sA sS
theorem peq_any (g n c a b pv : Nat) (p : El) (L : List El) (w : World) (hn : L.length = n) (h9 : n ≤ 1000000) (hpb : pv < b) (hap : a ≤ pv) (hb : b ≤ n) (hp : L[pv]? = some p) (h : Rd1 w (rF g n c L)) :
    Calls Try.prog 90 [.slice (some ⟨g, 0, none⟩) n c, .int .i64 (a : Int), .int .i64 (b : Int), .int .i64 (pv : Int)].toArray w (RetM (rF g n c L) (fun r : Nat × List El => a < r.1 ∧ r.1 ≤ b ∧ Seg a b L r.2 ∧ EInv lt a b p r.1 (r.1 - 1) r.2) (fun r => .int .i64 (r.1 : Int)) (fun r => rF g n c r.2) w) := by
  refine g_enter0 T (finE (rF g n c L) w) [rF g n c L] [] Try.func90 rfl Try.ntmps90 rfl (Kn.startM h (fun b hb => (finE_mem h.2 b).2 hb) (fun ψ hψ => by cases hψ)) ?_
  (repeat (refine gG ?_; try intro _))
  obtain ⟨x0, hx0⟩ : ∃ x0, L[a]? = some x0 := ⟨_, List.getElem?_eq_getElem (by omega)⟩
  have hy2 : (L.set (a) p)[pv]? = some p := set_other hx0 hp
  refine gk_any [] (Cut _ (fun _ : Unit => [(0, .slice (some ⟨g, 0, none⟩) n c), (1, (.int .i64 (a : Int))), (2, (.int .i64 (b : Int))), (3, (.int .i64 (pv : Int))), (8, (.int .i64 0))]) (fun _ => [rF g n c (swp L a pv x0 p)]) (fun _ => [])) rfl rfl (by kernel_rfl) ?_ (cut_k fun _ => ?_)
  · skip
    refine gb_take 0 rfl (by decide +kernel) rfl rfl (ys_ev (nw := true) hT rfl sI) sF ?_
    refine gb_take 1 rfl (by decide +kernel) rfl rfl (ys_ev (nw := true) hT rfl sI) sF ?_
    refine gb_take 2 rfl (by decide +kernel) rfl rfl (ys_ev (nw := true) hT rfl sI) sF ?_
    refine gb_take 3 rfl (by decide +kernel) rfl rfl (ys_ev (nw := true) hT rfl sI) sF ?_
    refine gb_take 4 rfl (by decide +kernel) rfl rfl (ys_ev (nw := true) hT rfl sI) sF ?_
    refine gb_take 5 rfl (by decide +kernel) rfl rfl (ys_ev (nw := true) hT rfl sI) sF ?_
    refine gb_take 6 rfl (by decide +kernel) rfl rfl (ys_ev (nw := true) hT rfl sI) sF ?_
    refine gb_take 8 rfl (by decide +kernel) rfl rfl (ys_ev (nw := true) hT rfl sI) sF ?_
    refine gb_take 9 rfl (by decide +kernel) rfl rfl (ys_ev (nw := true) hT rfl sI) sF ?_
    refine gb_take 10 rfl (by decide +kernel) rfl rfl (ys_ev (nw := true) hT rfl sI) sF ?_
    refine gb_all (by decide +kernel) ?_
    refine gball_not (by decide +kernel) ?_
    refine gball_not (by decide +kernel) ?_
    refine gball_not (by decide +kernel) ?_
    refine gball_not (by decide +kernel) ?_
    refine gball_not (by decide +kernel) ?_
    refine gball_not (by decide +kernel) ?_
    refine gball_not (by decide +kernel) ?_
    refine gball_yes rfl rfl ?_ ?_
    · refine mv_yd rfl ((ys_load_el (S := [own 0 31 1 (.slice (some ⟨g, 0, none⟩) n c) E (L)]) (o0 := 0) (sz := 1) (enc := E) (L := L) hT (pv) p 0 rfl rfl rfl (by first | rfl | omega) hp (at_own mE) rfl rfl).ydS sF) ?_
      refine ⟨sF, ?_⟩
      refine gb_only 11 (by decide +kernel) rfl rfl ?_
      refine mv_yd rfl ((ys_load_el (S := [own 0 31 1 (.slice (some ⟨g, 0, none⟩) n c) E (L)]) (o0 := 0) (sz := 1) (enc := E) (L := L) hT (a) x0 0 rfl rfl rfl (by first | rfl | omega) hx0 (at_own mE) rfl rfl).ydS sF) ?_
      refine ⟨sF, ?_⟩
      refine gb_take 12 rfl (by decide +kernel) rfl rfl (ys_ev (nw := true) hT rfl sI) sF ?_
      refine gb_only 13 (by decide +kernel) rfl rfl ?_
      refine mv_store_own (α := El) (g := g) (n := n) (c := c) (base := 0) (e := 31) (sz := 1) (enc := E) (L := L) hT (a) 0 x0 p rfl rfl (by first | rfl | omega) rfl rfl rfl rfl hx0 (by decide) (fun b h1 h2 => absurd h1 (by omega)) rfl (by first | ((repeat (first | with_reducible exact Upd.here _ | with_reducible apply Upd.there)); done) | ((repeat (first | exact Upd.here _ | apply Upd.there)); done) | fail) rfl ?_
      refine ⟨sF, ?_⟩
      refine gb_take 14 rfl (by decide +kernel) rfl rfl (ys_ev (nw := true) hT rfl sI) sF ?_
      refine gb_only 15 (by decide +kernel) rfl rfl ?_
      refine mv_store_own (α := El) (g := g) (n := n) (c := c) (base := 0) (e := 31) (sz := 1) (enc := E) (L := L.set (a) p) hT (pv) 0 p x0 rfl rfl (by first | rfl | omega) rfl rfl rfl rfl hy2 (by decide) (fun b h1 h2 => absurd h1 (by omega)) rfl (by first | ((repeat (first | with_reducible exact Upd.here _ | with_reducible apply Upd.there)); done) | ((repeat (first | exact Upd.here _ | apply Upd.there)); done) | fail) rfl ?_
      refine ⟨sF, ?_⟩
      refine gb_nil (by decide +kernel) ?_
      exact ⟨(), (by repeat (first | exact trivial | refine ⟨rfl, ?_⟩)), sA, List.nil_subset _⟩
    refine gball_not (by decide +kernel) ?_
    refine gball_not (by decide +kernel) ?_
    refine gball_not (by decide +kernel) ?_
    refine gball_yes rfl rfl ?_ ?_
    · refine mv_yd rfl ((ys_load_el (S := [own 0 31 1 (.slice (some ⟨g, 0, none⟩) n c) E (L)]) (o0 := 0) (sz := 1) (enc := E) (L := L) hT (a) x0 0 rfl rfl rfl (by first | rfl | omega) hx0 (at_own mE) rfl rfl).ydS sF) ?_
      refine ⟨sF, ?_⟩
      refine gb_only 7 (by decide +kernel) rfl rfl ?_
      refine mv_yd rfl ((ys_load_el (S := [own 0 31 1 (.slice (some ⟨g, 0, none⟩) n c) E (L)]) (o0 := 0) (sz := 1) (enc := E) (L := L) hT (pv) p 0 rfl rfl rfl (by first | rfl | omega) hp (at_own mE) rfl rfl).ydS sF) ?_
      refine ⟨sF, ?_⟩
      refine gb_take 12 rfl (by decide +kernel) rfl rfl (ys_ev (nw := true) hT rfl sI) sF ?_
      refine gb_only 13 (by decide +kernel) rfl rfl ?_
      refine mv_store_own (α := El) (g := g) (n := n) (c := c) (base := 0) (e := 31) (sz := 1) (enc := E) (L := L) hT (a) 0 x0 p rfl rfl (by first | rfl | omega) rfl rfl rfl rfl hx0 (by decide) (fun b h1 h2 => absurd h1 (by omega)) rfl (by first | ((repeat (first | with_reducible exact Upd.here _ | with_reducible apply Upd.there)); done) | ((repeat (first | exact Upd.here _ | apply Upd.there)); done) | fail) rfl ?_
      refine ⟨sF, ?_⟩
      refine gb_take 14 rfl (by decide +kernel) rfl rfl (ys_ev (nw := true) hT rfl sI) sF ?_
      refine gb_only 15 (by decide +kernel) rfl rfl ?_
      refine mv_store_own (α := El) (g := g) (n := n) (c := c) (base := 0) (e := 31) (sz := 1) (enc := E) (L := L.set (a) p) hT (pv) 0 p x0 rfl rfl (by first | rfl | omega) rfl rfl rfl rfl hy2 (by decide) (fun b h1 h2 => absurd h1 (by omega)) rfl (by first | ((repeat (first | with_reducible exact Upd.here _ | with_reducible apply Upd.there)); done) | ((repeat (first | exact Upd.here _ | apply Upd.there)); done) | fail) rfl ?_
      refine ⟨sF, ?_⟩
      refine gb_nil (by decide +kernel) ?_
      exact ⟨(), (by repeat (first | exact trivial | refine ⟨rfl, ?_⟩)), sA, List.nil_subset _⟩
    refine gball_not (by decide +kernel) ?_
    refine gball_not (by decide +kernel) ?_
    refine gball_not (by decide +kernel) ?_
    refine gball_not (by decide +kernel) ?_
    exact gball_end (by decide +kernel)
  have hL1a := swp_left hx0 hp
  have hs1 : Seg a b L (swp L a pv x0 p) := .swp (Nat.le_refl _) (by omega) hap hpb hx0 hp
  obtain ⟨L1, e1⟩ : ∃ L1, L1 = swp L a pv x0 p := ⟨_, rfl⟩
  rw [← e1] at hL1a hs1 ⊢
  have hl1 := hs1.len
  (repeat (refine gG ?_; try intro _))
  refine gk_say 9 (.int .i64 ((a + 1 : Nat) : Int)) rfl (by first | (congr 1; done) | (congr 1; omega)) ?_
  refine gk_say 10 (.int .i64 ((b - 1 : Nat) : Int)) rfl (by first | (congr 1; done) | (congr 1; omega)) ?_
  refine gk_loop_sel (fun (q : Nat × Nat × (List El)) => match q with | (i2, j2, L2) => (a < i2 ∧ j2 < b ∧ i2 ≤ j2 + 1 ∧ Seg a b L L2 ∧ EInv lt a b p i2 j2 L2)) (fun (q : Nat × Nat × (List El)) => match q with | (i2, j2, L2) => [(0, .slice (some ⟨g, 0, none⟩) n c), (1, (.int .i64 (a : Int))), (2, (.int .i64 (b : Int))), (3, (.int .i64 (pv : Int))), (8, (.int .i64 0)), (9, (.int .i64 (i2 : Int))), (10, (.int .i64 (j2 : Int)))]) (fun (q : Nat × Nat × (List El)) => match q with | (i2, j2, L2) => [rF g n c L2]) (fun (q : Nat × Nat × (List El)) => match q with | (i2, j2, L2) => []) (fun (q : Nat × Nat × (List El)) => match q with | (i2, j2, L2) => j2 + 1 - i2) (a + 1, b - 1, L1) rfl ⟨by omega, by omega, by omega, hs1, .start hL1a⟩ (by repeat (first | exact trivial | refine ⟨rfl, ?_⟩)) sA sS ?_
  rintro ⟨i2, j2, L2⟩ hI
  replace hI : (a < i2 ∧ j2 < b ∧ i2 ≤ j2 + 1 ∧ Seg a b L L2 ∧ EInv lt a b p i2 j2 L2) := hI
  change GK _ _ [(0, .slice (some ⟨g, 0, none⟩) n c), (1, (.int .i64 (a : Int))), (2, (.int .i64 (b : Int))), (3, (.int .i64 (pv : Int))), (8, (.int .i64 0)), (9, (.int .i64 (i2 : Int))), (10, (.int .i64 (j2 : Int)))] [rF g n c L2] []
  clear e1 hL1a hs1 hy2
  obtain ⟨m1, m2, m3, hs2, hP2⟩ := hI
  have hl2 := hs2.len
  refine gk_loop_sel (fun (q : Nat × Unit) => match q with | (i, z) => (i2 ≤ i ∧ a < i ∧ i ≤ j2 + 1 ∧ EInv lt a b p i j2 L2)) (fun (q : Nat × Unit) => match q with | (i, z) => [(0, .slice (some ⟨g, 0, none⟩) n c), (1, (.int .i64 (a : Int))), (2, (.int .i64 (b : Int))), (3, (.int .i64 (pv : Int))), (8, (.int .i64 0)), (9, (.int .i64 (i : Int))), (10, (.int .i64 ((j2 : Nat) : Int)))]) (fun (q : Nat × Unit) => match q with | (i, z) => [rF g n c L2]) (fun (q : Nat × Unit) => match q with | (i, z) => []) (fun (q : Nat × Unit) => match q with | (i, z) => j2 + 1 - i) (i2, ()) rfl ⟨Nat.le_refl _, m1, m3, hP2⟩ (by repeat (first | exact trivial | refine ⟨rfl, ?_⟩)) sA sS ?_
  rintro ⟨i, z⟩ hI
  replace hI : (i2 ≤ i ∧ a < i ∧ i ≤ j2 + 1 ∧ EInv lt a b p i j2 L2) := hI
  change GK _ _ [(0, .slice (some ⟨g, 0, none⟩) n c), (1, (.int .i64 (a : Int))), (2, (.int .i64 (b : Int))), (3, (.int .i64 (pv : Int))), (8, (.int .i64 0)), (9, (.int .i64 (i : Int))), (10, (.int .i64 ((j2 : Nat) : Int)))] [rF g n c L2] []
  obtain ⟨i0, i1, i2, hP⟩ := hI
  have hpa := hP.at'
  obtain ⟨jo, hj0⟩ : ∃ jo, jo = j2 := ⟨_, rfl⟩
  rw [← hj0] at i2 hP ⊢
  have hjb : jo < b := by omega
  refine gk_any [0] (Cut _ (fun r : { r : Bool // (r = true → (i ≤ jo ∧ ∃ x, L2[i]? = some x ∧ ¬ lt p x)) ∧ (r = false → ∀ x, i ≤ jo → L2[i]? = some x → lt p x) } => [(0, .slice (some ⟨g, 0, none⟩) n c), (1, (.int .i64 (a : Int))), (2, (.int .i64 (b : Int))), (3, (.int .i64 (pv : Int))), (8, (.int .i64 0)), (9, (.int .i64 (i : Int))), (10, (.int .i64 (jo : Int))), (43, .bool r.1)]) (fun _ => [rF g n c L2]) (fun _ => [])) rfl rfl (by kernel_rfl) ?_ (cut_k fun r => ?_)
  · by_cases hij : i ≤ jo
    · obtain ⟨x, hx⟩ : ∃ x, L2[i]? = some x := ⟨_, List.getElem?_eq_getElem (by omega)⟩
      by_cases hl : lt p x
      · skip
        refine gb_take 0 rfl (by decide +kernel) rfl rfl (ys_ev (nw := true) hT rfl sI) sF ?_
        refine gb_take 1 rfl (by decide +kernel) rfl rfl (ys_ev (nw := true) hT rfl sI) sF ?_
        refine gb_take 2 rfl (by decide +kernel) rfl rfl (ys_ev (nw := true) hT rfl sI) sF ?_
        refine gb_take 3 rfl (by decide +kernel) rfl rfl (ys_ev (nw := true) hT rfl sI) sF ?_
        try (refine gb_say 32 (.bool true) rfl (congrArg Value.bool (tB_true (by omega))) ?_)
        first | refine gb_take 4 rfl (by decide +kernel) rfl rfl (ys_ev (nw := true) hT rfl sI) sF ?_ | refine gb_skip 4 rfl (by decide +kernel) rfl rfl sF ?_
        first | refine gb_take 5 rfl (by decide +kernel) rfl rfl (ys_ev (nw := true) hT rfl sI) sF ?_ | refine gb_skip 5 rfl (by decide +kernel) rfl rfl sF ?_
        first | refine gb_take 6 rfl (by decide +kernel) rfl rfl (ys_ev (nw := true) hT rfl sI) sF ?_ | refine gb_skip 6 rfl (by decide +kernel) rfl rfl sF ?_
        first | refine gb_take 7 rfl (by decide +kernel) rfl rfl (ys_load_el (S := [own 0 31 1 (.slice (some ⟨g, 0, none⟩) n c) E (L2)]) (o0 := 0) (sz := 1) (enc := E) (L := L2) hT (a) p 0 rfl rfl rfl (by first | rfl | omega) hpa (at_own mE) rfl rfl) sF ?_ | refine gb_skip 7 rfl (by decide +kernel) rfl rfl sF ?_
        first | refine gb_take 8 rfl (by decide +kernel) rfl rfl (ys_ev (nw := true) hT rfl sI) sF ?_ | refine gb_skip 8 rfl (by decide +kernel) rfl rfl sF ?_
        first | refine gb_take 9 rfl (by decide +kernel) rfl rfl (ys_ev (nw := true) hT rfl sI) sF ?_ | refine gb_skip 9 rfl (by decide +kernel) rfl rfl sF ?_
        first | refine gb_take 10 rfl (by decide +kernel) rfl rfl (ys_ev (nw := true) hT rfl sI) sF ?_ | refine gb_skip 10 rfl (by decide +kernel) rfl rfl sF ?_
        first | refine gb_take 11 rfl (by decide +kernel) rfl rfl (ys_load_el (S := [own 0 31 1 (.slice (some ⟨g, 0, none⟩) n c) E (L2)]) (o0 := 0) (sz := 1) (enc := E) (L := L2) hT (i) x 0 rfl rfl rfl (by first | rfl | omega) hx (at_own mE) rfl rfl) sF ?_ | refine gb_skip 11 rfl (by decide +kernel) rfl rfl sF ?_
        first | refine gb_skip 12 rfl (by decide +kernel) rfl rfl sF ?_ | (refine gb_only 12 (by decide +kernel) rfl rfl ?_; (refine mv_call_bel (fun w hk => less_any p x w) rfl rfl rfl rfl rfl (by kernel_rfl) ?_); refine ⟨sF, ?_⟩)
        try (refine gb_say 41 (.bool true) rfl (congrArg Value.bool (tB_true hl)) ?_)
        first | refine gb_take 13 rfl (by decide +kernel) rfl rfl (ys_ev (nw := true) hT rfl sI) sF ?_ | refine gb_skip 13 rfl (by decide +kernel) rfl rfl sF ?_
        refine gb_take 14 rfl (by decide +kernel) rfl rfl (ys_ev (nw := true) hT rfl sI) sF ?_
        refine gb_nil (by decide +kernel) ?_
        exact ⟨⟨false, ⟨fun h => (by cases h), fun _ x' _ hx' => by rw [hx] at hx'; cases hx'; exact hl⟩⟩, (by repeat (first | exact trivial | refine ⟨rfl, ?_⟩)), sA, sS⟩
      · skip
        refine gb_take 0 rfl (by decide +kernel) rfl rfl (ys_ev (nw := true) hT rfl sI) sF ?_
        refine gb_take 1 rfl (by decide +kernel) rfl rfl (ys_ev (nw := true) hT rfl sI) sF ?_
        refine gb_take 2 rfl (by decide +kernel) rfl rfl (ys_ev (nw := true) hT rfl sI) sF ?_
        refine gb_take 3 rfl (by decide +kernel) rfl rfl (ys_ev (nw := true) hT rfl sI) sF ?_
        try (refine gb_say 32 (.bool true) rfl (congrArg Value.bool (tB_true (by omega))) ?_)
        first | refine gb_take 4 rfl (by decide +kernel) rfl rfl (ys_ev (nw := true) hT rfl sI) sF ?_ | refine gb_skip 4 rfl (by decide +kernel) rfl rfl sF ?_
        first | refine gb_take 5 rfl (by decide +kernel) rfl rfl (ys_ev (nw := true) hT rfl sI) sF ?_ | refine gb_skip 5 rfl (by decide +kernel) rfl rfl sF ?_
        first | refine gb_take 6 rfl (by decide +kernel) rfl rfl (ys_ev (nw := true) hT rfl sI) sF ?_ | refine gb_skip 6 rfl (by decide +kernel) rfl rfl sF ?_
        first | refine gb_take 7 rfl (by decide +kernel) rfl rfl (ys_load_el (S := [own 0 31 1 (.slice (some ⟨g, 0, none⟩) n c) E (L2)]) (o0 := 0) (sz := 1) (enc := E) (L := L2) hT (a) p 0 rfl rfl rfl (by first | rfl | omega) hpa (at_own mE) rfl rfl) sF ?_ | refine gb_skip 7 rfl (by decide +kernel) rfl rfl sF ?_
        first | refine gb_take 8 rfl (by decide +kernel) rfl rfl (ys_ev (nw := true) hT rfl sI) sF ?_ | refine gb_skip 8 rfl (by decide +kernel) rfl rfl sF ?_
        first | refine gb_take 9 rfl (by decide +kernel) rfl rfl (ys_ev (nw := true) hT rfl sI) sF ?_ | refine gb_skip 9 rfl (by decide +kernel) rfl rfl sF ?_
        first | refine gb_take 10 rfl (by decide +kernel) rfl rfl (ys_ev (nw := true) hT rfl sI) sF ?_ | refine gb_skip 10 rfl (by decide +kernel) rfl rfl sF ?_
        first | refine gb_take 11 rfl (by decide +kernel) rfl rfl (ys_load_el (S := [own 0 31 1 (.slice (some ⟨g, 0, none⟩) n c) E (L2)]) (o0 := 0) (sz := 1) (enc := E) (L := L2) hT (i) x 0 rfl rfl rfl (by first | rfl | omega) hx (at_own mE) rfl rfl) sF ?_ | refine gb_skip 11 rfl (by decide +kernel) rfl rfl sF ?_
        first | refine gb_skip 12 rfl (by decide +kernel) rfl rfl sF ?_ | (refine gb_only 12 (by decide +kernel) rfl rfl ?_; (refine mv_call_bel (fun w hk => less_any p x w) rfl rfl rfl rfl rfl (by kernel_rfl) ?_); refine ⟨sF, ?_⟩)
        try (refine gb_say 41 (.bool false) rfl (congrArg Value.bool (tB_false hl)) ?_)
        first | refine gb_take 13 rfl (by decide +kernel) rfl rfl (ys_ev (nw := true) hT rfl sI) sF ?_ | refine gb_skip 13 rfl (by decide +kernel) rfl rfl sF ?_
        refine gb_take 14 rfl (by decide +kernel) rfl rfl (ys_ev (nw := true) hT rfl sI) sF ?_
        refine gb_nil (by decide +kernel) ?_
        exact ⟨⟨true, ⟨fun _ => ⟨hij, x, hx, hl⟩, fun h => (by cases h)⟩⟩, (by repeat (first | exact trivial | refine ⟨rfl, ?_⟩)), sA, sS⟩
    · skip
      refine gb_take 0 rfl (by decide +kernel) rfl rfl (ys_ev (nw := true) hT rfl sI) sF ?_
      refine gb_take 1 rfl (by decide +kernel) rfl rfl (ys_ev (nw := true) hT rfl sI) sF ?_
      refine gb_take 2 rfl (by decide +kernel) rfl rfl (ys_ev (nw := true) hT rfl sI) sF ?_
      refine gb_take 3 rfl (by decide +kernel) rfl rfl (ys_ev (nw := true) hT rfl sI) sF ?_
      try (refine gb_say 32 (.bool false) rfl (congrArg Value.bool (tB_false (by omega))) ?_)
      first | refine gb_take 4 rfl (by decide +kernel) rfl rfl (ys_ev (nw := true) hT rfl sI) sF ?_ | refine gb_skip 4 rfl (by decide +kernel) rfl rfl sF ?_
      first | refine gb_take 5 rfl (by decide +kernel) rfl rfl (ys_ev (nw := true) hT rfl sI) sF ?_ | refine gb_skip 5 rfl (by decide +kernel) rfl rfl sF ?_
      first | refine gb_take 6 rfl (by decide +kernel) rfl rfl (ys_ev (nw := true) hT rfl sI) sF ?_ | refine gb_skip 6 rfl (by decide +kernel) rfl rfl sF ?_
      first | refine gb_take 7 rfl (by decide +kernel) rfl rfl (by first | exact ys_blk hT rfl rfl mE rfl rfl | exact ys_row hT rfl rfl mE rfl rfl | exact ys_row0 hT rfl rfl mE rfl rfl) sF ?_ | refine gb_skip 7 rfl (by decide +kernel) rfl rfl sF ?_
      first | refine gb_take 8 rfl (by decide +kernel) rfl rfl (ys_ev (nw := true) hT rfl sI) sF ?_ | refine gb_skip 8 rfl (by decide +kernel) rfl rfl sF ?_
      first | refine gb_take 9 rfl (by decide +kernel) rfl rfl (ys_ev (nw := true) hT rfl sI) sF ?_ | refine gb_skip 9 rfl (by decide +kernel) rfl rfl sF ?_
      first | refine gb_take 10 rfl (by decide +kernel) rfl rfl (ys_ev (nw := true) hT rfl sI) sF ?_ | refine gb_skip 10 rfl (by decide +kernel) rfl rfl sF ?_
      first | refine gb_take 11 rfl (by decide +kernel) rfl rfl (by first | exact ys_blk hT rfl rfl mE rfl rfl | exact ys_row hT rfl rfl mE rfl rfl | exact ys_row0 hT rfl rfl mE rfl rfl) sF ?_ | refine gb_skip 11 rfl (by decide +kernel) rfl rfl sF ?_
      first | refine gb_skip 12 rfl (by decide +kernel) rfl rfl sF ?_ | (refine gb_only 12 (by decide +kernel) rfl rfl ?_; (skip); refine ⟨sF, ?_⟩)
      first | refine gb_take 13 rfl (by decide +kernel) rfl rfl (ys_ev (nw := true) hT rfl sI) sF ?_ | refine gb_skip 13 rfl (by decide +kernel) rfl rfl sF ?_
      refine gb_take 14 rfl (by decide +kernel) rfl rfl (ys_ev (nw := true) hT rfl sI) sF ?_
      refine gb_nil (by decide +kernel) ?_
      exact ⟨⟨false, ⟨fun h => (by cases h), fun _ x h => absurd h hij⟩⟩, (by repeat (first | exact trivial | refine ⟨rfl, ?_⟩)), sA, sS⟩
  obtain ⟨r, hr1, hr2⟩ := r
  by_cases hr : r = true
  · subst hr
    obtain ⟨hij, x, hx, hl⟩ := hr1 rfl
    (repeat (refine gG ?_; try intro _))
    refine gk_say 9 (.int .i64 ((i + 1 : Nat) : Int)) rfl (by first | (congr 1; done) | (congr 1; omega)) ?_
    subst hj0
    refine gk_again_sel rfl (i + 1, ()) ⟨by omega, by omega, by omega, hP.left hx hl⟩ (by dsimp only; omega) (by repeat (first | exact trivial | refine ⟨rfl, ?_⟩)) sA sS
  obtain rfl : r = false := by simpa using hr
  have h1 := hr2 rfl
  dsimp only
  clear hr hr1 hr2
  (repeat (refine gG ?_; try intro _))
  refine gk_loop_sel (fun (q : Nat × Unit) => match q with | (j, z) => (a ≤ j ∧ j < b ∧ j ≤ jo ∧ i ≤ j + 1 ∧ EInv lt a b p i j L2)) (fun (q : Nat × Unit) => match q with | (j, z) => [(0, .slice (some ⟨g, 0, none⟩) n c), (1, (.int .i64 (a : Int))), (2, (.int .i64 (b : Int))), (3, (.int .i64 (pv : Int))), (8, (.int .i64 0)), (9, (.int .i64 (i : Int))), (10, (.int .i64 (j : Int)))]) (fun (q : Nat × Unit) => match q with | (j, z) => [rF g n c L2]) (fun (q : Nat × Unit) => match q with | (j, z) => []) (fun (q : Nat × Unit) => match q with | (j, z) => j) (jo, ()) rfl ⟨by omega, hjb, Nat.le_refl _, i2, hP⟩ (by repeat (first | exact trivial | refine ⟨rfl, ?_⟩)) sA sS ?_
  rintro ⟨j, z⟩ hI
  replace hI : (a ≤ j ∧ j < b ∧ j ≤ jo ∧ i ≤ j + 1 ∧ EInv lt a b p i j L2) := hI
  change GK _ _ [(0, .slice (some ⟨g, 0, none⟩) n c), (1, (.int .i64 (a : Int))), (2, (.int .i64 (b : Int))), (3, (.int .i64 (pv : Int))), (8, (.int .i64 0)), (9, (.int .i64 (i : Int))), (10, (.int .i64 (j : Int)))] [rF g n c L2] []
  obtain ⟨j1, j2', j3, i2', hP'⟩ := hI
  have h1'' : ∀ x, i ≤ j → L2[i]? = some x → lt p x := fun x h h' => h1 x (by omega) h'
  clear h1
  have hpa := hP'.at'
  refine gk_any [0] (Cut _ (fun r : { r : Bool // (r = true → (i ≤ j ∧ ∃ x, L2[j]? = some x ∧ lt p x)) ∧ (r = false → ∀ x, i ≤ j → L2[j]? = some x → ¬ lt p x) } => [(0, .slice (some ⟨g, 0, none⟩) n c), (1, (.int .i64 (a : Int))), (2, (.int .i64 (b : Int))), (3, (.int .i64 (pv : Int))), (8, (.int .i64 0)), (9, (.int .i64 (i : Int))), (10, (.int .i64 (j : Int))), (59, .bool r.1)]) (fun _ => [rF g n c L2]) (fun _ => [])) rfl rfl (by kernel_rfl) ?_ (cut_k fun r => ?_)
  · by_cases hij : i ≤ j
    · obtain ⟨x, hx⟩ : ∃ x, L2[j]? = some x := ⟨_, List.getElem?_eq_getElem (by omega)⟩
      by_cases hl : lt p x
      · skip
        refine gb_take 0 rfl (by decide +kernel) rfl rfl (ys_ev (nw := true) hT rfl sI) sF ?_
        refine gb_take 1 rfl (by decide +kernel) rfl rfl (ys_ev (nw := true) hT rfl sI) sF ?_
        refine gb_take 2 rfl (by decide +kernel) rfl rfl (ys_ev (nw := true) hT rfl sI) sF ?_
        refine gb_take 3 rfl (by decide +kernel) rfl rfl (ys_ev (nw := true) hT rfl sI) sF ?_
        try (refine gb_say 49 (.bool true) rfl (congrArg Value.bool (tB_true (by omega))) ?_)
        first | refine gb_take 4 rfl (by decide +kernel) rfl rfl (ys_ev (nw := true) hT rfl sI) sF ?_ | refine gb_skip 4 rfl (by decide +kernel) rfl rfl sF ?_
        first | refine gb_take 5 rfl (by decide +kernel) rfl rfl (ys_ev (nw := true) hT rfl sI) sF ?_ | refine gb_skip 5 rfl (by decide +kernel) rfl rfl sF ?_
        first | refine gb_take 6 rfl (by decide +kernel) rfl rfl (ys_ev (nw := true) hT rfl sI) sF ?_ | refine gb_skip 6 rfl (by decide +kernel) rfl rfl sF ?_
        first | refine gb_take 7 rfl (by decide +kernel) rfl rfl (ys_load_el (S := [own 0 31 1 (.slice (some ⟨g, 0, none⟩) n c) E (L2)]) (o0 := 0) (sz := 1) (enc := E) (L := L2) hT (a) p 0 rfl rfl rfl (by first | rfl | omega) hpa (at_own mE) rfl rfl) sF ?_ | refine gb_skip 7 rfl (by decide +kernel) rfl rfl sF ?_
        first | refine gb_take 8 rfl (by decide +kernel) rfl rfl (ys_ev (nw := true) hT rfl sI) sF ?_ | refine gb_skip 8 rfl (by decide +kernel) rfl rfl sF ?_
        first | refine gb_take 9 rfl (by decide +kernel) rfl rfl (ys_ev (nw := true) hT rfl sI) sF ?_ | refine gb_skip 9 rfl (by decide +kernel) rfl rfl sF ?_
        first | refine gb_take 10 rfl (by decide +kernel) rfl rfl (ys_ev (nw := true) hT rfl sI) sF ?_ | refine gb_skip 10 rfl (by decide +kernel) rfl rfl sF ?_
        first | refine gb_take 11 rfl (by decide +kernel) rfl rfl (ys_load_el (S := [own 0 31 1 (.slice (some ⟨g, 0, none⟩) n c) E (L2)]) (o0 := 0) (sz := 1) (enc := E) (L := L2) hT (j) x 0 rfl rfl rfl (by first | rfl | omega) hx (at_own mE) rfl rfl) sF ?_ | refine gb_skip 11 rfl (by decide +kernel) rfl rfl sF ?_
        first | refine gb_skip 12 rfl (by decide +kernel) rfl rfl sF ?_ | (refine gb_only 12 (by decide +kernel) rfl rfl ?_; (refine mv_call_bel (fun w hk => less_any p x w) rfl rfl rfl rfl rfl (by kernel_rfl) ?_); refine ⟨sF, ?_⟩)
        try (refine gb_say 58 (.bool true) rfl (congrArg Value.bool (tB_true hl)) ?_)
        refine gb_take 13 rfl (by decide +kernel) rfl rfl (ys_ev (nw := true) hT rfl sI) sF ?_
        refine gb_nil (by decide +kernel) ?_
        exact ⟨⟨true, ⟨fun _ => ⟨hij, x, hx, hl⟩, fun h => (by cases h)⟩⟩, (by repeat (first | exact trivial | refine ⟨rfl, ?_⟩)), sA, sS⟩
      · skip
        refine gb_take 0 rfl (by decide +kernel) rfl rfl (ys_ev (nw := true) hT rfl sI) sF ?_
        refine gb_take 1 rfl (by decide +kernel) rfl rfl (ys_ev (nw := true) hT rfl sI) sF ?_
        refine gb_take 2 rfl (by decide +kernel) rfl rfl (ys_ev (nw := true) hT rfl sI) sF ?_
        refine gb_take 3 rfl (by decide +kernel) rfl rfl (ys_ev (nw := true) hT rfl sI) sF ?_
        try (refine gb_say 49 (.bool true) rfl (congrArg Value.bool (tB_true (by omega))) ?_)
        first | refine gb_take 4 rfl (by decide +kernel) rfl rfl (ys_ev (nw := true) hT rfl sI) sF ?_ | refine gb_skip 4 rfl (by decide +kernel) rfl rfl sF ?_
        first | refine gb_take 5 rfl (by decide +kernel) rfl rfl (ys_ev (nw := true) hT rfl sI) sF ?_ | refine gb_skip 5 rfl (by decide +kernel) rfl rfl sF ?_
        first | refine gb_take 6 rfl (by decide +kernel) rfl rfl (ys_ev (nw := true) hT rfl sI) sF ?_ | refine gb_skip 6 rfl (by decide +kernel) rfl rfl sF ?_
        first | refine gb_take 7 rfl (by decide +kernel) rfl rfl (ys_load_el (S := [own 0 31 1 (.slice (some ⟨g, 0, none⟩) n c) E (L2)]) (o0 := 0) (sz := 1) (enc := E) (L := L2) hT (a) p 0 rfl rfl rfl (by first | rfl | omega) hpa (at_own mE) rfl rfl) sF ?_ | refine gb_skip 7 rfl (by decide +kernel) rfl rfl sF ?_
        first | refine gb_take 8 rfl (by decide +kernel) rfl rfl (ys_ev (nw := true) hT rfl sI) sF ?_ | refine gb_skip 8 rfl (by decide +kernel) rfl rfl sF ?_
        first | refine gb_take 9 rfl (by decide +kernel) rfl rfl (ys_ev (nw := true) hT rfl sI) sF ?_ | refine gb_skip 9 rfl (by decide +kernel) rfl rfl sF ?_
        first | refine gb_take 10 rfl (by decide +kernel) rfl rfl (ys_ev (nw := true) hT rfl sI) sF ?_ | refine gb_skip 10 rfl (by decide +kernel) rfl rfl sF ?_
        first | refine gb_take 11 rfl (by decide +kernel) rfl rfl (ys_load_el (S := [own 0 31 1 (.slice (some ⟨g, 0, none⟩) n c) E (L2)]) (o0 := 0) (sz := 1) (enc := E) (L := L2) hT (j) x 0 rfl rfl rfl (by first | rfl | omega) hx (at_own mE) rfl rfl) sF ?_ | refine gb_skip 11 rfl (by decide +kernel) rfl rfl sF ?_
        first | refine gb_skip 12 rfl (by decide +kernel) rfl rfl sF ?_ | (refine gb_only 12 (by decide +kernel) rfl rfl ?_; (refine mv_call_bel (fun w hk => less_any p x w) rfl rfl rfl rfl rfl (by kernel_rfl) ?_); refine ⟨sF, ?_⟩)
        try (refine gb_say 58 (.bool false) rfl (congrArg Value.bool (tB_false hl)) ?_)
        refine gb_take 13 rfl (by decide +kernel) rfl rfl (ys_ev (nw := true) hT rfl sI) sF ?_
        refine gb_nil (by decide +kernel) ?_
        exact ⟨⟨false, ⟨fun h => (by cases h), fun _ x' _ hx' => by rw [hx] at hx'; cases hx'; exact hl⟩⟩, (by repeat (first | exact trivial | refine ⟨rfl, ?_⟩)), sA, sS⟩
    · skip
      refine gb_take 0 rfl (by decide +kernel) rfl rfl (ys_ev (nw := true) hT rfl sI) sF ?_
      refine gb_take 1 rfl (by decide +kernel) rfl rfl (ys_ev (nw := true) hT rfl sI) sF ?_
      refine gb_take 2 rfl (by decide +kernel) rfl rfl (ys_ev (nw := true) hT rfl sI) sF ?_
      refine gb_take 3 rfl (by decide +kernel) rfl rfl (ys_ev (nw := true) hT rfl sI) sF ?_
      try (refine gb_say 49 (.bool false) rfl (congrArg Value.bool (tB_false (by omega))) ?_)
      first | refine gb_take 4 rfl (by decide +kernel) rfl rfl (ys_ev (nw := true) hT rfl sI) sF ?_ | refine gb_skip 4 rfl (by decide +kernel) rfl rfl sF ?_
      first | refine gb_take 5 rfl (by decide +kernel) rfl rfl (ys_ev (nw := true) hT rfl sI) sF ?_ | refine gb_skip 5 rfl (by decide +kernel) rfl rfl sF ?_
      first | refine gb_take 6 rfl (by decide +kernel) rfl rfl (ys_ev (nw := true) hT rfl sI) sF ?_ | refine gb_skip 6 rfl (by decide +kernel) rfl rfl sF ?_
      first | refine gb_take 7 rfl (by decide +kernel) rfl rfl (by first | exact ys_blk hT rfl rfl mE rfl rfl | exact ys_row hT rfl rfl mE rfl rfl | exact ys_row0 hT rfl rfl mE rfl rfl) sF ?_ | refine gb_skip 7 rfl (by decide +kernel) rfl rfl sF ?_
      first | refine gb_take 8 rfl (by decide +kernel) rfl rfl (ys_ev (nw := true) hT rfl sI) sF ?_ | refine gb_skip 8 rfl (by decide +kernel) rfl rfl sF ?_
      first | refine gb_take 9 rfl (by decide +kernel) rfl rfl (ys_ev (nw := true) hT rfl sI) sF ?_ | refine gb_skip 9 rfl (by decide +kernel) rfl rfl sF ?_
      first | refine gb_take 10 rfl (by decide +kernel) rfl rfl (ys_ev (nw := true) hT rfl sI) sF ?_ | refine gb_skip 10 rfl (by decide +kernel) rfl rfl sF ?_
      first | refine gb_take 11 rfl (by decide +kernel) rfl rfl (by first | exact ys_blk hT rfl rfl mE rfl rfl | exact ys_row hT rfl rfl mE rfl rfl | exact ys_row0 hT rfl rfl mE rfl rfl) sF ?_ | refine gb_skip 11 rfl (by decide +kernel) rfl rfl sF ?_
      first | refine gb_skip 12 rfl (by decide +kernel) rfl rfl sF ?_ | (refine gb_only 12 (by decide +kernel) rfl rfl ?_; (skip); refine ⟨sF, ?_⟩)
      refine gb_take 13 rfl (by decide +kernel) rfl rfl (ys_ev (nw := true) hT rfl sI) sF ?_
      refine gb_nil (by decide +kernel) ?_
      exact ⟨⟨false, ⟨fun h => (by cases h), fun _ x h => absurd h hij⟩⟩, (by repeat (first | exact trivial | refine ⟨rfl, ?_⟩)), sA, sS⟩
  obtain ⟨r, hr1, hr2⟩ := r
  by_cases hr : r = true
  · subst hr
    obtain ⟨hij, x, hx, hl⟩ := hr1 rfl
    (repeat (refine gG ?_; try intro _))
    refine gk_say 10 (.int .i64 ((j - 1 : Nat) : Int)) rfl (by first | (congr 1; done) | (congr 1; omega)) ?_
    refine gk_again_sel rfl (j - 1, ()) ⟨by omega, by omega, by omega, by omega, hP'.right (by omega) hx hl⟩ (by dsimp only; omega) (by repeat (first | exact trivial | refine ⟨rfl, ?_⟩)) sA sS
  obtain rfl : r = false := by simpa using hr
  have h2 := hr2 rfl
  dsimp only
  clear hr hr1 hr2
  by_cases hji : j < i
  · (repeat' (first | (refine gG ?_; try intro _) | ((first | refine g_split rfl rfl tE (fun _ => ?_) (fun _ => ?_) | refine gk_cond rfl rfl tE (fun _ => ?_) (fun _ => ?_)) <;> (try first | (exfalso; omega; done) | (rename_i hx; exact absurd rfl hx) | (rename_i hx; cases hx; done)))))
    refine gk_ret hT rfl rfl (.tmp rfl .nil) (fun w' hk => ?_)
    exact RetM.mk ((i, L2) : Nat × List El) ⟨i1, by show i ≤ b; omega, hs2, by show EInv lt a b p i (i - 1) L2; rw [show i - 1 = j by omega]; exact hP'⟩ rfl hk (fun b hb => (finE_mem h.2 b).1 hb) mE
  · (repeat' (first | (refine gG ?_; try intro _) | ((first | refine g_split rfl rfl tE (fun _ => ?_) (fun _ => ?_) | refine gk_cond rfl rfl tE (fun _ => ?_) (fun _ => ?_)) <;> (try first | (exfalso; omega; done) | (rename_i hx; exact absurd rfl hx) | (rename_i hx; cases hx; done)))))
    obtain ⟨x, hx⟩ : ∃ x, L2[i]? = some x := ⟨_, List.getElem?_eq_getElem (by omega)⟩
    obtain ⟨y, hy⟩ : ∃ y, L2[j]? = some y := ⟨_, List.getElem?_eq_getElem (by omega)⟩
    have hlx := h1'' x (by omega) hx
    have hly := h2 y (by omega) hy
    have hne : i ≠ j := fun e => by subst e; rw [hx] at hy; cases hy; exact hly hlx
    have hy2 : (L2.set (i) y)[j]? = some y := set_other hx hy
    refine gk_any [] (Cut _ (fun _ : Unit => [(0, .slice (some ⟨g, 0, none⟩) n c), (1, (.int .i64 (a : Int))), (2, (.int .i64 (b : Int))), (3, (.int .i64 (pv : Int))), (8, (.int .i64 0)), (9, (.int .i64 (i : Int))), (10, (.int .i64 (j : Int)))]) (fun _ => [rF g n c (swp L2 i j x y)]) (fun _ => [])) rfl rfl (by kernel_rfl) ?_ (cut_k fun _ => ?_)
    · skip
      refine gb_take 0 rfl (by decide +kernel) rfl rfl (ys_ev (nw := true) hT rfl sI) sF ?_
      refine gb_take 1 rfl (by decide +kernel) rfl rfl (ys_ev (nw := true) hT rfl sI) sF ?_
      refine gb_take 2 rfl (by decide +kernel) rfl rfl (ys_ev (nw := true) hT rfl sI) sF ?_
      refine gb_take 3 rfl (by decide +kernel) rfl rfl (ys_ev (nw := true) hT rfl sI) sF ?_
      refine gb_take 4 rfl (by decide +kernel) rfl rfl (ys_ev (nw := true) hT rfl sI) sF ?_
      refine gb_take 5 rfl (by decide +kernel) rfl rfl (ys_ev (nw := true) hT rfl sI) sF ?_
      refine gb_take 6 rfl (by decide +kernel) rfl rfl (ys_ev (nw := true) hT rfl sI) sF ?_
      refine gb_take 8 rfl (by decide +kernel) rfl rfl (ys_ev (nw := true) hT rfl sI) sF ?_
      refine gb_take 9 rfl (by decide +kernel) rfl rfl (ys_ev (nw := true) hT rfl sI) sF ?_
      refine gb_take 10 rfl (by decide +kernel) rfl rfl (ys_ev (nw := true) hT rfl sI) sF ?_
      refine gb_all (by decide +kernel) ?_
      refine gball_not (by decide +kernel) ?_
      refine gball_not (by decide +kernel) ?_
      refine gball_not (by decide +kernel) ?_
      refine gball_not (by decide +kernel) ?_
      refine gball_not (by decide +kernel) ?_
      refine gball_not (by decide +kernel) ?_
      refine gball_not (by decide +kernel) ?_
      refine gball_yes rfl rfl ?_ ?_
      · refine mv_yd rfl ((ys_load_el (S := [own 0 31 1 (.slice (some ⟨g, 0, none⟩) n c) E (L2)]) (o0 := 0) (sz := 1) (enc := E) (L := L2) hT (j) y 0 rfl rfl rfl (by first | rfl | omega) hy (at_own mE) rfl rfl).ydS sF) ?_
        refine ⟨sF, ?_⟩
        refine gb_only 11 (by decide +kernel) rfl rfl ?_
        refine mv_yd rfl ((ys_load_el (S := [own 0 31 1 (.slice (some ⟨g, 0, none⟩) n c) E (L2)]) (o0 := 0) (sz := 1) (enc := E) (L := L2) hT (i) x 0 rfl rfl rfl (by first | rfl | omega) hx (at_own mE) rfl rfl).ydS sF) ?_
        refine ⟨sF, ?_⟩
        refine gb_take 12 rfl (by decide +kernel) rfl rfl (ys_ev (nw := true) hT rfl sI) sF ?_
        refine gb_only 13 (by decide +kernel) rfl rfl ?_
        refine mv_store_own (α := El) (g := g) (n := n) (c := c) (base := 0) (e := 31) (sz := 1) (enc := E) (L := L2) hT (i) 0 x y rfl rfl (by first | rfl | omega) rfl rfl rfl rfl hx (by decide) (fun b h1 h2 => absurd h1 (by omega)) rfl (by first | ((repeat (first | with_reducible exact Upd.here _ | with_reducible apply Upd.there)); done) | ((repeat (first | exact Upd.here _ | apply Upd.there)); done) | fail) rfl ?_
        refine ⟨sF, ?_⟩
        refine gb_take 14 rfl (by decide +kernel) rfl rfl (ys_ev (nw := true) hT rfl sI) sF ?_
        refine gb_only 15 (by decide +kernel) rfl rfl ?_
        refine mv_store_own (α := El) (g := g) (n := n) (c := c) (base := 0) (e := 31) (sz := 1) (enc := E) (L := L2.set (i) y) hT (j) 0 y x rfl rfl (by first | rfl | omega) rfl rfl rfl rfl hy2 (by decide) (fun b h1 h2 => absurd h1 (by omega)) rfl (by first | ((repeat (first | with_reducible exact Upd.here _ | with_reducible apply Upd.there)); done) | ((repeat (first | exact Upd.here _ | apply Upd.there)); done) | fail) rfl ?_
        refine ⟨sF, ?_⟩
        refine gb_nil (by decide +kernel) ?_
        exact ⟨(), (by repeat (first | exact trivial | refine ⟨rfl, ?_⟩)), sA, List.nil_subset _⟩
      refine gball_not (by decide +kernel) ?_
      refine gball_not (by decide +kernel) ?_
      refine gball_not (by decide +kernel) ?_
      refine gball_yes rfl rfl ?_ ?_
      · refine mv_yd rfl ((ys_load_el (S := [own 0 31 1 (.slice (some ⟨g, 0, none⟩) n c) E (L2)]) (o0 := 0) (sz := 1) (enc := E) (L := L2) hT (i) x 0 rfl rfl rfl (by first | rfl | omega) hx (at_own mE) rfl rfl).ydS sF) ?_
        refine ⟨sF, ?_⟩
        refine gb_only 7 (by decide +kernel) rfl rfl ?_
        refine mv_yd rfl ((ys_load_el (S := [own 0 31 1 (.slice (some ⟨g, 0, none⟩) n c) E (L2)]) (o0 := 0) (sz := 1) (enc := E) (L := L2) hT (j) y 0 rfl rfl rfl (by first | rfl | omega) hy (at_own mE) rfl rfl).ydS sF) ?_
        refine ⟨sF, ?_⟩
        refine gb_take 12 rfl (by decide +kernel) rfl rfl (ys_ev (nw := true) hT rfl sI) sF ?_
        refine gb_only 13 (by decide +kernel) rfl rfl ?_
        refine mv_store_own (α := El) (g := g) (n := n) (c := c) (base := 0) (e := 31) (sz := 1) (enc := E) (L := L2) hT (i) 0 x y rfl rfl (by first | rfl | omega) rfl rfl rfl rfl hx (by decide) (fun b h1 h2 => absurd h1 (by omega)) rfl (by first | ((repeat (first | with_reducible exact Upd.here _ | with_reducible apply Upd.there)); done) | ((repeat (first | exact Upd.here _ | apply Upd.there)); done) | fail) rfl ?_
        refine ⟨sF, ?_⟩
        refine gb_take 14 rfl (by decide +kernel) rfl rfl (ys_ev (nw := true) hT rfl sI) sF ?_
        refine gb_only 15 (by decide +kernel) rfl rfl ?_
        refine mv_store_own (α := El) (g := g) (n := n) (c := c) (base := 0) (e := 31) (sz := 1) (enc := E) (L := L2.set (i) y) hT (j) 0 y x rfl rfl (by first | rfl | omega) rfl rfl rfl rfl hy2 (by decide) (fun b h1 h2 => absurd h1 (by omega)) rfl (by first | ((repeat (first | with_reducible exact Upd.here _ | with_reducible apply Upd.there)); done) | ((repeat (first | exact Upd.here _ | apply Upd.there)); done) | fail) rfl ?_
        refine ⟨sF, ?_⟩
        refine gb_nil (by decide +kernel) ?_
        exact ⟨(), (by repeat (first | exact trivial | refine ⟨rfl, ?_⟩)), sA, List.nil_subset _⟩
      refine gball_not (by decide +kernel) ?_
      refine gball_not (by decide +kernel) ?_
      refine gball_not (by decide +kernel) ?_
      refine gball_not (by decide +kernel) ?_
      exact gball_end (by decide +kernel)
    · (repeat (refine gG ?_; try intro _))
      refine gk_say 9 (.int .i64 ((i + 1 : Nat) : Int)) rfl (by first | (congr 1; done) | (congr 1; omega)) ?_
      refine gk_say 10 (.int .i64 ((j - 1 : Nat) : Int)) rfl (by first | (congr 1; done) | (congr 1; omega)) ?_
      refine gk_again_sel rfl (i + 1, j - 1, swp L2 i j x y) ⟨(by show a < i + 1; omega), (by show j - 1 < b; omega), (by show i + 1 ≤ j - 1 + 1; omega), hs2.trans (.swp (by omega) (by omega) j1 j2' hx hy), hP'.swp i1 (by omega) hx hy hlx hly⟩ (by dsimp only; omega) (by repeat (first | exact trivial | refine ⟨rfl, ?_⟩)) sA sS
end Go.Proofs.Ytgpfedmfbkhhcaa.SoW

