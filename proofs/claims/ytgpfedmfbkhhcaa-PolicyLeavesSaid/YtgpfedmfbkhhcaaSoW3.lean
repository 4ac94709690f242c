/- Sorting at a type: heap sort, partial insertion (uint64). -/
import Derived.Test.YtgpfedmfbkhhcaaSoW1
import Derived.Test.YtgpfedmfbkhhcaaPq6
namespace Go.Proofs.Ytgpfedmfbkhhcaa.SoW
open Go.RowKit Mem Gx Hp Pq
set_option linter.unusedVariables false
set_option linter.unusedSimpArgs false
set_option maxRecDepth 100000
set_option maxHeartbeats 1000000
noncomputable abbrev fB : El → El → Bool := fun x y => tB (lt x y)
theorem sift_any (g n c lo hi F : Nat) (L : List El) (w : World) (hn : L.length = n) (h9 : n ≤ 1000000) (hlo : lo ≤ n) (hh : F + hi ≤ n) (h : Rd1 w (rF g n c L)) :
    Calls Try.prog 94 [.slice (some ⟨g, 0, none⟩) n c, .int .i64 (lo : Int), .int .i64 (hi : Int), .int .i64 (F : Int)].toArray w (RetM (rF g n c L) (fun L' : List El => L'.toArray = Go.Sort.siftDown fB hi F lo L.toArray ∧ L'.length = n) (fun _ => .tuple #[]) (fun L' => rF g n c L') w) := by
  refine g_enter0 T (finE (rF g n c L) w) [rF g n c L] [] Try.func94 rfl Try.ntmps94 rfl (Kn.startM h (fun b hb => (finE_mem h.2 b).2 hb) (fun ψ hψ => by cases hψ)) ?_
  (repeat (refine gG ?_; try intro _))
  refine gk_loop_sel (fun (q : Nat × (List El)) => match q with | (r, L1) => (r ≤ n ∧ Go.Sort.siftDown fB hi F r L1.toArray = Go.Sort.siftDown fB hi F lo L.toArray ∧ L1.length = n)) (fun (q : Nat × (List El)) => match q with | (r, L1) => [(0, .slice (some ⟨g, 0, none⟩) n c), (1, (.int .i64 (lo : Int))), (2, (.int .i64 (hi : Int))), (3, (.int .i64 (F : Int))), (8, (.int .i64 (r : Int)))]) (fun (q : Nat × (List El)) => match q with | (r, L1) => [rF g n c L1]) (fun (q : Nat × (List El)) => match q with | (r, L1) => []) (fun (q : Nat × (List El)) => match q with | (r, L1) => n - r) (lo, L) rfl ⟨hlo, rfl, hn⟩ (by repeat (first | exact trivial | refine ⟨rfl, ?_⟩)) sA sS ?_
  rintro ⟨r, L1⟩ hI
  replace hI : (r ≤ n ∧ Go.Sort.siftDown fB hi F r L1.toArray = Go.Sort.siftDown fB hi F lo L.toArray ∧ L1.length = n) := hI
  change GK _ _ [(0, .slice (some ⟨g, 0, none⟩) n c), (1, (.int .i64 (lo : Int))), (2, (.int .i64 (hi : Int))), (3, (.int .i64 (F : Int))), (8, (.int .i64 (r : Int)))] [rF g n c L1] []
  obtain ⟨r1, hs, hl1⟩ := hI
  by_cases h1 : 2 * r + 1 < hi
  · (repeat' (first | (refine gG ?_; try intro _) | ((first | refine g_split rfl rfl tE (fun _ => ?_) (fun _ => ?_) | refine gk_cond rfl rfl tE (fun _ => ?_) (fun _ => ?_)) <;> (try first | (exfalso; omega; done) | (rename_i hx; exact absurd rfl hx) | (rename_i hx; cases hx; done)))))
    refine gk_say 9 (.int .i64 ((2 * r + 1 : Nat) : Int)) rfl (by first | (congr 1; done) | (congr 1; omega)) ?_
    obtain ⟨x, hx⟩ : ∃ x, L1[F + r]? = some x := ⟨_, List.getElem?_eq_getElem (by omega)⟩
    obtain ⟨u, hu⟩ : ∃ u, L1[F + (2 * r + 1)]? = some u := ⟨_, List.getElem?_eq_getElem (by omega)⟩
    by_cases h2 : 2 * r + 2 < hi
    · obtain ⟨z, hz⟩ : ∃ z, L1[F + (2 * r + 1) + 1]? = some z := ⟨_, List.getElem?_eq_getElem (by omega)⟩
      by_cases hl : lt u z
      · skip
        refine gk_any [0] (Cut _ (fun _ : Unit => [(0, .slice (some ⟨g, 0, none⟩) n c), (1, (.int .i64 (lo : Int))), (2, (.int .i64 (hi : Int))), (3, (.int .i64 (F : Int))), (8, (.int .i64 (r : Int))), (9, (.int .i64 (2 * r + 1 : Int))), (36, .bool true)]) (fun _ => [rF g n c L1]) (fun _ => [])) rfl rfl (by kernel_rfl) ?_ (cut_k fun _ => ?_)
        · skip
          refine gb_take 0 rfl (by decide +kernel) rfl rfl (ys_ev (nw := true) hT rfl sI) sF ?_
          refine gb_take 1 rfl (by decide +kernel) rfl rfl (ys_ev (nw := true) hT rfl sI) sF ?_
          refine gb_take 2 rfl (by decide +kernel) rfl rfl (ys_ev (nw := true) hT rfl sI) sF ?_
          refine gb_take 3 rfl (by decide +kernel) rfl rfl (ys_ev (nw := true) hT rfl sI) sF ?_
          refine gb_take 4 rfl (by decide +kernel) rfl rfl (ys_ev (nw := true) hT rfl sI) sF ?_
          try (refine gb_say 21 (.bool true) rfl (congrArg Value.bool (tB_true (by omega))) ?_)
          first | refine gb_take 5 rfl (by decide +kernel) rfl rfl (ys_ev (nw := true) hT rfl sI) sF ?_ | refine gb_skip 5 rfl (by decide +kernel) rfl rfl sF ?_
          first | refine gb_take 6 rfl (by decide +kernel) rfl rfl (ys_ev (nw := true) hT rfl sI) sF ?_ | refine gb_skip 6 rfl (by decide +kernel) rfl rfl sF ?_
          first | refine gb_take 7 rfl (by decide +kernel) rfl rfl (ys_ev (nw := true) hT rfl sI) sF ?_ | refine gb_skip 7 rfl (by decide +kernel) rfl rfl sF ?_
          first | refine gb_take 8 rfl (by decide +kernel) rfl rfl (ys_ev (nw := true) hT rfl sI) sF ?_ | refine gb_skip 8 rfl (by decide +kernel) rfl rfl sF ?_
          first | refine gb_take 9 rfl (by decide +kernel) rfl rfl (ys_ev (nw := true) hT rfl sI) sF ?_ | refine gb_skip 9 rfl (by decide +kernel) rfl rfl sF ?_
          first | refine gb_take 10 rfl (by decide +kernel) rfl rfl (ys_load_el (S := [own 0 31 1 (.slice (some ⟨g, 0, none⟩) n c) E (L1)]) (o0 := 0) (sz := 1) (enc := E) (L := L1) hT (F + (2 * r + 1)) u 0 rfl rfl rfl (by first | rfl | omega) hu (at_own mE) rfl rfl) sF ?_ | refine gb_skip 10 rfl (by decide +kernel) rfl rfl sF ?_
          first | refine gb_take 11 rfl (by decide +kernel) rfl rfl (ys_ev (nw := true) hT rfl sI) sF ?_ | refine gb_skip 11 rfl (by decide +kernel) rfl rfl sF ?_
          first | refine gb_take 12 rfl (by decide +kernel) rfl rfl (ys_ev (nw := true) hT rfl sI) sF ?_ | refine gb_skip 12 rfl (by decide +kernel) rfl rfl sF ?_
          first | refine gb_take 13 rfl (by decide +kernel) rfl rfl (ys_ev (nw := true) hT rfl sI) sF ?_ | refine gb_skip 13 rfl (by decide +kernel) rfl rfl sF ?_
          first | refine gb_take 14 rfl (by decide +kernel) rfl rfl (ys_ev (nw := true) hT rfl sI) sF ?_ | refine gb_skip 14 rfl (by decide +kernel) rfl rfl sF ?_
          first | refine gb_take 15 rfl (by decide +kernel) rfl rfl (ys_ev (nw := true) hT rfl sI) sF ?_ | refine gb_skip 15 rfl (by decide +kernel) rfl rfl sF ?_
          first | refine gb_take 16 rfl (by decide +kernel) rfl rfl (ys_ev (nw := true) hT rfl sI) sF ?_ | refine gb_skip 16 rfl (by decide +kernel) rfl rfl sF ?_
          first | refine gb_take 17 rfl (by decide +kernel) rfl rfl (ys_load_el (S := [own 0 31 1 (.slice (some ⟨g, 0, none⟩) n c) E (L1)]) (o0 := 0) (sz := 1) (enc := E) (L := L1) hT (F + (2 * r + 1) + 1) z 0 rfl rfl rfl (by first | rfl | omega) hz (at_own mE) rfl rfl) sF ?_ | refine gb_skip 17 rfl (by decide +kernel) rfl rfl sF ?_
          first | refine gb_skip 18 rfl (by decide +kernel) rfl rfl sF ?_ | (refine gb_only 18 (by decide +kernel) rfl rfl ?_; (refine mv_call_bel (fun w hk => less_any u z w) rfl rfl rfl rfl rfl (by kernel_rfl) ?_); refine ⟨sF, ?_⟩)
          try (refine gb_say 35 (.bool true) rfl (congrArg Value.bool (tB_true hl)) ?_)
          refine gb_take 19 rfl (by decide +kernel) rfl rfl (ys_ev (nw := true) hT rfl sI) sF ?_
          refine gb_nil (by decide +kernel) ?_
          exact ⟨(), (by repeat (first | exact trivial | refine ⟨rfl, ?_⟩)), sA, sS⟩
        · (repeat (refine gG ?_; try intro _))
          obtain ⟨ch, hch⟩ : ∃ ch, ch = 2 * r + 2 := ⟨_, rfl⟩
          have hc : Ch fB hi F r ch L1 := .inl ⟨hch, h2, u, z, hu, hz, tB_true hl⟩
          refine gk_say 9 (.int .i64 ((ch : Nat) : Int)) rfl (by first | (congr 1; done) | (congr 1; omega)) ?_
          have hcl := hc.lt
          obtain ⟨y, hy⟩ : ∃ y, L1[F + ch]? = some y := ⟨_, List.getElem?_eq_getElem (by omega)⟩
          by_cases hl2 : lt x y
          · skip
            refine gk_any [0] (Cut _ (fun _ : Unit => [(0, .slice (some ⟨g, 0, none⟩) n c), (1, (.int .i64 (lo : Int))), (2, (.int .i64 (hi : Int))), (3, (.int .i64 (F : Int))), (8, (.int .i64 (r : Int))), (9, (.int .i64 (ch : Int))), (52, .bool false)]) (fun _ => [rF g n c L1]) (fun _ => [])) rfl rfl (by kernel_rfl) ?_ (cut_k fun _ => ?_)
            · skip
              refine gb_take 0 rfl (by decide +kernel) rfl rfl (ys_ev (nw := true) hT rfl sI) sF ?_
              refine gb_take 1 rfl (by decide +kernel) rfl rfl (ys_ev (nw := true) hT rfl sI) sF ?_
              refine gb_take 2 rfl (by decide +kernel) rfl rfl (ys_ev (nw := true) hT rfl sI) sF ?_
              refine gb_take 3 rfl (by decide +kernel) rfl rfl (ys_ev (nw := true) hT rfl sI) sF ?_
              refine gb_take 4 rfl (by decide +kernel) rfl rfl (ys_ev (nw := true) hT rfl sI) sF ?_
              refine gb_take 5 rfl (by decide +kernel) rfl rfl (ys_load_el (S := [own 0 31 1 (.slice (some ⟨g, 0, none⟩) n c) E (L1)]) (o0 := 0) (sz := 1) (enc := E) (L := L1) hT (F + r) x 0 rfl rfl rfl (by first | rfl | omega) hx (at_own mE) rfl rfl) sF ?_
              refine gb_take 6 rfl (by decide +kernel) rfl rfl (ys_ev (nw := true) hT rfl sI) sF ?_
              refine gb_take 7 rfl (by decide +kernel) rfl rfl (ys_ev (nw := true) hT rfl sI) sF ?_
              refine gb_take 8 rfl (by decide +kernel) rfl rfl (ys_ev (nw := true) hT rfl sI) sF ?_
              refine gb_take 9 rfl (by decide +kernel) rfl rfl (ys_ev (nw := true) hT rfl sI) sF ?_
              refine gb_take 10 rfl (by decide +kernel) rfl rfl (ys_ev (nw := true) hT rfl sI) sF ?_
              refine gb_take 11 rfl (by decide +kernel) rfl rfl (ys_load_el (S := [own 0 31 1 (.slice (some ⟨g, 0, none⟩) n c) E (L1)]) (o0 := 0) (sz := 1) (enc := E) (L := L1) hT (F + ch) y 0 rfl rfl rfl (by first | rfl | omega) hy (at_own mE) rfl rfl) sF ?_
              refine gb_only 12 (by decide +kernel) rfl rfl ?_
              refine mv_call_bel (fun w hk => less_any x y w) rfl rfl rfl rfl rfl (by kernel_rfl) ?_
              refine ⟨sF, ?_⟩
              try (refine gb_say 51 (.bool true) rfl (congrArg Value.bool (tB_true hl2)) ?_)
              refine gb_take 13 rfl (by decide +kernel) rfl rfl (ys_ev (nw := true) hT rfl sI) sF ?_
              refine gb_nil (by decide +kernel) ?_
              exact ⟨(), (by repeat (first | exact trivial | refine ⟨rfl, ?_⟩)), sA, sS⟩
            · (repeat (refine gG ?_; try intro _))
              have hy2 : (L1.set (F + r) y)[F + ch]? = some y := set_other hx hy
              refine gk_any [] (Cut _ (fun _ : Unit => [(0, .slice (some ⟨g, 0, none⟩) n c), (1, (.int .i64 (lo : Int))), (2, (.int .i64 (hi : Int))), (3, (.int .i64 (F : Int))), (8, (.int .i64 (r : Int))), (9, (.int .i64 (ch : Int)))]) (fun _ => [rF g n c (swp L1 (F + r) (F + ch) x y)]) (fun _ => [])) rfl rfl (by kernel_rfl) ?_ (cut_k fun _ => ?_)
              · skip
                refine gb_take 0 rfl (by decide +kernel) rfl rfl (ys_ev (nw := true) hT rfl sI) sF ?_
                refine gb_take 1 rfl (by decide +kernel) rfl rfl (ys_ev (nw := true) hT rfl sI) sF ?_
                refine gb_take 2 rfl (by decide +kernel) rfl rfl (ys_ev (nw := true) hT rfl sI) sF ?_
                refine gb_take 3 rfl (by decide +kernel) rfl rfl (ys_ev (nw := true) hT rfl sI) sF ?_
                refine gb_take 4 rfl (by decide +kernel) rfl rfl (ys_ev (nw := true) hT rfl sI) sF ?_
                refine gb_take 5 rfl (by decide +kernel) rfl rfl (ys_ev (nw := true) hT rfl sI) sF ?_
                refine gb_take 6 rfl (by decide +kernel) rfl rfl (ys_ev (nw := true) hT rfl sI) sF ?_
                refine gb_take 7 rfl (by decide +kernel) rfl rfl (ys_ev (nw := true) hT rfl sI) sF ?_
                refine gb_take 8 rfl (by decide +kernel) rfl rfl (ys_ev (nw := true) hT rfl sI) sF ?_
                refine gb_take 9 rfl (by decide +kernel) rfl rfl (ys_ev (nw := true) hT rfl sI) sF ?_
                refine gb_take 10 rfl (by decide +kernel) rfl rfl (ys_ev (nw := true) hT rfl sI) sF ?_
                refine gb_take 11 rfl (by decide +kernel) rfl rfl (ys_ev (nw := true) hT rfl sI) sF ?_
                refine gb_take 12 rfl (by decide +kernel) rfl rfl (ys_ev (nw := true) hT rfl sI) sF ?_
                refine gb_take 14 rfl (by decide +kernel) rfl rfl (ys_ev (nw := true) hT rfl sI) sF ?_
                refine gb_take 15 rfl (by decide +kernel) rfl rfl (ys_ev (nw := true) hT rfl sI) sF ?_
                refine gb_take 16 rfl (by decide +kernel) rfl rfl (ys_ev (nw := true) hT rfl sI) sF ?_
                refine gb_take 17 rfl (by decide +kernel) rfl rfl (ys_ev (nw := true) hT rfl sI) sF ?_
                refine gb_take 18 rfl (by decide +kernel) rfl rfl (ys_ev (nw := true) hT rfl sI) sF ?_
                refine gb_all (by decide +kernel) ?_
                refine gball_not (by decide +kernel) ?_
                refine gball_not (by decide +kernel) ?_
                refine gball_not (by decide +kernel) ?_
                refine gball_not (by decide +kernel) ?_
                refine gball_not (by decide +kernel) ?_
                refine gball_not (by decide +kernel) ?_
                refine gball_not (by decide +kernel) ?_
                refine gball_not (by decide +kernel) ?_
                refine gball_not (by decide +kernel) ?_
                refine gball_not (by decide +kernel) ?_
                refine gball_not (by decide +kernel) ?_
                refine gball_not (by decide +kernel) ?_
                refine gball_not (by decide +kernel) ?_
                refine gball_yes rfl rfl ?_ ?_
                · refine mv_yd rfl ((ys_load_el (S := [own 0 31 1 (.slice (some ⟨g, 0, none⟩) n c) E (L1)]) (o0 := 0) (sz := 1) (enc := E) (L := L1) hT (F + ch) y 0 rfl rfl rfl (by first | rfl | omega) hy (at_own mE) rfl rfl).ydS sF) ?_
                  refine ⟨sF, ?_⟩
                  refine gb_only 19 (by decide +kernel) rfl rfl ?_
                  refine mv_yd rfl ((ys_load_el (S := [own 0 31 1 (.slice (some ⟨g, 0, none⟩) n c) E (L1)]) (o0 := 0) (sz := 1) (enc := E) (L := L1) hT (F + r) x 0 rfl rfl rfl (by first | rfl | omega) hx (at_own mE) rfl rfl).ydS sF) ?_
                  refine ⟨sF, ?_⟩
                  refine gb_take 20 rfl (by decide +kernel) rfl rfl (ys_ev (nw := true) hT rfl sI) sF ?_
                  refine gb_only 21 (by decide +kernel) rfl rfl ?_
                  refine mv_store_own (α := El) (g := g) (n := n) (c := c) (base := 0) (e := 31) (sz := 1) (enc := E) (L := L1) hT (F + r) 0 x y rfl rfl (by first | rfl | omega) rfl rfl rfl rfl hx (by decide) (fun b h1 h2 => absurd h1 (by omega)) rfl (by first | ((repeat (first | with_reducible exact Upd.here _ | with_reducible apply Upd.there)); done) | ((repeat (first | exact Upd.here _ | apply Upd.there)); done) | fail) rfl ?_
                  refine ⟨sF, ?_⟩
                  refine gb_take 22 rfl (by decide +kernel) rfl rfl (ys_ev (nw := true) hT rfl sI) sF ?_
                  refine gb_only 23 (by decide +kernel) rfl rfl ?_
                  refine mv_store_own (α := El) (g := g) (n := n) (c := c) (base := 0) (e := 31) (sz := 1) (enc := E) (L := L1.set (F + r) y) hT (F + ch) 0 y x rfl rfl (by first | rfl | omega) rfl rfl rfl rfl hy2 (by decide) (fun b h1 h2 => absurd h1 (by omega)) rfl (by first | ((repeat (first | with_reducible exact Upd.here _ | with_reducible apply Upd.there)); done) | ((repeat (first | exact Upd.here _ | apply Upd.there)); done) | fail) rfl ?_
                  refine ⟨sF, ?_⟩
                  refine gb_nil (by decide +kernel) ?_
                  exact ⟨(), (by repeat (first | exact trivial | refine ⟨rfl, ?_⟩)), sA, List.nil_subset _⟩
                refine gball_not (by decide +kernel) ?_
                refine gball_not (by decide +kernel) ?_
                refine gball_not (by decide +kernel) ?_
                refine gball_not (by decide +kernel) ?_
                refine gball_not (by decide +kernel) ?_
                refine gball_yes rfl rfl ?_ ?_
                · refine mv_yd rfl ((ys_load_el (S := [own 0 31 1 (.slice (some ⟨g, 0, none⟩) n c) E (L1)]) (o0 := 0) (sz := 1) (enc := E) (L := L1) hT (F + r) x 0 rfl rfl rfl (by first | rfl | omega) hx (at_own mE) rfl rfl).ydS sF) ?_
                  refine ⟨sF, ?_⟩
                  refine gb_only 13 (by decide +kernel) rfl rfl ?_
                  refine mv_yd rfl ((ys_load_el (S := [own 0 31 1 (.slice (some ⟨g, 0, none⟩) n c) E (L1)]) (o0 := 0) (sz := 1) (enc := E) (L := L1) hT (F + ch) y 0 rfl rfl rfl (by first | rfl | omega) hy (at_own mE) rfl rfl).ydS sF) ?_
                  refine ⟨sF, ?_⟩
                  refine gb_take 20 rfl (by decide +kernel) rfl rfl (ys_ev (nw := true) hT rfl sI) sF ?_
                  refine gb_only 21 (by decide +kernel) rfl rfl ?_
                  refine mv_store_own (α := El) (g := g) (n := n) (c := c) (base := 0) (e := 31) (sz := 1) (enc := E) (L := L1) hT (F + r) 0 x y rfl rfl (by first | rfl | omega) rfl rfl rfl rfl hx (by decide) (fun b h1 h2 => absurd h1 (by omega)) rfl (by first | ((repeat (first | with_reducible exact Upd.here _ | with_reducible apply Upd.there)); done) | ((repeat (first | exact Upd.here _ | apply Upd.there)); done) | fail) rfl ?_
                  refine ⟨sF, ?_⟩
                  refine gb_take 22 rfl (by decide +kernel) rfl rfl (ys_ev (nw := true) hT rfl sI) sF ?_
                  refine gb_only 23 (by decide +kernel) rfl rfl ?_
                  refine mv_store_own (α := El) (g := g) (n := n) (c := c) (base := 0) (e := 31) (sz := 1) (enc := E) (L := L1.set (F + r) y) hT (F + ch) 0 y x rfl rfl (by first | rfl | omega) rfl rfl rfl rfl hy2 (by decide) (fun b h1 h2 => absurd h1 (by omega)) rfl (by first | ((repeat (first | with_reducible exact Upd.here _ | with_reducible apply Upd.there)); done) | ((repeat (first | exact Upd.here _ | apply Upd.there)); done) | fail) rfl ?_
                  refine ⟨sF, ?_⟩
                  refine gb_nil (by decide +kernel) ?_
                  exact ⟨(), (by repeat (first | exact trivial | refine ⟨rfl, ?_⟩)), sA, List.nil_subset _⟩
                refine gball_not (by decide +kernel) ?_
                refine gball_not (by decide +kernel) ?_
                refine gball_not (by decide +kernel) ?_
                refine gball_not (by decide +kernel) ?_
                exact gball_end (by decide +kernel)
              · (repeat (refine gG ?_; try intro _))
                refine gk_again_sel rfl (ch, swp L1 (F + r) (F + ch) x y) ⟨by omega, (sift_go hc (by omega) hx hy (tB_true hl2)).symm.trans hs, swp_len.trans hl1⟩ (by dsimp only; omega) (by repeat (first | exact trivial | refine ⟨rfl, ?_⟩)) sA sS
          · skip
            refine gk_any [0] (Cut _ (fun _ : Unit => [(0, .slice (some ⟨g, 0, none⟩) n c), (1, (.int .i64 (lo : Int))), (2, (.int .i64 (hi : Int))), (3, (.int .i64 (F : Int))), (8, (.int .i64 (r : Int))), (9, (.int .i64 (ch : Int))), (52, .bool true)]) (fun _ => [rF g n c L1]) (fun _ => [])) rfl rfl (by kernel_rfl) ?_ (cut_k fun _ => ?_)
            · skip
              refine gb_take 0 rfl (by decide +kernel) rfl rfl (ys_ev (nw := true) hT rfl sI) sF ?_
              refine gb_take 1 rfl (by decide +kernel) rfl rfl (ys_ev (nw := true) hT rfl sI) sF ?_
              refine gb_take 2 rfl (by decide +kernel) rfl rfl (ys_ev (nw := true) hT rfl sI) sF ?_
              refine gb_take 3 rfl (by decide +kernel) rfl rfl (ys_ev (nw := true) hT rfl sI) sF ?_
              refine gb_take 4 rfl (by decide +kernel) rfl rfl (ys_ev (nw := true) hT rfl sI) sF ?_
              refine gb_take 5 rfl (by decide +kernel) rfl rfl (ys_load_el (S := [own 0 31 1 (.slice (some ⟨g, 0, none⟩) n c) E (L1)]) (o0 := 0) (sz := 1) (enc := E) (L := L1) hT (F + r) x 0 rfl rfl rfl (by first | rfl | omega) hx (at_own mE) rfl rfl) sF ?_
              refine gb_take 6 rfl (by decide +kernel) rfl rfl (ys_ev (nw := true) hT rfl sI) sF ?_
              refine gb_take 7 rfl (by decide +kernel) rfl rfl (ys_ev (nw := true) hT rfl sI) sF ?_
              refine gb_take 8 rfl (by decide +kernel) rfl rfl (ys_ev (nw := true) hT rfl sI) sF ?_
              refine gb_take 9 rfl (by decide +kernel) rfl rfl (ys_ev (nw := true) hT rfl sI) sF ?_
              refine gb_take 10 rfl (by decide +kernel) rfl rfl (ys_ev (nw := true) hT rfl sI) sF ?_
              refine gb_take 11 rfl (by decide +kernel) rfl rfl (ys_load_el (S := [own 0 31 1 (.slice (some ⟨g, 0, none⟩) n c) E (L1)]) (o0 := 0) (sz := 1) (enc := E) (L := L1) hT (F + ch) y 0 rfl rfl rfl (by first | rfl | omega) hy (at_own mE) rfl rfl) sF ?_
              refine gb_only 12 (by decide +kernel) rfl rfl ?_
              refine mv_call_bel (fun w hk => less_any x y w) rfl rfl rfl rfl rfl (by kernel_rfl) ?_
              refine ⟨sF, ?_⟩
              try (refine gb_say 51 (.bool false) rfl (congrArg Value.bool (tB_false hl2)) ?_)
              refine gb_take 13 rfl (by decide +kernel) rfl rfl (ys_ev (nw := true) hT rfl sI) sF ?_
              refine gb_nil (by decide +kernel) ?_
              exact ⟨(), (by repeat (first | exact trivial | refine ⟨rfl, ?_⟩)), sA, sS⟩
            · (repeat (refine gG ?_; try intro _))
              refine gk_ret hT rfl rfl .nil (fun w' hk => ?_)
              exact RetM.mk L1 ⟨(sift_stop hc (by omega) hx hy (tB_false hl2)).symm.trans hs, hl1⟩ rfl hk (fun b hb => (finE_mem h.2 b).1 hb) mE
      · skip
        refine gk_any [0] (Cut _ (fun _ : Unit => [(0, .slice (some ⟨g, 0, none⟩) n c), (1, (.int .i64 (lo : Int))), (2, (.int .i64 (hi : Int))), (3, (.int .i64 (F : Int))), (8, (.int .i64 (r : Int))), (9, (.int .i64 (2 * r + 1 : Int))), (36, .bool false)]) (fun _ => [rF g n c L1]) (fun _ => [])) rfl rfl (by kernel_rfl) ?_ (cut_k fun _ => ?_)
        · skip
          refine gb_take 0 rfl (by decide +kernel) rfl rfl (ys_ev (nw := true) hT rfl sI) sF ?_
          refine gb_take 1 rfl (by decide +kernel) rfl rfl (ys_ev (nw := true) hT rfl sI) sF ?_
          refine gb_take 2 rfl (by decide +kernel) rfl rfl (ys_ev (nw := true) hT rfl sI) sF ?_
          refine gb_take 3 rfl (by decide +kernel) rfl rfl (ys_ev (nw := true) hT rfl sI) sF ?_
          refine gb_take 4 rfl (by decide +kernel) rfl rfl (ys_ev (nw := true) hT rfl sI) sF ?_
          try (refine gb_say 21 (.bool true) rfl (congrArg Value.bool (tB_true (by omega))) ?_)
          first | refine gb_take 5 rfl (by decide +kernel) rfl rfl (ys_ev (nw := true) hT rfl sI) sF ?_ | refine gb_skip 5 rfl (by decide +kernel) rfl rfl sF ?_
          first | refine gb_take 6 rfl (by decide +kernel) rfl rfl (ys_ev (nw := true) hT rfl sI) sF ?_ | refine gb_skip 6 rfl (by decide +kernel) rfl rfl sF ?_
          first | refine gb_take 7 rfl (by decide +kernel) rfl rfl (ys_ev (nw := true) hT rfl sI) sF ?_ | refine gb_skip 7 rfl (by decide +kernel) rfl rfl sF ?_
          first | refine gb_take 8 rfl (by decide +kernel) rfl rfl (ys_ev (nw := true) hT rfl sI) sF ?_ | refine gb_skip 8 rfl (by decide +kernel) rfl rfl sF ?_
          first | refine gb_take 9 rfl (by decide +kernel) rfl rfl (ys_ev (nw := true) hT rfl sI) sF ?_ | refine gb_skip 9 rfl (by decide +kernel) rfl rfl sF ?_
          first | refine gb_take 10 rfl (by decide +kernel) rfl rfl (ys_load_el (S := [own 0 31 1 (.slice (some ⟨g, 0, none⟩) n c) E (L1)]) (o0 := 0) (sz := 1) (enc := E) (L := L1) hT (F + (2 * r + 1)) u 0 rfl rfl rfl (by first | rfl | omega) hu (at_own mE) rfl rfl) sF ?_ | refine gb_skip 10 rfl (by decide +kernel) rfl rfl sF ?_
          first | refine gb_take 11 rfl (by decide +kernel) rfl rfl (ys_ev (nw := true) hT rfl sI) sF ?_ | refine gb_skip 11 rfl (by decide +kernel) rfl rfl sF ?_
          first | refine gb_take 12 rfl (by decide +kernel) rfl rfl (ys_ev (nw := true) hT rfl sI) sF ?_ | refine gb_skip 12 rfl (by decide +kernel) rfl rfl sF ?_
          first | refine gb_take 13 rfl (by decide +kernel) rfl rfl (ys_ev (nw := true) hT rfl sI) sF ?_ | refine gb_skip 13 rfl (by decide +kernel) rfl rfl sF ?_
          first | refine gb_take 14 rfl (by decide +kernel) rfl rfl (ys_ev (nw := true) hT rfl sI) sF ?_ | refine gb_skip 14 rfl (by decide +kernel) rfl rfl sF ?_
          first | refine gb_take 15 rfl (by decide +kernel) rfl rfl (ys_ev (nw := true) hT rfl sI) sF ?_ | refine gb_skip 15 rfl (by decide +kernel) rfl rfl sF ?_
          first | refine gb_take 16 rfl (by decide +kernel) rfl rfl (ys_ev (nw := true) hT rfl sI) sF ?_ | refine gb_skip 16 rfl (by decide +kernel) rfl rfl sF ?_
          first | refine gb_take 17 rfl (by decide +kernel) rfl rfl (ys_load_el (S := [own 0 31 1 (.slice (some ⟨g, 0, none⟩) n c) E (L1)]) (o0 := 0) (sz := 1) (enc := E) (L := L1) hT (F + (2 * r + 1) + 1) z 0 rfl rfl rfl (by first | rfl | omega) hz (at_own mE) rfl rfl) sF ?_ | refine gb_skip 17 rfl (by decide +kernel) rfl rfl sF ?_
          first | refine gb_skip 18 rfl (by decide +kernel) rfl rfl sF ?_ | (refine gb_only 18 (by decide +kernel) rfl rfl ?_; (refine mv_call_bel (fun w hk => less_any u z w) rfl rfl rfl rfl rfl (by kernel_rfl) ?_); refine ⟨sF, ?_⟩)
          try (refine gb_say 35 (.bool false) rfl (congrArg Value.bool (tB_false hl)) ?_)
          refine gb_take 19 rfl (by decide +kernel) rfl rfl (ys_ev (nw := true) hT rfl sI) sF ?_
          refine gb_nil (by decide +kernel) ?_
          exact ⟨(), (by repeat (first | exact trivial | refine ⟨rfl, ?_⟩)), sA, sS⟩
        · (repeat (refine gG ?_; try intro _))
          obtain ⟨ch, hch⟩ : ∃ ch, ch = 2 * r + 1 := ⟨_, rfl⟩
          have hc : Ch fB hi F r ch L1 := .inr ⟨hch, h1, fun u' z' _ hu' hz' => by rw [hu] at hu'; rw [hz] at hz'; cases hu'; cases hz'; exact tB_false hl⟩
          refine gk_say 9 (.int .i64 ((ch : Nat) : Int)) rfl (by first | (congr 1; done) | (congr 1; omega)) ?_
          have hcl := hc.lt
          obtain ⟨y, hy⟩ : ∃ y, L1[F + ch]? = some y := ⟨_, List.getElem?_eq_getElem (by omega)⟩
          by_cases hl2 : lt x y
          · skip
            refine gk_any [0] (Cut _ (fun _ : Unit => [(0, .slice (some ⟨g, 0, none⟩) n c), (1, (.int .i64 (lo : Int))), (2, (.int .i64 (hi : Int))), (3, (.int .i64 (F : Int))), (8, (.int .i64 (r : Int))), (9, (.int .i64 (ch : Int))), (52, .bool false)]) (fun _ => [rF g n c L1]) (fun _ => [])) rfl rfl (by kernel_rfl) ?_ (cut_k fun _ => ?_)
            · skip
              refine gb_take 0 rfl (by decide +kernel) rfl rfl (ys_ev (nw := true) hT rfl sI) sF ?_
              refine gb_take 1 rfl (by decide +kernel) rfl rfl (ys_ev (nw := true) hT rfl sI) sF ?_
              refine gb_take 2 rfl (by decide +kernel) rfl rfl (ys_ev (nw := true) hT rfl sI) sF ?_
              refine gb_take 3 rfl (by decide +kernel) rfl rfl (ys_ev (nw := true) hT rfl sI) sF ?_
              refine gb_take 4 rfl (by decide +kernel) rfl rfl (ys_ev (nw := true) hT rfl sI) sF ?_
              refine gb_take 5 rfl (by decide +kernel) rfl rfl (ys_load_el (S := [own 0 31 1 (.slice (some ⟨g, 0, none⟩) n c) E (L1)]) (o0 := 0) (sz := 1) (enc := E) (L := L1) hT (F + r) x 0 rfl rfl rfl (by first | rfl | omega) hx (at_own mE) rfl rfl) sF ?_
              refine gb_take 6 rfl (by decide +kernel) rfl rfl (ys_ev (nw := true) hT rfl sI) sF ?_
              refine gb_take 7 rfl (by decide +kernel) rfl rfl (ys_ev (nw := true) hT rfl sI) sF ?_
              refine gb_take 8 rfl (by decide +kernel) rfl rfl (ys_ev (nw := true) hT rfl sI) sF ?_
              refine gb_take 9 rfl (by decide +kernel) rfl rfl (ys_ev (nw := true) hT rfl sI) sF ?_
              refine gb_take 10 rfl (by decide +kernel) rfl rfl (ys_ev (nw := true) hT rfl sI) sF ?_
              refine gb_take 11 rfl (by decide +kernel) rfl rfl (ys_load_el (S := [own 0 31 1 (.slice (some ⟨g, 0, none⟩) n c) E (L1)]) (o0 := 0) (sz := 1) (enc := E) (L := L1) hT (F + ch) y 0 rfl rfl rfl (by first | rfl | omega) hy (at_own mE) rfl rfl) sF ?_
              refine gb_only 12 (by decide +kernel) rfl rfl ?_
              refine mv_call_bel (fun w hk => less_any x y w) rfl rfl rfl rfl rfl (by kernel_rfl) ?_
              refine ⟨sF, ?_⟩
              try (refine gb_say 51 (.bool true) rfl (congrArg Value.bool (tB_true hl2)) ?_)
              refine gb_take 13 rfl (by decide +kernel) rfl rfl (ys_ev (nw := true) hT rfl sI) sF ?_
              refine gb_nil (by decide +kernel) ?_
              exact ⟨(), (by repeat (first | exact trivial | refine ⟨rfl, ?_⟩)), sA, sS⟩
            · (repeat (refine gG ?_; try intro _))
              have hy2 : (L1.set (F + r) y)[F + ch]? = some y := set_other hx hy
              refine gk_any [] (Cut _ (fun _ : Unit => [(0, .slice (some ⟨g, 0, none⟩) n c), (1, (.int .i64 (lo : Int))), (2, (.int .i64 (hi : Int))), (3, (.int .i64 (F : Int))), (8, (.int .i64 (r : Int))), (9, (.int .i64 (ch : Int)))]) (fun _ => [rF g n c (swp L1 (F + r) (F + ch) x y)]) (fun _ => [])) rfl rfl (by kernel_rfl) ?_ (cut_k fun _ => ?_)
              · skip
                refine gb_take 0 rfl (by decide +kernel) rfl rfl (ys_ev (nw := true) hT rfl sI) sF ?_
                refine gb_take 1 rfl (by decide +kernel) rfl rfl (ys_ev (nw := true) hT rfl sI) sF ?_
                refine gb_take 2 rfl (by decide +kernel) rfl rfl (ys_ev (nw := true) hT rfl sI) sF ?_
                refine gb_take 3 rfl (by decide +kernel) rfl rfl (ys_ev (nw := true) hT rfl sI) sF ?_
                refine gb_take 4 rfl (by decide +kernel) rfl rfl (ys_ev (nw := true) hT rfl sI) sF ?_
                refine gb_take 5 rfl (by decide +kernel) rfl rfl (ys_ev (nw := true) hT rfl sI) sF ?_
                refine gb_take 6 rfl (by decide +kernel) rfl rfl (ys_ev (nw := true) hT rfl sI) sF ?_
                refine gb_take 7 rfl (by decide +kernel) rfl rfl (ys_ev (nw := true) hT rfl sI) sF ?_
                refine gb_take 8 rfl (by decide +kernel) rfl rfl (ys_ev (nw := true) hT rfl sI) sF ?_
                refine gb_take 9 rfl (by decide +kernel) rfl rfl (ys_ev (nw := true) hT rfl sI) sF ?_
                refine gb_take 10 rfl (by decide +kernel) rfl rfl (ys_ev (nw := true) hT rfl sI) sF ?_
                refine gb_take 11 rfl (by decide +kernel) rfl rfl (ys_ev (nw := true) hT rfl sI) sF ?_
                refine gb_take 12 rfl (by decide +kernel) rfl rfl (ys_ev (nw := true) hT rfl sI) sF ?_
                refine gb_take 14 rfl (by decide +kernel) rfl rfl (ys_ev (nw := true) hT rfl sI) sF ?_
                refine gb_take 15 rfl (by decide +kernel) rfl rfl (ys_ev (nw := true) hT rfl sI) sF ?_
                refine gb_take 16 rfl (by decide +kernel) rfl rfl (ys_ev (nw := true) hT rfl sI) sF ?_
                refine gb_take 17 rfl (by decide +kernel) rfl rfl (ys_ev (nw := true) hT rfl sI) sF ?_
                refine gb_take 18 rfl (by decide +kernel) rfl rfl (ys_ev (nw := true) hT rfl sI) sF ?_
                refine gb_all (by decide +kernel) ?_
                refine gball_not (by decide +kernel) ?_
                refine gball_not (by decide +kernel) ?_
                refine gball_not (by decide +kernel) ?_
                refine gball_not (by decide +kernel) ?_
                refine gball_not (by decide +kernel) ?_
                refine gball_not (by decide +kernel) ?_
                refine gball_not (by decide +kernel) ?_
                refine gball_not (by decide +kernel) ?_
                refine gball_not (by decide +kernel) ?_
                refine gball_not (by decide +kernel) ?_
                refine gball_not (by decide +kernel) ?_
                refine gball_not (by decide +kernel) ?_
                refine gball_not (by decide +kernel) ?_
                refine gball_yes rfl rfl ?_ ?_
                · refine mv_yd rfl ((ys_load_el (S := [own 0 31 1 (.slice (some ⟨g, 0, none⟩) n c) E (L1)]) (o0 := 0) (sz := 1) (enc := E) (L := L1) hT (F + ch) y 0 rfl rfl rfl (by first | rfl | omega) hy (at_own mE) rfl rfl).ydS sF) ?_
                  refine ⟨sF, ?_⟩
                  refine gb_only 19 (by decide +kernel) rfl rfl ?_
                  refine mv_yd rfl ((ys_load_el (S := [own 0 31 1 (.slice (some ⟨g, 0, none⟩) n c) E (L1)]) (o0 := 0) (sz := 1) (enc := E) (L := L1) hT (F + r) x 0 rfl rfl rfl (by first | rfl | omega) hx (at_own mE) rfl rfl).ydS sF) ?_
                  refine ⟨sF, ?_⟩
                  refine gb_take 20 rfl (by decide +kernel) rfl rfl (ys_ev (nw := true) hT rfl sI) sF ?_
                  refine gb_only 21 (by decide +kernel) rfl rfl ?_
                  refine mv_store_own (α := El) (g := g) (n := n) (c := c) (base := 0) (e := 31) (sz := 1) (enc := E) (L := L1) hT (F + r) 0 x y rfl rfl (by first | rfl | omega) rfl rfl rfl rfl hx (by decide) (fun b h1 h2 => absurd h1 (by omega)) rfl (by first | ((repeat (first | with_reducible exact Upd.here _ | with_reducible apply Upd.there)); done) | ((repeat (first | exact Upd.here _ | apply Upd.there)); done) | fail) rfl ?_
                  refine ⟨sF, ?_⟩
                  refine gb_take 22 rfl (by decide +kernel) rfl rfl (ys_ev (nw := true) hT rfl sI) sF ?_
                  refine gb_only 23 (by decide +kernel) rfl rfl ?_
                  refine mv_store_own (α := El) (g := g) (n := n) (c := c) (base := 0) (e := 31) (sz := 1) (enc := E) (L := L1.set (F + r) y) hT (F + ch) 0 y x rfl rfl (by first | rfl | omega) rfl rfl rfl rfl hy2 (by decide) (fun b h1 h2 => absurd h1 (by omega)) rfl (by first | ((repeat (first | with_reducible exact Upd.here _ | with_reducible apply Upd.there)); done) | ((repeat (first | exact Upd.here _ | apply Upd.there)); done) | fail) rfl ?_
                  refine ⟨sF, ?_⟩
                  refine gb_nil (by decide +kernel) ?_
                  exact ⟨(), (by repeat (first | exact trivial | refine ⟨rfl, ?_⟩)), sA, List.nil_subset _⟩
                refine gball_not (by decide +kernel) ?_
                refine gball_not (by decide +kernel) ?_
                refine gball_not (by decide +kernel) ?_
                refine gball_not (by decide +kernel) ?_
                refine gball_not (by decide +kernel) ?_
                refine gball_yes rfl rfl ?_ ?_
                · refine mv_yd rfl ((ys_load_el (S := [own 0 31 1 (.slice (some ⟨g, 0, none⟩) n c) E (L1)]) (o0 := 0) (sz := 1) (enc := E) (L := L1) hT (F + r) x 0 rfl rfl rfl (by first | rfl | omega) hx (at_own mE) rfl rfl).ydS sF) ?_
                  refine ⟨sF, ?_⟩
                  refine gb_only 13 (by decide +kernel) rfl rfl ?_
                  refine mv_yd rfl ((ys_load_el (S := [own 0 31 1 (.slice (some ⟨g, 0, none⟩) n c) E (L1)]) (o0 := 0) (sz := 1) (enc := E) (L := L1) hT (F + ch) y 0 rfl rfl rfl (by first | rfl | omega) hy (at_own mE) rfl rfl).ydS sF) ?_
                  refine ⟨sF, ?_⟩
                  refine gb_take 20 rfl (by decide +kernel) rfl rfl (ys_ev (nw := true) hT rfl sI) sF ?_
                  refine gb_only 21 (by decide +kernel) rfl rfl ?_
                  refine mv_store_own (α := El) (g := g) (n := n) (c := c) (base := 0) (e := 31) (sz := 1) (enc := E) (L := L1) hT (F + r) 0 x y rfl rfl (by first | rfl | omega) rfl rfl rfl rfl hx (by decide) (fun b h1 h2 => absurd h1 (by omega)) rfl (by first | ((repeat (first | with_reducible exact Upd.here _ | with_reducible apply Upd.there)); done) | ((repeat (first | exact Upd.here _ | apply Upd.there)); done) | fail) rfl ?_
                  refine ⟨sF, ?_⟩
                  refine gb_take 22 rfl (by decide +kernel) rfl rfl (ys_ev (nw := true) hT rfl sI) sF ?_
                  refine gb_only 23 (by decide +kernel) rfl rfl ?_
                  refine mv_store_own (α := El) (g := g) (n := n) (c := c) (base := 0) (e := 31) (sz := 1) (enc := E) (L := L1.set (F + r) y) hT (F + ch) 0 y x rfl rfl (by first | rfl | omega) rfl rfl rfl rfl hy2 (by decide) (fun b h1 h2 => absurd h1 (by omega)) rfl (by first | ((repeat (first | with_reducible exact Upd.here _ | with_reducible apply Upd.there)); done) | ((repeat (first | exact Upd.here _ | apply Upd.there)); done) | fail) rfl ?_
                  refine ⟨sF, ?_⟩
                  refine gb_nil (by decide +kernel) ?_
                  exact ⟨(), (by repeat (first | exact trivial | refine ⟨rfl, ?_⟩)), sA, List.nil_subset _⟩
                refine gball_not (by decide +kernel) ?_
                refine gball_not (by decide +kernel) ?_
                refine gball_not (by decide +kernel) ?_
                refine gball_not (by decide +kernel) ?_
                exact gball_end (by decide +kernel)
              · (repeat (refine gG ?_; try intro _))
                refine gk_again_sel rfl (ch, swp L1 (F + r) (F + ch) x y) ⟨by omega, (sift_go hc (by omega) hx hy (tB_true hl2)).symm.trans hs, swp_len.trans hl1⟩ (by dsimp only; omega) (by repeat (first | exact trivial | refine ⟨rfl, ?_⟩)) sA sS
          · skip
            refine gk_any [0] (Cut _ (fun _ : Unit => [(0, .slice (some ⟨g, 0, none⟩) n c), (1, (.int .i64 (lo : Int))), (2, (.int .i64 (hi : Int))), (3, (.int .i64 (F : Int))), (8, (.int .i64 (r : Int))), (9, (.int .i64 (ch : Int))), (52, .bool true)]) (fun _ => [rF g n c L1]) (fun _ => [])) rfl rfl (by kernel_rfl) ?_ (cut_k fun _ => ?_)
            · skip
              refine gb_take 0 rfl (by decide +kernel) rfl rfl (ys_ev (nw := true) hT rfl sI) sF ?_
              refine gb_take 1 rfl (by decide +kernel) rfl rfl (ys_ev (nw := true) hT rfl sI) sF ?_
              refine gb_take 2 rfl (by decide +kernel) rfl rfl (ys_ev (nw := true) hT rfl sI) sF ?_
              refine gb_take 3 rfl (by decide +kernel) rfl rfl (ys_ev (nw := true) hT rfl sI) sF ?_
              refine gb_take 4 rfl (by decide +kernel) rfl rfl (ys_ev (nw := true) hT rfl sI) sF ?_
              refine gb_take 5 rfl (by decide +kernel) rfl rfl (ys_load_el (S := [own 0 31 1 (.slice (some ⟨g, 0, none⟩) n c) E (L1)]) (o0 := 0) (sz := 1) (enc := E) (L := L1) hT (F + r) x 0 rfl rfl rfl (by first | rfl | omega) hx (at_own mE) rfl rfl) sF ?_
              refine gb_take 6 rfl (by decide +kernel) rfl rfl (ys_ev (nw := true) hT rfl sI) sF ?_
              refine gb_take 7 rfl (by decide +kernel) rfl rfl (ys_ev (nw := true) hT rfl sI) sF ?_
              refine gb_take 8 rfl (by decide +kernel) rfl rfl (ys_ev (nw := true) hT rfl sI) sF ?_
              refine gb_take 9 rfl (by decide +kernel) rfl rfl (ys_ev (nw := true) hT rfl sI) sF ?_
              refine gb_take 10 rfl (by decide +kernel) rfl rfl (ys_ev (nw := true) hT rfl sI) sF ?_
              refine gb_take 11 rfl (by decide +kernel) rfl rfl (ys_load_el (S := [own 0 31 1 (.slice (some ⟨g, 0, none⟩) n c) E (L1)]) (o0 := 0) (sz := 1) (enc := E) (L := L1) hT (F + ch) y 0 rfl rfl rfl (by first | rfl | omega) hy (at_own mE) rfl rfl) sF ?_
              refine gb_only 12 (by decide +kernel) rfl rfl ?_
              refine mv_call_bel (fun w hk => less_any x y w) rfl rfl rfl rfl rfl (by kernel_rfl) ?_
              refine ⟨sF, ?_⟩
              try (refine gb_say 51 (.bool false) rfl (congrArg Value.bool (tB_false hl2)) ?_)
              refine gb_take 13 rfl (by decide +kernel) rfl rfl (ys_ev (nw := true) hT rfl sI) sF ?_
              refine gb_nil (by decide +kernel) ?_
              exact ⟨(), (by repeat (first | exact trivial | refine ⟨rfl, ?_⟩)), sA, sS⟩
            · (repeat (refine gG ?_; try intro _))
              refine gk_ret hT rfl rfl .nil (fun w' hk => ?_)
              exact RetM.mk L1 ⟨(sift_stop hc (by omega) hx hy (tB_false hl2)).symm.trans hs, hl1⟩ rfl hk (fun b hb => (finE_mem h.2 b).1 hb) mE
    · skip
      refine gk_any [0] (Cut _ (fun _ : Unit => [(0, .slice (some ⟨g, 0, none⟩) n c), (1, (.int .i64 (lo : Int))), (2, (.int .i64 (hi : Int))), (3, (.int .i64 (F : Int))), (8, (.int .i64 (r : Int))), (9, (.int .i64 (2 * r + 1 : Int))), (36, .bool false)]) (fun _ => [rF g n c L1]) (fun _ => [])) rfl rfl (by kernel_rfl) ?_ (cut_k fun _ => ?_)
      · skip
        refine gb_take 0 rfl (by decide +kernel) rfl rfl (ys_ev (nw := true) hT rfl sI) sF ?_
        refine gb_take 1 rfl (by decide +kernel) rfl rfl (ys_ev (nw := true) hT rfl sI) sF ?_
        refine gb_take 2 rfl (by decide +kernel) rfl rfl (ys_ev (nw := true) hT rfl sI) sF ?_
        refine gb_take 3 rfl (by decide +kernel) rfl rfl (ys_ev (nw := true) hT rfl sI) sF ?_
        refine gb_take 4 rfl (by decide +kernel) rfl rfl (ys_ev (nw := true) hT rfl sI) sF ?_
        try (refine gb_say 21 (.bool false) rfl (congrArg Value.bool (tB_false (by omega))) ?_)
        first | refine gb_take 5 rfl (by decide +kernel) rfl rfl (ys_ev (nw := true) hT rfl sI) sF ?_ | refine gb_skip 5 rfl (by decide +kernel) rfl rfl sF ?_
        first | refine gb_take 6 rfl (by decide +kernel) rfl rfl (ys_ev (nw := true) hT rfl sI) sF ?_ | refine gb_skip 6 rfl (by decide +kernel) rfl rfl sF ?_
        first | refine gb_take 7 rfl (by decide +kernel) rfl rfl (ys_ev (nw := true) hT rfl sI) sF ?_ | refine gb_skip 7 rfl (by decide +kernel) rfl rfl sF ?_
        first | refine gb_take 8 rfl (by decide +kernel) rfl rfl (ys_ev (nw := true) hT rfl sI) sF ?_ | refine gb_skip 8 rfl (by decide +kernel) rfl rfl sF ?_
        first | refine gb_take 9 rfl (by decide +kernel) rfl rfl (ys_ev (nw := true) hT rfl sI) sF ?_ | refine gb_skip 9 rfl (by decide +kernel) rfl rfl sF ?_
        first | refine gb_take 10 rfl (by decide +kernel) rfl rfl (by first | exact ys_blk hT rfl rfl mE rfl rfl | exact ys_row hT rfl rfl mE rfl rfl | exact ys_row0 hT rfl rfl mE rfl rfl) sF ?_ | refine gb_skip 10 rfl (by decide +kernel) rfl rfl sF ?_
        first | refine gb_take 11 rfl (by decide +kernel) rfl rfl (ys_ev (nw := true) hT rfl sI) sF ?_ | refine gb_skip 11 rfl (by decide +kernel) rfl rfl sF ?_
        first | refine gb_take 12 rfl (by decide +kernel) rfl rfl (ys_ev (nw := true) hT rfl sI) sF ?_ | refine gb_skip 12 rfl (by decide +kernel) rfl rfl sF ?_
        first | refine gb_take 13 rfl (by decide +kernel) rfl rfl (ys_ev (nw := true) hT rfl sI) sF ?_ | refine gb_skip 13 rfl (by decide +kernel) rfl rfl sF ?_
        first | refine gb_take 14 rfl (by decide +kernel) rfl rfl (ys_ev (nw := true) hT rfl sI) sF ?_ | refine gb_skip 14 rfl (by decide +kernel) rfl rfl sF ?_
        first | refine gb_take 15 rfl (by decide +kernel) rfl rfl (ys_ev (nw := true) hT rfl sI) sF ?_ | refine gb_skip 15 rfl (by decide +kernel) rfl rfl sF ?_
        first | refine gb_take 16 rfl (by decide +kernel) rfl rfl (ys_ev (nw := true) hT rfl sI) sF ?_ | refine gb_skip 16 rfl (by decide +kernel) rfl rfl sF ?_
        first | refine gb_take 17 rfl (by decide +kernel) rfl rfl (by first | exact ys_blk hT rfl rfl mE rfl rfl | exact ys_row hT rfl rfl mE rfl rfl | exact ys_row0 hT rfl rfl mE rfl rfl) sF ?_ | refine gb_skip 17 rfl (by decide +kernel) rfl rfl sF ?_
        first | refine gb_skip 18 rfl (by decide +kernel) rfl rfl sF ?_ | (refine gb_only 18 (by decide +kernel) rfl rfl ?_; (skip); refine ⟨sF, ?_⟩)
        refine gb_take 19 rfl (by decide +kernel) rfl rfl (ys_ev (nw := true) hT rfl sI) sF ?_
        refine gb_nil (by decide +kernel) ?_
        exact ⟨(), (by repeat (first | exact trivial | refine ⟨rfl, ?_⟩)), sA, sS⟩
      · (repeat (refine gG ?_; try intro _))
        obtain ⟨ch, hch⟩ : ∃ ch, ch = 2 * r + 1 := ⟨_, rfl⟩
        have hc : Ch fB hi F r ch L1 := .inr ⟨hch, h1, fun _ _ h' => absurd h' h2⟩
        refine gk_say 9 (.int .i64 ((ch : Nat) : Int)) rfl (by first | (congr 1; done) | (congr 1; omega)) ?_
        have hcl := hc.lt
        obtain ⟨y, hy⟩ : ∃ y, L1[F + ch]? = some y := ⟨_, List.getElem?_eq_getElem (by omega)⟩
        by_cases hl2 : lt x y
        · skip
          refine gk_any [0] (Cut _ (fun _ : Unit => [(0, .slice (some ⟨g, 0, none⟩) n c), (1, (.int .i64 (lo : Int))), (2, (.int .i64 (hi : Int))), (3, (.int .i64 (F : Int))), (8, (.int .i64 (r : Int))), (9, (.int .i64 (ch : Int))), (52, .bool false)]) (fun _ => [rF g n c L1]) (fun _ => [])) rfl rfl (by kernel_rfl) ?_ (cut_k fun _ => ?_)
          · skip
            refine gb_take 0 rfl (by decide +kernel) rfl rfl (ys_ev (nw := true) hT rfl sI) sF ?_
            refine gb_take 1 rfl (by decide +kernel) rfl rfl (ys_ev (nw := true) hT rfl sI) sF ?_
            refine gb_take 2 rfl (by decide +kernel) rfl rfl (ys_ev (nw := true) hT rfl sI) sF ?_
            refine gb_take 3 rfl (by decide +kernel) rfl rfl (ys_ev (nw := true) hT rfl sI) sF ?_
            refine gb_take 4 rfl (by decide +kernel) rfl rfl (ys_ev (nw := true) hT rfl sI) sF ?_
            refine gb_take 5 rfl (by decide +kernel) rfl rfl (ys_load_el (S := [own 0 31 1 (.slice (some ⟨g, 0, none⟩) n c) E (L1)]) (o0 := 0) (sz := 1) (enc := E) (L := L1) hT (F + r) x 0 rfl rfl rfl (by first | rfl | omega) hx (at_own mE) rfl rfl) sF ?_
            refine gb_take 6 rfl (by decide +kernel) rfl rfl (ys_ev (nw := true) hT rfl sI) sF ?_
            refine gb_take 7 rfl (by decide +kernel) rfl rfl (ys_ev (nw := true) hT rfl sI) sF ?_
            refine gb_take 8 rfl (by decide +kernel) rfl rfl (ys_ev (nw := true) hT rfl sI) sF ?_
            refine gb_take 9 rfl (by decide +kernel) rfl rfl (ys_ev (nw := true) hT rfl sI) sF ?_
            refine gb_take 10 rfl (by decide +kernel) rfl rfl (ys_ev (nw := true) hT rfl sI) sF ?_
            refine gb_take 11 rfl (by decide +kernel) rfl rfl (ys_load_el (S := [own 0 31 1 (.slice (some ⟨g, 0, none⟩) n c) E (L1)]) (o0 := 0) (sz := 1) (enc := E) (L := L1) hT (F + ch) y 0 rfl rfl rfl (by first | rfl | omega) hy (at_own mE) rfl rfl) sF ?_
            refine gb_only 12 (by decide +kernel) rfl rfl ?_
            refine mv_call_bel (fun w hk => less_any x y w) rfl rfl rfl rfl rfl (by kernel_rfl) ?_
            refine ⟨sF, ?_⟩
            try (refine gb_say 51 (.bool true) rfl (congrArg Value.bool (tB_true hl2)) ?_)
            refine gb_take 13 rfl (by decide +kernel) rfl rfl (ys_ev (nw := true) hT rfl sI) sF ?_
            refine gb_nil (by decide +kernel) ?_
            exact ⟨(), (by repeat (first | exact trivial | refine ⟨rfl, ?_⟩)), sA, sS⟩
          · (repeat (refine gG ?_; try intro _))
            have hy2 : (L1.set (F + r) y)[F + ch]? = some y := set_other hx hy
            refine gk_any [] (Cut _ (fun _ : Unit => [(0, .slice (some ⟨g, 0, none⟩) n c), (1, (.int .i64 (lo : Int))), (2, (.int .i64 (hi : Int))), (3, (.int .i64 (F : Int))), (8, (.int .i64 (r : Int))), (9, (.int .i64 (ch : Int)))]) (fun _ => [rF g n c (swp L1 (F + r) (F + ch) x y)]) (fun _ => [])) rfl rfl (by kernel_rfl) ?_ (cut_k fun _ => ?_)
            · skip
              refine gb_take 0 rfl (by decide +kernel) rfl rfl (ys_ev (nw := true) hT rfl sI) sF ?_
              refine gb_take 1 rfl (by decide +kernel) rfl rfl (ys_ev (nw := true) hT rfl sI) sF ?_
              refine gb_take 2 rfl (by decide +kernel) rfl rfl (ys_ev (nw := true) hT rfl sI) sF ?_
              refine gb_take 3 rfl (by decide +kernel) rfl rfl (ys_ev (nw := true) hT rfl sI) sF ?_
              refine gb_take 4 rfl (by decide +kernel) rfl rfl (ys_ev (nw := true) hT rfl sI) sF ?_
              refine gb_take 5 rfl (by decide +kernel) rfl rfl (ys_ev (nw := true) hT rfl sI) sF ?_
              refine gb_take 6 rfl (by decide +kernel) rfl rfl (ys_ev (nw := true) hT rfl sI) sF ?_
              refine gb_take 7 rfl (by decide +kernel) rfl rfl (ys_ev (nw := true) hT rfl sI) sF ?_
              refine gb_take 8 rfl (by decide +kernel) rfl rfl (ys_ev (nw := true) hT rfl sI) sF ?_
              refine gb_take 9 rfl (by decide +kernel) rfl rfl (ys_ev (nw := true) hT rfl sI) sF ?_
              refine gb_take 10 rfl (by decide +kernel) rfl rfl (ys_ev (nw := true) hT rfl sI) sF ?_
              refine gb_take 11 rfl (by decide +kernel) rfl rfl (ys_ev (nw := true) hT rfl sI) sF ?_
              refine gb_take 12 rfl (by decide +kernel) rfl rfl (ys_ev (nw := true) hT rfl sI) sF ?_
              refine gb_take 14 rfl (by decide +kernel) rfl rfl (ys_ev (nw := true) hT rfl sI) sF ?_
              refine gb_take 15 rfl (by decide +kernel) rfl rfl (ys_ev (nw := true) hT rfl sI) sF ?_
              refine gb_take 16 rfl (by decide +kernel) rfl rfl (ys_ev (nw := true) hT rfl sI) sF ?_
              refine gb_take 17 rfl (by decide +kernel) rfl rfl (ys_ev (nw := true) hT rfl sI) sF ?_
              refine gb_take 18 rfl (by decide +kernel) rfl rfl (ys_ev (nw := true) hT rfl sI) sF ?_
              refine gb_all (by decide +kernel) ?_
              refine gball_not (by decide +kernel) ?_
              refine gball_not (by decide +kernel) ?_
              refine gball_not (by decide +kernel) ?_
              refine gball_not (by decide +kernel) ?_
              refine gball_not (by decide +kernel) ?_
              refine gball_not (by decide +kernel) ?_
              refine gball_not (by decide +kernel) ?_
              refine gball_not (by decide +kernel) ?_
              refine gball_not (by decide +kernel) ?_
              refine gball_not (by decide +kernel) ?_
              refine gball_not (by decide +kernel) ?_
              refine gball_not (by decide +kernel) ?_
              refine gball_not (by decide +kernel) ?_
              refine gball_yes rfl rfl ?_ ?_
              · refine mv_yd rfl ((ys_load_el (S := [own 0 31 1 (.slice (some ⟨g, 0, none⟩) n c) E (L1)]) (o0 := 0) (sz := 1) (enc := E) (L := L1) hT (F + ch) y 0 rfl rfl rfl (by first | rfl | omega) hy (at_own mE) rfl rfl).ydS sF) ?_
                refine ⟨sF, ?_⟩
                refine gb_only 19 (by decide +kernel) rfl rfl ?_
                refine mv_yd rfl ((ys_load_el (S := [own 0 31 1 (.slice (some ⟨g, 0, none⟩) n c) E (L1)]) (o0 := 0) (sz := 1) (enc := E) (L := L1) hT (F + r) x 0 rfl rfl rfl (by first | rfl | omega) hx (at_own mE) rfl rfl).ydS sF) ?_
                refine ⟨sF, ?_⟩
                refine gb_take 20 rfl (by decide +kernel) rfl rfl (ys_ev (nw := true) hT rfl sI) sF ?_
                refine gb_only 21 (by decide +kernel) rfl rfl ?_
                refine mv_store_own (α := El) (g := g) (n := n) (c := c) (base := 0) (e := 31) (sz := 1) (enc := E) (L := L1) hT (F + r) 0 x y rfl rfl (by first | rfl | omega) rfl rfl rfl rfl hx (by decide) (fun b h1 h2 => absurd h1 (by omega)) rfl (by first | ((repeat (first | with_reducible exact Upd.here _ | with_reducible apply Upd.there)); done) | ((repeat (first | exact Upd.here _ | apply Upd.there)); done) | fail) rfl ?_
                refine ⟨sF, ?_⟩
                refine gb_take 22 rfl (by decide +kernel) rfl rfl (ys_ev (nw := true) hT rfl sI) sF ?_
                refine gb_only 23 (by decide +kernel) rfl rfl ?_
                refine mv_store_own (α := El) (g := g) (n := n) (c := c) (base := 0) (e := 31) (sz := 1) (enc := E) (L := L1.set (F + r) y) hT (F + ch) 0 y x rfl rfl (by first | rfl | omega) rfl rfl rfl rfl hy2 (by decide) (fun b h1 h2 => absurd h1 (by omega)) rfl (by first | ((repeat (first | with_reducible exact Upd.here _ | with_reducible apply Upd.there)); done) | ((repeat (first | exact Upd.here _ | apply Upd.there)); done) | fail) rfl ?_
                refine ⟨sF, ?_⟩
                refine gb_nil (by decide +kernel) ?_
                exact ⟨(), (by repeat (first | exact trivial | refine ⟨rfl, ?_⟩)), sA, List.nil_subset _⟩
              refine gball_not (by decide +kernel) ?_
              refine gball_not (by decide +kernel) ?_
              refine gball_not (by decide +kernel) ?_
              refine gball_not (by decide +kernel) ?_
              refine gball_not (by decide +kernel) ?_
              refine gball_yes rfl rfl ?_ ?_
              · refine mv_yd rfl ((ys_load_el (S := [own 0 31 1 (.slice (some ⟨g, 0, none⟩) n c) E (L1)]) (o0 := 0) (sz := 1) (enc := E) (L := L1) hT (F + r) x 0 rfl rfl rfl (by first | rfl | omega) hx (at_own mE) rfl rfl).ydS sF) ?_
                refine ⟨sF, ?_⟩
                refine gb_only 13 (by decide +kernel) rfl rfl ?_
                refine mv_yd rfl ((ys_load_el (S := [own 0 31 1 (.slice (some ⟨g, 0, none⟩) n c) E (L1)]) (o0 := 0) (sz := 1) (enc := E) (L := L1) hT (F + ch) y 0 rfl rfl rfl (by first | rfl | omega) hy (at_own mE) rfl rfl).ydS sF) ?_
                refine ⟨sF, ?_⟩
                refine gb_take 20 rfl (by decide +kernel) rfl rfl (ys_ev (nw := true) hT rfl sI) sF ?_
                refine gb_only 21 (by decide +kernel) rfl rfl ?_
                refine mv_store_own (α := El) (g := g) (n := n) (c := c) (base := 0) (e := 31) (sz := 1) (enc := E) (L := L1) hT (F + r) 0 x y rfl rfl (by first | rfl | omega) rfl rfl rfl rfl hx (by decide) (fun b h1 h2 => absurd h1 (by omega)) rfl (by first | ((repeat (first | with_reducible exact Upd.here _ | with_reducible apply Upd.there)); done) | ((repeat (first | exact Upd.here _ | apply Upd.there)); done) | fail) rfl ?_
                refine ⟨sF, ?_⟩
                refine gb_take 22 rfl (by decide +kernel) rfl rfl (ys_ev (nw := true) hT rfl sI) sF ?_
                refine gb_only 23 (by decide +kernel) rfl rfl ?_
                refine mv_store_own (α := El) (g := g) (n := n) (c := c) (base := 0) (e := 31) (sz := 1) (enc := E) (L := L1.set (F + r) y) hT (F + ch) 0 y x rfl rfl (by first | rfl | omega) rfl rfl rfl rfl hy2 (by decide) (fun b h1 h2 => absurd h1 (by omega)) rfl (by first | ((repeat (first | with_reducible exact Upd.here _ | with_reducible apply Upd.there)); done) | ((repeat (first | exact Upd.here _ | apply Upd.there)); done) | fail) rfl ?_
                refine ⟨sF, ?_⟩
                refine gb_nil (by decide +kernel) ?_
                exact ⟨(), (by repeat (first | exact trivial | refine ⟨rfl, ?_⟩)), sA, List.nil_subset _⟩
              refine gball_not (by decide +kernel) ?_
              refine gball_not (by decide +kernel) ?_
              refine gball_not (by decide +kernel) ?_
              refine gball_not (by decide +kernel) ?_
              exact gball_end (by decide +kernel)
            · (repeat (refine gG ?_; try intro _))
              refine gk_again_sel rfl (ch, swp L1 (F + r) (F + ch) x y) ⟨by omega, (sift_go hc (by omega) hx hy (tB_true hl2)).symm.trans hs, swp_len.trans hl1⟩ (by dsimp only; omega) (by repeat (first | exact trivial | refine ⟨rfl, ?_⟩)) sA sS
        · skip
          refine gk_any [0] (Cut _ (fun _ : Unit => [(0, .slice (some ⟨g, 0, none⟩) n c), (1, (.int .i64 (lo : Int))), (2, (.int .i64 (hi : Int))), (3, (.int .i64 (F : Int))), (8, (.int .i64 (r : Int))), (9, (.int .i64 (ch : Int))), (52, .bool true)]) (fun _ => [rF g n c L1]) (fun _ => [])) rfl rfl (by kernel_rfl) ?_ (cut_k fun _ => ?_)
          · skip
            refine gb_take 0 rfl (by decide +kernel) rfl rfl (ys_ev (nw := true) hT rfl sI) sF ?_
            refine gb_take 1 rfl (by decide +kernel) rfl rfl (ys_ev (nw := true) hT rfl sI) sF ?_
            refine gb_take 2 rfl (by decide +kernel) rfl rfl (ys_ev (nw := true) hT rfl sI) sF ?_
            refine gb_take 3 rfl (by decide +kernel) rfl rfl (ys_ev (nw := true) hT rfl sI) sF ?_
            refine gb_take 4 rfl (by decide +kernel) rfl rfl (ys_ev (nw := true) hT rfl sI) sF ?_
            refine gb_take 5 rfl (by decide +kernel) rfl rfl (ys_load_el (S := [own 0 31 1 (.slice (some ⟨g, 0, none⟩) n c) E (L1)]) (o0 := 0) (sz := 1) (enc := E) (L := L1) hT (F + r) x 0 rfl rfl rfl (by first | rfl | omega) hx (at_own mE) rfl rfl) sF ?_
            refine gb_take 6 rfl (by decide +kernel) rfl rfl (ys_ev (nw := true) hT rfl sI) sF ?_
            refine gb_take 7 rfl (by decide +kernel) rfl rfl (ys_ev (nw := true) hT rfl sI) sF ?_
            refine gb_take 8 rfl (by decide +kernel) rfl rfl (ys_ev (nw := true) hT rfl sI) sF ?_
            refine gb_take 9 rfl (by decide +kernel) rfl rfl (ys_ev (nw := true) hT rfl sI) sF ?_
            refine gb_take 10 rfl (by decide +kernel) rfl rfl (ys_ev (nw := true) hT rfl sI) sF ?_
            refine gb_take 11 rfl (by decide +kernel) rfl rfl (ys_load_el (S := [own 0 31 1 (.slice (some ⟨g, 0, none⟩) n c) E (L1)]) (o0 := 0) (sz := 1) (enc := E) (L := L1) hT (F + ch) y 0 rfl rfl rfl (by first | rfl | omega) hy (at_own mE) rfl rfl) sF ?_
            refine gb_only 12 (by decide +kernel) rfl rfl ?_
            refine mv_call_bel (fun w hk => less_any x y w) rfl rfl rfl rfl rfl (by kernel_rfl) ?_
            refine ⟨sF, ?_⟩
            try (refine gb_say 51 (.bool false) rfl (congrArg Value.bool (tB_false hl2)) ?_)
            refine gb_take 13 rfl (by decide +kernel) rfl rfl (ys_ev (nw := true) hT rfl sI) sF ?_
            refine gb_nil (by decide +kernel) ?_
            exact ⟨(), (by repeat (first | exact trivial | refine ⟨rfl, ?_⟩)), sA, sS⟩
          · (repeat (refine gG ?_; try intro _))
            refine gk_ret hT rfl rfl .nil (fun w' hk => ?_)
            exact RetM.mk L1 ⟨(sift_stop hc (by omega) hx hy (tB_false hl2)).symm.trans hs, hl1⟩ rfl hk (fun b hb => (finE_mem h.2 b).1 hb) mE
  · (repeat' (first | (refine gG ?_; try intro _) | ((first | refine g_split rfl rfl tE (fun _ => ?_) (fun _ => ?_) | refine gk_cond rfl rfl tE (fun _ => ?_) (fun _ => ?_)) <;> (try first | (exfalso; omega; done) | (rename_i hx; exact absurd rfl hx) | (rename_i hx; cases hx; done)))))
    refine gk_fin hT rfl rfl .nil (fun w' hk => ?_)
    exact RetM.mk L1 ⟨(sift_no (by omega)).symm.trans hs, hl1⟩ rfl hk (fun b hb => (finE_mem h.2 b).1 hb) mE
theorem heap_any (g n c a b : Nat) (L : List El) (w : World) (hn : L.length = n) (h9 : n ≤ 1000000) (hab : a < b) (hb : b ≤ n) (h : Rd1 w (rF g n c L)) :
    Calls Try.prog 84 [.slice (some ⟨g, 0, none⟩) n c, .int .i64 (a : Int), .int .i64 (b : Int)].toArray w (RetM (rF g n c L) (fun L' : List El => Seg a b L L' ∧ SortedIn lt a b L') (fun _ => .tuple #[]) (fun L' => rF g n c L') w) := by
  refine g_enter0 T (finE (rF g n c L) w) [rF g n c L] [] Try.func84 rfl Try.ntmps84 rfl (Kn.startM h (fun b hb => (finE_mem h.2 b).2 hb) (fun ψ hψ => by cases hψ)) ?_
  (repeat (refine gG ?_; try intro _))
  refine gk_say 8 (.int .i64 ((b - a : Nat) : Int)) rfl (by first | (congr 1; done) | (congr 1; omega)) ?_
  refine gk_say 9 (.int .i64 ((((b - a - 1) / 2 + 1 : Nat) : Int) - 1)) rfl (by first | (congr 1; done) | (congr 1; omega)) ?_
  refine gk_loop_sel (fun (q : Nat × (List El)) => match q with | (k, L1) => (k ≤ (b - a - 1) / 2 + 1 ∧ Go.Sort.heapBuild fB (b - a) a k L1.toArray = Go.Sort.heapBuild fB (b - a) a ((b - a - 1) / 2 + 1) L.toArray ∧ L1.length = n)) (fun (q : Nat × (List El)) => match q with | (k, L1) => [(0, .slice (some ⟨g, 0, none⟩) n c), (1, (.int .i64 (a : Int))), (2, (.int .i64 (b : Int))), (6, (.int .i64 (a : Int))), (7, (.int .i64 0)), (8, (.int .i64 ((b - a : Nat) : Int))), (9, .int .i64 ((k : Nat) - 1 : Int))]) (fun (q : Nat × (List El)) => match q with | (k, L1) => [rF g n c L1]) (fun (q : Nat × (List El)) => match q with | (k, L1) => []) (fun (q : Nat × (List El)) => match q with | (k, L1) => k) ((b - a - 1) / 2 + 1, L) rfl ⟨Nat.le_refl _, rfl, hn⟩ (by repeat (first | exact trivial | refine ⟨rfl, ?_⟩)) sA sS ?_
  rintro ⟨k, L1⟩ hI
  replace hI : (k ≤ (b - a - 1) / 2 + 1 ∧ Go.Sort.heapBuild fB (b - a) a k L1.toArray = Go.Sort.heapBuild fB (b - a) a ((b - a - 1) / 2 + 1) L.toArray ∧ L1.length = n) := hI
  change GK _ _ [(0, .slice (some ⟨g, 0, none⟩) n c), (1, (.int .i64 (a : Int))), (2, (.int .i64 (b : Int))), (6, (.int .i64 (a : Int))), (7, (.int .i64 0)), (8, (.int .i64 ((b - a : Nat) : Int))), (9, .int .i64 ((k : Nat) - 1 : Int))] [rF g n c L1] []
  obtain ⟨k1, hs, hl1⟩ := hI
  rcases k with _ | k
  · (repeat' (first | (refine gG ?_; try intro _) | ((first | refine g_split rfl rfl tE (fun _ => ?_) (fun _ => ?_) | refine gk_cond rfl rfl tE (fun _ => ?_) (fun _ => ?_)) <;> (try first | (exfalso; omega; done) | (rename_i hx; exact absurd rfl hx) | (rename_i hx; cases hx; done)))))
    refine gk_say 10 (.int .i64 (((b - a : Nat) : Int) - 1)) rfl (by first | (congr 1; done) | (congr 1; omega)) ?_
    refine gk_loop_sel (fun (q : Nat × (List El)) => match q with | (k, L2) => (k ≤ b - a ∧ Go.Sort.heapPop fB a k L2.toArray = Go.Sort.heapSort fB L.toArray a b ∧ L2.length = n)) (fun (q : Nat × (List El)) => match q with | (k, L2) => [(0, .slice (some ⟨g, 0, none⟩) n c), (1, (.int .i64 (a : Int))), (2, (.int .i64 (b : Int))), (6, (.int .i64 (a : Int))), (7, (.int .i64 0)), (8, (.int .i64 ((b - a : Nat) : Int))), (10, .int .i64 ((k : Nat) - 1 : Int))]) (fun (q : Nat × (List El)) => match q with | (k, L2) => [rF g n c L2]) (fun (q : Nat × (List El)) => match q with | (k, L2) => []) (fun (q : Nat × (List El)) => match q with | (k, L2) => k) (b - a, L1) rfl ⟨Nat.le_refl _, by unfold Go.Sort.heapSort; rw [← hs]; rfl, hl1⟩ (by repeat (first | exact trivial | refine ⟨rfl, ?_⟩)) sA sS ?_
    rintro ⟨k, L2⟩ hI
    replace hI : (k ≤ b - a ∧ Go.Sort.heapPop fB a k L2.toArray = Go.Sort.heapSort fB L.toArray a b ∧ L2.length = n) := hI
    change GK _ _ [(0, .slice (some ⟨g, 0, none⟩) n c), (1, (.int .i64 (a : Int))), (2, (.int .i64 (b : Int))), (6, (.int .i64 (a : Int))), (7, (.int .i64 0)), (8, (.int .i64 ((b - a : Nat) : Int))), (10, .int .i64 ((k : Nat) - 1 : Int))] [rF g n c L2] []
    obtain ⟨k2, hs2, hl2⟩ := hI
    rcases k with _ | k
    · (repeat' (first | (refine gG ?_; try intro _) | ((first | refine g_split rfl rfl tE (fun _ => ?_) (fun _ => ?_) | refine gk_cond rfl rfl tE (fun _ => ?_) (fun _ => ?_)) <;> (try first | (exfalso; omega; done) | (rename_i hx; exact absurd rfl hx) | (rename_i hx; cases hx; done)))))
      refine gk_fin hT rfl rfl .nil (fun w' hk => ?_)
      exact RetM.mk L2 (heap_seg ord (by omega) (by omega) hs2.symm) rfl hk (fun b hb => (finE_mem h.2 b).1 hb) mE
    · (repeat' (first | (refine gG ?_; try intro _) | ((first | refine g_split rfl rfl tE (fun _ => ?_) (fun _ => ?_) | refine gk_cond rfl rfl tE (fun _ => ?_) (fun _ => ?_)) <;> (try first | (exfalso; omega; done) | (rename_i hx; exact absurd rfl hx) | (rename_i hx; cases hx; done)))))
      refine gk_say 10 (.int .i64 ((k : Nat) : Int)) rfl (by first | (congr 1; done) | (congr 1; omega)) ?_
      obtain ⟨x, hx⟩ : ∃ x, L2[a]? = some x := ⟨_, List.getElem?_eq_getElem (by omega)⟩
      obtain ⟨y, hy⟩ : ∃ y, L2[a + k]? = some y := ⟨_, List.getElem?_eq_getElem (by omega)⟩
      have hy2 : (L2.set (a) y)[a + k]? = some y := set_other hx hy
      refine gk_any [] (Cut _ (fun _ : Unit => [(0, .slice (some ⟨g, 0, none⟩) n c), (1, (.int .i64 (a : Int))), (2, (.int .i64 (b : Int))), (6, (.int .i64 (a : Int))), (7, (.int .i64 0)), (8, (.int .i64 ((b - a : Nat) : Int))), (10, (.int .i64 (k : Int)))]) (fun _ => [rF g n c (swp L2 a (a + k) x y)]) (fun _ => [])) rfl rfl (by kernel_rfl) ?_ (cut_k fun _ => ?_)
      · skip
        refine gb_take 0 rfl (by decide +kernel) rfl rfl (ys_ev (nw := true) hT rfl sI) sF ?_
        refine gb_take 1 rfl (by decide +kernel) rfl rfl (ys_ev (nw := true) hT rfl sI) sF ?_
        refine gb_take 2 rfl (by decide +kernel) rfl rfl (ys_ev (nw := true) hT rfl sI) sF ?_
        refine gb_take 3 rfl (by decide +kernel) rfl rfl (ys_ev (nw := true) hT rfl sI) sF ?_
        refine gb_take 4 rfl (by decide +kernel) rfl rfl (ys_ev (nw := true) hT rfl sI) sF ?_
        refine gb_take 5 rfl (by decide +kernel) rfl rfl (ys_ev (nw := true) hT rfl sI) sF ?_
        refine gb_take 6 rfl (by decide +kernel) rfl rfl (ys_ev (nw := true) hT rfl sI) sF ?_
        refine gb_take 7 rfl (by decide +kernel) rfl rfl (ys_ev (nw := true) hT rfl sI) sF ?_
        refine gb_take 8 rfl (by decide +kernel) rfl rfl (ys_ev (nw := true) hT rfl sI) sF ?_
        refine gb_take 9 rfl (by decide +kernel) rfl rfl (ys_ev (nw := true) hT rfl sI) sF ?_
        refine gb_take 10 rfl (by decide +kernel) rfl rfl (ys_ev (nw := true) hT rfl sI) sF ?_
        refine gb_take 12 rfl (by decide +kernel) rfl rfl (ys_ev (nw := true) hT rfl sI) sF ?_
        refine gb_take 13 rfl (by decide +kernel) rfl rfl (ys_ev (nw := true) hT rfl sI) sF ?_
        refine gb_take 14 rfl (by decide +kernel) rfl rfl (ys_ev (nw := true) hT rfl sI) sF ?_
        refine gb_all (by decide +kernel) ?_
        refine gball_not (by decide +kernel) ?_
        refine gball_not (by decide +kernel) ?_
        refine gball_not (by decide +kernel) ?_
        refine gball_not (by decide +kernel) ?_
        refine gball_not (by decide +kernel) ?_
        refine gball_not (by decide +kernel) ?_
        refine gball_not (by decide +kernel) ?_
        refine gball_not (by decide +kernel) ?_
        refine gball_not (by decide +kernel) ?_
        refine gball_not (by decide +kernel) ?_
        refine gball_not (by decide +kernel) ?_
        refine gball_yes rfl rfl ?_ ?_
        · refine mv_yd rfl ((ys_load_el (S := [own 0 31 1 (.slice (some ⟨g, 0, none⟩) n c) E (L2)]) (o0 := 0) (sz := 1) (enc := E) (L := L2) hT (a + k) y 0 rfl rfl rfl (by first | rfl | omega) hy (at_own mE) rfl rfl).ydS sF) ?_
          refine ⟨sF, ?_⟩
          refine gb_only 15 (by decide +kernel) rfl rfl ?_
          refine mv_yd rfl ((ys_load_el (S := [own 0 31 1 (.slice (some ⟨g, 0, none⟩) n c) E (L2)]) (o0 := 0) (sz := 1) (enc := E) (L := L2) hT (a) x 0 rfl rfl rfl (by first | rfl | omega) hx (at_own mE) rfl rfl).ydS sF) ?_
          refine ⟨sF, ?_⟩
          refine gb_take 16 rfl (by decide +kernel) rfl rfl (ys_ev (nw := true) hT rfl sI) sF ?_
          refine gb_only 17 (by decide +kernel) rfl rfl ?_
          refine mv_store_own (α := El) (g := g) (n := n) (c := c) (base := 0) (e := 31) (sz := 1) (enc := E) (L := L2) hT (a) 0 x y rfl rfl (by first | rfl | omega) rfl rfl rfl rfl hx (by decide) (fun b h1 h2 => absurd h1 (by omega)) rfl (by first | ((repeat (first | with_reducible exact Upd.here _ | with_reducible apply Upd.there)); done) | ((repeat (first | exact Upd.here _ | apply Upd.there)); done) | fail) rfl ?_
          refine ⟨sF, ?_⟩
          refine gb_take 18 rfl (by decide +kernel) rfl rfl (ys_ev (nw := true) hT rfl sI) sF ?_
          refine gb_only 19 (by decide +kernel) rfl rfl ?_
          refine mv_store_own (α := El) (g := g) (n := n) (c := c) (base := 0) (e := 31) (sz := 1) (enc := E) (L := L2.set (a) y) hT (a + k) 0 y x rfl rfl (by first | rfl | omega) rfl rfl rfl rfl hy2 (by decide) (fun b h1 h2 => absurd h1 (by omega)) rfl (by first | ((repeat (first | with_reducible exact Upd.here _ | with_reducible apply Upd.there)); done) | ((repeat (first | exact Upd.here _ | apply Upd.there)); done) | fail) rfl ?_
          refine ⟨sF, ?_⟩
          refine gb_nil (by decide +kernel) ?_
          exact ⟨(), (by repeat (first | exact trivial | refine ⟨rfl, ?_⟩)), sA, List.nil_subset _⟩
        refine gball_not (by decide +kernel) ?_
        refine gball_not (by decide +kernel) ?_
        refine gball_not (by decide +kernel) ?_
        refine gball_yes rfl rfl ?_ ?_
        · refine mv_yd rfl ((ys_load_el (S := [own 0 31 1 (.slice (some ⟨g, 0, none⟩) n c) E (L2)]) (o0 := 0) (sz := 1) (enc := E) (L := L2) hT (a) x 0 rfl rfl rfl (by first | rfl | omega) hx (at_own mE) rfl rfl).ydS sF) ?_
          refine ⟨sF, ?_⟩
          refine gb_only 11 (by decide +kernel) rfl rfl ?_
          refine mv_yd rfl ((ys_load_el (S := [own 0 31 1 (.slice (some ⟨g, 0, none⟩) n c) E (L2)]) (o0 := 0) (sz := 1) (enc := E) (L := L2) hT (a + k) y 0 rfl rfl rfl (by first | rfl | omega) hy (at_own mE) rfl rfl).ydS sF) ?_
          refine ⟨sF, ?_⟩
          refine gb_take 16 rfl (by decide +kernel) rfl rfl (ys_ev (nw := true) hT rfl sI) sF ?_
          refine gb_only 17 (by decide +kernel) rfl rfl ?_
          refine mv_store_own (α := El) (g := g) (n := n) (c := c) (base := 0) (e := 31) (sz := 1) (enc := E) (L := L2) hT (a) 0 x y rfl rfl (by first | rfl | omega) rfl rfl rfl rfl hx (by decide) (fun b h1 h2 => absurd h1 (by omega)) rfl (by first | ((repeat (first | with_reducible exact Upd.here _ | with_reducible apply Upd.there)); done) | ((repeat (first | exact Upd.here _ | apply Upd.there)); done) | fail) rfl ?_
          refine ⟨sF, ?_⟩
          refine gb_take 18 rfl (by decide +kernel) rfl rfl (ys_ev (nw := true) hT rfl sI) sF ?_
          refine gb_only 19 (by decide +kernel) rfl rfl ?_
          refine mv_store_own (α := El) (g := g) (n := n) (c := c) (base := 0) (e := 31) (sz := 1) (enc := E) (L := L2.set (a) y) hT (a + k) 0 y x rfl rfl (by first | rfl | omega) rfl rfl rfl rfl hy2 (by decide) (fun b h1 h2 => absurd h1 (by omega)) rfl (by first | ((repeat (first | with_reducible exact Upd.here _ | with_reducible apply Upd.there)); done) | ((repeat (first | exact Upd.here _ | apply Upd.there)); done) | fail) rfl ?_
          refine ⟨sF, ?_⟩
          refine gb_nil (by decide +kernel) ?_
          exact ⟨(), (by repeat (first | exact trivial | refine ⟨rfl, ?_⟩)), sA, List.nil_subset _⟩
        refine gball_not (by decide +kernel) ?_
        refine gball_not (by decide +kernel) ?_
        refine gball_not (by decide +kernel) ?_
        refine gball_not (by decide +kernel) ?_
        exact gball_end (by decide +kernel)
      · (repeat (refine gG ?_; try intro _))
        refine g_mv rfl (mv_call_mod (φ := rF g n c (swp L2 a (a + k) x y)) (ψ := fun L' : List El => rF g n c L') (fun w1 hk => by exact sift_any g n c 0 k a (swp L2 a (a + k) x y) w1 (swp_len.trans hl2) h9 (by omega) (by omega) (hk.rO (φ := rF g n c (swp L2 a (a + k) x y)) mE)) rfl rfl rfl rfl rfl (by kernel_rfl) (by intro _; first | ((repeat (first | with_reducible exact Upd.here _ | with_reducible apply Upd.there)); done) | ((repeat (first | exact Upd.here _ | apply Upd.there)); done) | fail) (fun L3 h3 => ?_))
        (repeat (refine gG ?_; try intro _))
        refine gk_say 10 (.int .i64 (((k : Nat) : Int) - 1)) rfl (by first | (congr 1; done) | (congr 1; omega)) ?_
        refine gk_again_sel rfl (k, L3) ⟨by omega, by rw [h3.1, ← arr_swp hx hy, ← heapPop_step]; exact hs2, h3.2⟩ (by dsimp only; omega) (by repeat (first | exact trivial | refine ⟨rfl, ?_⟩)) sA sS
  · (repeat' (first | (refine gG ?_; try intro _) | ((first | refine g_split rfl rfl tE (fun _ => ?_) (fun _ => ?_) | refine gk_cond rfl rfl tE (fun _ => ?_) (fun _ => ?_)) <;> (try first | (exfalso; omega; done) | (rename_i hx; exact absurd rfl hx) | (rename_i hx; cases hx; done)))))
    refine g_say 23 (.int .i64 ((k : Nat) : Int)) rfl (by first | (congr 1; done) | (congr 1; omega)) ?_
    refine g_mv rfl (mv_call_mod (φ := rF g n c L1) (ψ := fun L' : List El => rF g n c L') (fun w1 hk => by exact sift_any g n c k (b - a) a L1 w1 hl1 h9 (by omega) (by omega) (hk.rO (φ := rF g n c L1) mE)) rfl rfl rfl rfl rfl (by kernel_rfl) (by intro _; first | ((repeat (first | with_reducible exact Upd.here _ | with_reducible apply Upd.there)); done) | ((repeat (first | exact Upd.here _ | apply Upd.there)); done) | fail) (fun L3 h3 => ?_))
    (repeat (refine gG ?_; try intro _))
    refine gk_say 9 (.int .i64 (((k : Nat) : Int) - 1)) rfl (by first | (congr 1; done) | (congr 1; omega)) ?_
    refine gk_again_sel rfl (k, L3) ⟨by omega, by rw [h3.1, ← heapBuild_step]; exact hs, h3.2⟩ (by dsimp only; omega) (by repeat (first | exact trivial | refine ⟨rfl, ?_⟩)) sA sS
theorem joinG {X : Cx} {ops : List Oper} {k : List KI} {ι : Type} (P : ι → Prop) (F : ι → Fr) (OO RR : ι → List Fact) {q : Prop} (r : Later (∀ i, P i → G X ops ops k (F i) (OO i) (RR i)) → q) (g : ∀ i, P i → G X ops ops k (F i) (OO i) (RR i)) : q := r ⟨g⟩
theorem par_any (g n c a b : Nat) (L : List El) (w : World) (hn : L.length = n) (h9 : n ≤ 1000000) (hab : a < b) (hb : b ≤ n) (hpre : Pre lt a b L) (h : Rd1 w (rF g n c L)) :
    Calls Try.prog 88 [.slice (some ⟨g, 0, none⟩) n c, .int .i64 (a : Int), .int .i64 (b : Int)].toArray w (RetM (rF g n c L) (fun r : List El × Bool => Seg a b L r.1 ∧ (r.2 = true → SortedIn lt a b r.1)) (fun r => .bool r.2) (fun r => rF g n c r.1) w) := by
  refine g_enter0 T (finE (rF g n c L) w) [rF g n c L] [] Try.func88 rfl Try.ntmps88 rfl (Kn.startM h (fun b hb => (finE_mem h.2 b).2 hb) (fun ψ hψ => by cases hψ)) ?_
  (repeat (refine gG ?_; try intro _))
  refine gk_say 7 (.int .i64 ((a + 1 : Nat) : Int)) rfl (by first | (congr 1; done) | (congr 1; omega)) ?_
  refine gk_loop_sel (fun (q : Nat × Nat × (List El)) => match q with | (j, i, L1) => (j ≤ 5 ∧ a < i ∧ i ≤ b ∧ Go.Sort.partialIns fB a b (5 - j) i L1.toArray = Go.Sort.partialIns fB a b 5 (a + 1) L.toArray ∧ L1.length = n)) (fun (q : Nat × Nat × (List El)) => match q with | (j, i, L1) => [(0, .slice (some ⟨g, 0, none⟩) n c), (1, (.int .i64 (a : Int))), (2, (.int .i64 (b : Int))), (6, (.bool false)), (7, (.int .i64 (i : Int))), (8, (.int .i64 (j : Int)))]) (fun (q : Nat × Nat × (List El)) => match q with | (j, i, L1) => [rF g n c L1]) (fun (q : Nat × Nat × (List El)) => match q with | (j, i, L1) => []) (fun (q : Nat × Nat × (List El)) => match q with | (j, i, L1) => 5 - j) (0, a + 1, L) rfl ⟨by omega, by omega, by omega, rfl, hn⟩ (by repeat (first | exact trivial | refine ⟨rfl, ?_⟩)) sA sS ?_
  rintro ⟨j, i, L1⟩ hI
  replace hI : (j ≤ 5 ∧ a < i ∧ i ≤ b ∧ Go.Sort.partialIns fB a b (5 - j) i L1.toArray = Go.Sort.partialIns fB a b 5 (a + 1) L.toArray ∧ L1.length = n) := hI
  change GK _ _ [(0, .slice (some ⟨g, 0, none⟩) n c), (1, (.int .i64 (a : Int))), (2, (.int .i64 (b : Int))), (6, (.bool false)), (7, (.int .i64 (i : Int))), (8, (.int .i64 (j : Int)))] [rF g n c L1] []
  obtain ⟨j5, i1a, i1b, hp, hl1⟩ := hI
  by_cases hj : j < 5
  · obtain ⟨s, hs⟩ : ∃ s, 5 - j = s + 1 := ⟨4 - j, by omega⟩
    rw [hs] at hp
    (repeat' (first | (refine gG ?_; try intro _) | ((first | refine g_split rfl rfl tE (fun _ => ?_) (fun _ => ?_) | refine gk_cond rfl rfl tE (fun _ => ?_) (fun _ => ?_)) <;> (try first | (exfalso; omega; done) | (rename_i hx; exact absurd rfl hx) | (rename_i hx; cases hx; done)))))
    refine gk_loop_sel (fun (q : Nat × Unit) => match q with | (i1, z) => (i ≤ i1 ∧ i1 ≤ b ∧ Go.Sort.scanSorted fB L1.toArray b i1 = Go.Sort.scanSorted fB L1.toArray b i)) (fun (q : Nat × Unit) => match q with | (i1, z) => [(0, .slice (some ⟨g, 0, none⟩) n c), (1, (.int .i64 (a : Int))), (2, (.int .i64 (b : Int))), (6, (.bool false)), (7, (.int .i64 (i1 : Int))), (8, (.int .i64 (j : Int)))]) (fun (q : Nat × Unit) => match q with | (i1, z) => [rF g n c L1]) (fun (q : Nat × Unit) => match q with | (i1, z) => []) (fun (q : Nat × Unit) => match q with | (i1, z) => b - i1) (i, ()) rfl ⟨by omega, by omega, rfl⟩ (by repeat (first | exact trivial | refine ⟨rfl, ?_⟩)) sA sS ?_
    rintro ⟨i1, z⟩ hI
    replace hI : (i ≤ i1 ∧ i1 ≤ b ∧ Go.Sort.scanSorted fB L1.toArray b i1 = Go.Sort.scanSorted fB L1.toArray b i) := hI
    change GK _ _ [(0, .slice (some ⟨g, 0, none⟩) n c), (1, (.int .i64 (a : Int))), (2, (.int .i64 (b : Int))), (6, (.bool false)), (7, (.int .i64 (i1 : Int))), (8, (.int .i64 (j : Int)))] [rF g n c L1] []
    obtain ⟨ia, ib, hsc⟩ := hI
    by_cases hi : i1 < b
    · obtain ⟨x, hx⟩ : ∃ x, L1[i1]? = some x := ⟨_, List.getElem?_eq_getElem (by omega)⟩
      obtain ⟨y, hy⟩ : ∃ y, L1[i1 - 1]? = some y := ⟨_, List.getElem?_eq_getElem (by omega)⟩
      by_cases hl : lt x y
      · have hsc2 : Go.Sort.scanSorted fB L1.toArray b i = i1 := hsc.symm.trans (scan_stop hx hy (tB_true hl))
        refine gk_any [0] (Cut _ (fun _ : Unit => [(0, .slice (some ⟨g, 0, none⟩) n c), (1, (.int .i64 (a : Int))), (2, (.int .i64 (b : Int))), (6, (.bool false)), (7, (.int .i64 (i1 : Int))), (8, (.int .i64 (j : Int))), (32, .bool false)]) (fun _ => [rF g n c L1]) (fun _ => [])) rfl rfl (by kernel_rfl) ?_ (cut_k fun _ => ?_)
        · skip
          refine gb_take 0 rfl (by decide +kernel) rfl rfl (ys_ev (nw := true) hT rfl sI) sF ?_
          refine gb_take 1 rfl (by decide +kernel) rfl rfl (ys_ev (nw := true) hT rfl sI) sF ?_
          refine gb_take 2 rfl (by decide +kernel) rfl rfl (ys_ev (nw := true) hT rfl sI) sF ?_
          refine gb_take 3 rfl (by decide +kernel) rfl rfl (ys_ev (nw := true) hT rfl sI) sF ?_
          try (refine gb_say 20 (.bool true) rfl (congrArg Value.bool (tB_true (by omega))) ?_)
          first | refine gb_take 4 rfl (by decide +kernel) rfl rfl (ys_ev (nw := true) hT rfl sI) sF ?_ | refine gb_skip 4 rfl (by decide +kernel) rfl rfl sF ?_
          first | refine gb_take 5 rfl (by decide +kernel) rfl rfl (ys_ev (nw := true) hT rfl sI) sF ?_ | refine gb_skip 5 rfl (by decide +kernel) rfl rfl sF ?_
          first | refine gb_take 6 rfl (by decide +kernel) rfl rfl (ys_ev (nw := true) hT rfl sI) sF ?_ | refine gb_skip 6 rfl (by decide +kernel) rfl rfl sF ?_
          first | refine gb_take 7 rfl (by decide +kernel) rfl rfl (ys_load_el (S := [own 0 31 1 (.slice (some ⟨g, 0, none⟩) n c) E (L1)]) (o0 := 0) (sz := 1) (enc := E) (L := L1) hT (i1) x 0 rfl rfl rfl (by first | rfl | omega) hx (at_own mE) rfl rfl) sF ?_ | refine gb_skip 7 rfl (by decide +kernel) rfl rfl sF ?_
          first | refine gb_take 8 rfl (by decide +kernel) rfl rfl (ys_ev (nw := true) hT rfl sI) sF ?_ | refine gb_skip 8 rfl (by decide +kernel) rfl rfl sF ?_
          first | refine gb_take 9 rfl (by decide +kernel) rfl rfl (ys_ev (nw := true) hT rfl sI) sF ?_ | refine gb_skip 9 rfl (by decide +kernel) rfl rfl sF ?_
          first | refine gb_take 10 rfl (by decide +kernel) rfl rfl (ys_ev (nw := true) hT rfl sI) sF ?_ | refine gb_skip 10 rfl (by decide +kernel) rfl rfl sF ?_
          first | refine gb_take 11 rfl (by decide +kernel) rfl rfl (ys_ev (nw := true) hT rfl sI) sF ?_ | refine gb_skip 11 rfl (by decide +kernel) rfl rfl sF ?_
          first | refine gb_take 12 rfl (by decide +kernel) rfl rfl (ys_load_el (S := [own 0 31 1 (.slice (some ⟨g, 0, none⟩) n c) E (L1)]) (o0 := 0) (sz := 1) (enc := E) (L := L1) hT (i1 - 1) y 0 rfl rfl rfl (by first | rfl | omega) hy (at_own mE) rfl rfl) sF ?_ | refine gb_skip 12 rfl (by decide +kernel) rfl rfl sF ?_
          first | refine gb_skip 13 rfl (by decide +kernel) rfl rfl sF ?_ | (refine gb_only 13 (by decide +kernel) rfl rfl ?_; (refine mv_call_bel (fun w hk => less_any x y w) rfl rfl rfl rfl rfl (by kernel_rfl) ?_); refine ⟨sF, ?_⟩)
          try (refine gb_say 30 (.bool true) rfl (congrArg Value.bool (tB_true hl)) ?_)
          first | refine gb_take 14 rfl (by decide +kernel) rfl rfl (ys_ev (nw := true) hT rfl sI) sF ?_ | refine gb_skip 14 rfl (by decide +kernel) rfl rfl sF ?_
          refine gb_take 15 rfl (by decide +kernel) rfl rfl (ys_ev (nw := true) hT rfl sI) sF ?_
          refine gb_nil (by decide +kernel) ?_
          exact ⟨(), (by repeat (first | exact trivial | refine ⟨rfl, ?_⟩)), sA, sS⟩
        · by_cases h50 : b - a < 50
          · (repeat' (first | (refine gG ?_; try intro _) | ((first | refine g_split rfl rfl tE (fun _ => ?_) (fun _ => ?_) | refine gk_cond rfl rfl tE (fun _ => ?_) (fun _ => ?_)) <;> (try first | (exfalso; omega; done) | (rename_i hx; exact absurd rfl hx) | (rename_i hx; cases hx; done)))))
            refine gk_ret hT rfl rfl (.tmp rfl .nil) (fun w' hk => ?_)
            exact RetM.mk ((L1, false) : List El × Bool) (part_seg ord hab (by omega) hpre (hp.symm.trans (par_false (by rw [hsc2]; omega) h50))) rfl hk (fun b hb => (finE_mem h.2 b).1 hb) mE
          · (repeat' (first | (refine gG ?_; try intro _) | ((first | refine g_split rfl rfl tE (fun _ => ?_) (fun _ => ?_) | refine gk_cond rfl rfl tE (fun _ => ?_) (fun _ => ?_)) <;> (try first | (exfalso; omega; done) | (rename_i hx; exact absurd rfl hx) | (rename_i hx; cases hx; done)))))
            obtain ⟨L2, e2⟩ : ∃ L2, L2 = swp L1 i1 (i1 - 1) x y := ⟨_, rfl⟩
            have hl2 : L2.length = n := by rw [e2]; exact swp_len.trans hl1
            have hy2 : (L1.set (i1) y)[i1 - 1]? = some y := set_other hx hy
            refine gk_any [] (Cut _ (fun _ : Unit => [(0, .slice (some ⟨g, 0, none⟩) n c), (1, (.int .i64 (a : Int))), (2, (.int .i64 (b : Int))), (6, (.bool false)), (7, (.int .i64 (i1 : Int))), (8, (.int .i64 (j : Int)))]) (fun _ => [rF g n c (swp L1 i1 (i1 - 1) x y)]) (fun _ => [])) rfl rfl (by kernel_rfl) ?_ (cut_k fun _ => ?_)
            · skip
              refine gb_take 0 rfl (by decide +kernel) rfl rfl (ys_ev (nw := true) hT rfl sI) sF ?_
              refine gb_take 1 rfl (by decide +kernel) rfl rfl (ys_ev (nw := true) hT rfl sI) sF ?_
              refine gb_take 2 rfl (by decide +kernel) rfl rfl (ys_ev (nw := true) hT rfl sI) sF ?_
              refine gb_take 3 rfl (by decide +kernel) rfl rfl (ys_ev (nw := true) hT rfl sI) sF ?_
              refine gb_take 4 rfl (by decide +kernel) rfl rfl (ys_ev (nw := true) hT rfl sI) sF ?_
              refine gb_take 5 rfl (by decide +kernel) rfl rfl (ys_ev (nw := true) hT rfl sI) sF ?_
              refine gb_take 6 rfl (by decide +kernel) rfl rfl (ys_ev (nw := true) hT rfl sI) sF ?_
              refine gb_take 7 rfl (by decide +kernel) rfl rfl (ys_ev (nw := true) hT rfl sI) sF ?_
              refine gb_take 8 rfl (by decide +kernel) rfl rfl (ys_ev (nw := true) hT rfl sI) sF ?_
              refine gb_take 10 rfl (by decide +kernel) rfl rfl (ys_ev (nw := true) hT rfl sI) sF ?_
              refine gb_take 11 rfl (by decide +kernel) rfl rfl (ys_ev (nw := true) hT rfl sI) sF ?_
              refine gb_take 12 rfl (by decide +kernel) rfl rfl (ys_ev (nw := true) hT rfl sI) sF ?_
              refine gb_all (by decide +kernel) ?_
              refine gball_not (by decide +kernel) ?_
              refine gball_not (by decide +kernel) ?_
              refine gball_not (by decide +kernel) ?_
              refine gball_not (by decide +kernel) ?_
              refine gball_not (by decide +kernel) ?_
              refine gball_not (by decide +kernel) ?_
              refine gball_not (by decide +kernel) ?_
              refine gball_not (by decide +kernel) ?_
              refine gball_not (by decide +kernel) ?_
              refine gball_yes rfl rfl ?_ ?_
              · refine mv_yd rfl ((ys_load_el (S := [own 0 31 1 (.slice (some ⟨g, 0, none⟩) n c) E (L1)]) (o0 := 0) (sz := 1) (enc := E) (L := L1) hT (i1 - 1) y 0 rfl rfl rfl (by first | rfl | omega) hy (at_own mE) rfl rfl).ydS sF) ?_
                refine ⟨sF, ?_⟩
                refine gb_only 13 (by decide +kernel) rfl rfl ?_
                refine mv_yd rfl ((ys_load_el (S := [own 0 31 1 (.slice (some ⟨g, 0, none⟩) n c) E (L1)]) (o0 := 0) (sz := 1) (enc := E) (L := L1) hT (i1) x 0 rfl rfl rfl (by first | rfl | omega) hx (at_own mE) rfl rfl).ydS sF) ?_
                refine ⟨sF, ?_⟩
                refine gb_take 14 rfl (by decide +kernel) rfl rfl (ys_ev (nw := true) hT rfl sI) sF ?_
                refine gb_only 15 (by decide +kernel) rfl rfl ?_
                refine mv_store_own (α := El) (g := g) (n := n) (c := c) (base := 0) (e := 31) (sz := 1) (enc := E) (L := L1) hT (i1) 0 x y rfl rfl (by first | rfl | omega) rfl rfl rfl rfl hx (by decide) (fun b h1 h2 => absurd h1 (by omega)) rfl (by first | ((repeat (first | with_reducible exact Upd.here _ | with_reducible apply Upd.there)); done) | ((repeat (first | exact Upd.here _ | apply Upd.there)); done) | fail) rfl ?_
                refine ⟨sF, ?_⟩
                refine gb_take 16 rfl (by decide +kernel) rfl rfl (ys_ev (nw := true) hT rfl sI) sF ?_
                refine gb_only 17 (by decide +kernel) rfl rfl ?_
                refine mv_store_own (α := El) (g := g) (n := n) (c := c) (base := 0) (e := 31) (sz := 1) (enc := E) (L := L1.set (i1) y) hT (i1 - 1) 0 y x rfl rfl (by first | rfl | omega) rfl rfl rfl rfl hy2 (by decide) (fun b h1 h2 => absurd h1 (by omega)) rfl (by first | ((repeat (first | with_reducible exact Upd.here _ | with_reducible apply Upd.there)); done) | ((repeat (first | exact Upd.here _ | apply Upd.there)); done) | fail) rfl ?_
                refine ⟨sF, ?_⟩
                refine gb_nil (by decide +kernel) ?_
                exact ⟨(), (by repeat (first | exact trivial | refine ⟨rfl, ?_⟩)), sA, List.nil_subset _⟩
              refine gball_not (by decide +kernel) ?_
              refine gball_not (by decide +kernel) ?_
              refine gball_not (by decide +kernel) ?_
              refine gball_yes rfl rfl ?_ ?_
              · refine mv_yd rfl ((ys_load_el (S := [own 0 31 1 (.slice (some ⟨g, 0, none⟩) n c) E (L1)]) (o0 := 0) (sz := 1) (enc := E) (L := L1) hT (i1) x 0 rfl rfl rfl (by first | rfl | omega) hx (at_own mE) rfl rfl).ydS sF) ?_
                refine ⟨sF, ?_⟩
                refine gb_only 9 (by decide +kernel) rfl rfl ?_
                refine mv_yd rfl ((ys_load_el (S := [own 0 31 1 (.slice (some ⟨g, 0, none⟩) n c) E (L1)]) (o0 := 0) (sz := 1) (enc := E) (L := L1) hT (i1 - 1) y 0 rfl rfl rfl (by first | rfl | omega) hy (at_own mE) rfl rfl).ydS sF) ?_
                refine ⟨sF, ?_⟩
                refine gb_take 14 rfl (by decide +kernel) rfl rfl (ys_ev (nw := true) hT rfl sI) sF ?_
                refine gb_only 15 (by decide +kernel) rfl rfl ?_
                refine mv_store_own (α := El) (g := g) (n := n) (c := c) (base := 0) (e := 31) (sz := 1) (enc := E) (L := L1) hT (i1) 0 x y rfl rfl (by first | rfl | omega) rfl rfl rfl rfl hx (by decide) (fun b h1 h2 => absurd h1 (by omega)) rfl (by first | ((repeat (first | with_reducible exact Upd.here _ | with_reducible apply Upd.there)); done) | ((repeat (first | exact Upd.here _ | apply Upd.there)); done) | fail) rfl ?_
                refine ⟨sF, ?_⟩
                refine gb_take 16 rfl (by decide +kernel) rfl rfl (ys_ev (nw := true) hT rfl sI) sF ?_
                refine gb_only 17 (by decide +kernel) rfl rfl ?_
                refine mv_store_own (α := El) (g := g) (n := n) (c := c) (base := 0) (e := 31) (sz := 1) (enc := E) (L := L1.set (i1) y) hT (i1 - 1) 0 y x rfl rfl (by first | rfl | omega) rfl rfl rfl rfl hy2 (by decide) (fun b h1 h2 => absurd h1 (by omega)) rfl (by first | ((repeat (first | with_reducible exact Upd.here _ | with_reducible apply Upd.there)); done) | ((repeat (first | exact Upd.here _ | apply Upd.there)); done) | fail) rfl ?_
                refine ⟨sF, ?_⟩
                refine gb_nil (by decide +kernel) ?_
                exact ⟨(), (by repeat (first | exact trivial | refine ⟨rfl, ?_⟩)), sA, List.nil_subset _⟩
              refine gball_not (by decide +kernel) ?_
              refine gball_not (by decide +kernel) ?_
              refine gball_not (by decide +kernel) ?_
              refine gball_not (by decide +kernel) ?_
              exact gball_end (by decide +kernel)
            · rw [← e2]
              apply joinG (fun L4 : List El => L4.toArray = Go.Sort.fixDown fB a i1 L2.toArray ∧ L4.length = n) (fun _ => [(0, .slice (some ⟨g, 0, none⟩) n c), (1, (.int .i64 (a : Int))), (2, (.int .i64 (b : Int))), (6, (.bool false)), (7, (.int .i64 (i1 : Int))), (8, (.int .i64 (j : Int)))]) (fun L4 => [rF g n c L4]) (fun _ => [])
              case r =>
                intro J
                by_cases h2 : 2 ≤ i1 - a
                · (repeat' (first | (refine gG ?_; try intro _) | ((first | refine g_split rfl rfl tE (fun _ => ?_) (fun _ => ?_) | refine gk_cond rfl rfl tE (fun _ => ?_) (fun _ => ?_)) <;> (try first | (exfalso; omega; done) | (rename_i hx; exact absurd rfl hx) | (rename_i hx; cases hx; done)))))
                  refine gk_say 9 (.int .i64 ((i1 - 1 : Nat) : Int)) rfl (by first | (congr 1; done) | (congr 1; omega)) ?_
                  refine gk_loop_sel (fun (q : Nat × (List El)) => match q with | (q, L3) => (q < i1 ∧ Go.Sort.shiftDown fB q L3.toArray = Go.Sort.shiftDown fB (i1 - 1) L2.toArray ∧ L3.length = n)) (fun (q : Nat × (List El)) => match q with | (q, L3) => [(0, .slice (some ⟨g, 0, none⟩) n c), (1, (.int .i64 (a : Int))), (2, (.int .i64 (b : Int))), (6, (.bool false)), (7, (.int .i64 (i1 : Int))), (8, (.int .i64 (j : Int))), (9, (.int .i64 (q : Int)))]) (fun (q : Nat × (List El)) => match q with | (q, L3) => [rF g n c L3]) (fun (q : Nat × (List El)) => match q with | (q, L3) => []) (fun (q : Nat × (List El)) => match q with | (q, L3) => q) (i1 - 1, L2) rfl ⟨by omega, rfl, hl2⟩ (by repeat (first | exact trivial | refine ⟨rfl, ?_⟩)) sA sS ?_
                  rintro ⟨q, L3⟩ hI
                  replace hI : (q < i1 ∧ Go.Sort.shiftDown fB q L3.toArray = Go.Sort.shiftDown fB (i1 - 1) L2.toArray ∧ L3.length = n) := hI
                  change GK _ _ [(0, .slice (some ⟨g, 0, none⟩) n c), (1, (.int .i64 (a : Int))), (2, (.int .i64 (b : Int))), (6, (.bool false)), (7, (.int .i64 (i1 : Int))), (8, (.int .i64 (j : Int))), (9, (.int .i64 (q : Int)))] [rF g n c L3] []
                  obtain ⟨q1, hq3, hl3⟩ := hI
                  by_cases hq : 1 ≤ q
                  · (repeat' (first | (refine gG ?_; try intro _) | ((first | refine g_split rfl rfl tE (fun _ => ?_) (fun _ => ?_) | refine gk_cond rfl rfl tE (fun _ => ?_) (fun _ => ?_)) <;> (try first | (exfalso; omega; done) | (rename_i hx; exact absurd rfl hx) | (rename_i hx; cases hx; done)))))
                    obtain ⟨x2, hx2⟩ : ∃ x2, L3[q]? = some x2 := ⟨_, List.getElem?_eq_getElem (by omega)⟩
                    obtain ⟨y2, hy2a⟩ : ∃ y2, L3[q - 1]? = some y2 := ⟨_, List.getElem?_eq_getElem (by omega)⟩
                    by_cases hl3 : lt x2 y2
                    · skip
                      refine gk_any [0] (Cut _ (fun _ : Unit => [(0, .slice (some ⟨g, 0, none⟩) n c), (1, (.int .i64 (a : Int))), (2, (.int .i64 (b : Int))), (6, (.bool false)), (7, (.int .i64 (i1 : Int))), (8, (.int .i64 (j : Int))), (9, (.int .i64 (q : Int))), (78, .bool false)]) (fun _ => [rF g n c L3]) (fun _ => [])) rfl rfl (by kernel_rfl) ?_ (cut_k fun _ => ?_)
                      · skip
                        refine gb_take 0 rfl (by decide +kernel) rfl rfl (ys_ev (nw := true) hT rfl sI) sF ?_
                        refine gb_take 1 rfl (by decide +kernel) rfl rfl (ys_ev (nw := true) hT rfl sI) sF ?_
                        refine gb_take 2 rfl (by decide +kernel) rfl rfl (ys_ev (nw := true) hT rfl sI) sF ?_
                        refine gb_take 3 rfl (by decide +kernel) rfl rfl (ys_load_el (S := [own 0 31 1 (.slice (some ⟨g, 0, none⟩) n c) E (L3)]) (o0 := 0) (sz := 1) (enc := E) (L := L3) hT (q) x2 0 rfl rfl rfl (by first | rfl | omega) hx2 (at_own mE) rfl rfl) sF ?_
                        refine gb_take 4 rfl (by decide +kernel) rfl rfl (ys_ev (nw := true) hT rfl sI) sF ?_
                        refine gb_take 5 rfl (by decide +kernel) rfl rfl (ys_ev (nw := true) hT rfl sI) sF ?_
                        refine gb_take 6 rfl (by decide +kernel) rfl rfl (ys_ev (nw := true) hT rfl sI) sF ?_
                        refine gb_take 7 rfl (by decide +kernel) rfl rfl (ys_ev (nw := true) hT rfl sI) sF ?_
                        refine gb_take 8 rfl (by decide +kernel) rfl rfl (ys_load_el (S := [own 0 31 1 (.slice (some ⟨g, 0, none⟩) n c) E (L3)]) (o0 := 0) (sz := 1) (enc := E) (L := L3) hT (q - 1) y2 0 rfl rfl rfl (by first | rfl | omega) hy2a (at_own mE) rfl rfl) sF ?_
                        refine gb_only 9 (by decide +kernel) rfl rfl ?_
                        refine mv_call_bel (fun w hk => less_any x2 y2 w) rfl rfl rfl rfl rfl (by kernel_rfl) ?_
                        refine ⟨sF, ?_⟩
                        try (refine gb_say 77 (.bool true) rfl (congrArg Value.bool (tB_true hl3)) ?_)
                        refine gb_take 10 rfl (by decide +kernel) rfl rfl (ys_ev (nw := true) hT rfl sI) sF ?_
                        refine gb_nil (by decide +kernel) ?_
                        exact ⟨(), (by repeat (first | exact trivial | refine ⟨rfl, ?_⟩)), sA, sS⟩
                      · (repeat (refine gG ?_; try intro _))
                        have hy2b : (L3.set (q) y2)[q - 1]? = some y2 := set_other hx2 hy2a
                        refine gk_any [] (Cut _ (fun _ : Unit => [(0, .slice (some ⟨g, 0, none⟩) n c), (1, (.int .i64 (a : Int))), (2, (.int .i64 (b : Int))), (6, (.bool false)), (7, (.int .i64 (i1 : Int))), (8, (.int .i64 (j : Int))), (9, (.int .i64 (q : Int)))]) (fun _ => [rF g n c (swp L3 q (q - 1) x2 y2)]) (fun _ => [])) rfl rfl (by kernel_rfl) ?_ (cut_k fun _ => ?_)
                        · skip
                          refine gb_take 0 rfl (by decide +kernel) rfl rfl (ys_ev (nw := true) hT rfl sI) sF ?_
                          refine gb_take 1 rfl (by decide +kernel) rfl rfl (ys_ev (nw := true) hT rfl sI) sF ?_
                          refine gb_take 2 rfl (by decide +kernel) rfl rfl (ys_ev (nw := true) hT rfl sI) sF ?_
                          refine gb_take 3 rfl (by decide +kernel) rfl rfl (ys_ev (nw := true) hT rfl sI) sF ?_
                          refine gb_take 4 rfl (by decide +kernel) rfl rfl (ys_ev (nw := true) hT rfl sI) sF ?_
                          refine gb_take 5 rfl (by decide +kernel) rfl rfl (ys_ev (nw := true) hT rfl sI) sF ?_
                          refine gb_take 6 rfl (by decide +kernel) rfl rfl (ys_ev (nw := true) hT rfl sI) sF ?_
                          refine gb_take 7 rfl (by decide +kernel) rfl rfl (ys_ev (nw := true) hT rfl sI) sF ?_
                          refine gb_take 8 rfl (by decide +kernel) rfl rfl (ys_ev (nw := true) hT rfl sI) sF ?_
                          refine gb_take 10 rfl (by decide +kernel) rfl rfl (ys_ev (nw := true) hT rfl sI) sF ?_
                          refine gb_take 11 rfl (by decide +kernel) rfl rfl (ys_ev (nw := true) hT rfl sI) sF ?_
                          refine gb_take 12 rfl (by decide +kernel) rfl rfl (ys_ev (nw := true) hT rfl sI) sF ?_
                          refine gb_all (by decide +kernel) ?_
                          refine gball_not (by decide +kernel) ?_
                          refine gball_not (by decide +kernel) ?_
                          refine gball_not (by decide +kernel) ?_
                          refine gball_not (by decide +kernel) ?_
                          refine gball_not (by decide +kernel) ?_
                          refine gball_not (by decide +kernel) ?_
                          refine gball_not (by decide +kernel) ?_
                          refine gball_not (by decide +kernel) ?_
                          refine gball_not (by decide +kernel) ?_
                          refine gball_yes rfl rfl ?_ ?_
                          · refine mv_yd rfl ((ys_load_el (S := [own 0 31 1 (.slice (some ⟨g, 0, none⟩) n c) E (L3)]) (o0 := 0) (sz := 1) (enc := E) (L := L3) hT (q - 1) y2 0 rfl rfl rfl (by first | rfl | omega) hy2a (at_own mE) rfl rfl).ydS sF) ?_
                            refine ⟨sF, ?_⟩
                            refine gb_only 13 (by decide +kernel) rfl rfl ?_
                            refine mv_yd rfl ((ys_load_el (S := [own 0 31 1 (.slice (some ⟨g, 0, none⟩) n c) E (L3)]) (o0 := 0) (sz := 1) (enc := E) (L := L3) hT (q) x2 0 rfl rfl rfl (by first | rfl | omega) hx2 (at_own mE) rfl rfl).ydS sF) ?_
                            refine ⟨sF, ?_⟩
                            refine gb_take 14 rfl (by decide +kernel) rfl rfl (ys_ev (nw := true) hT rfl sI) sF ?_
                            refine gb_only 15 (by decide +kernel) rfl rfl ?_
                            refine mv_store_own (α := El) (g := g) (n := n) (c := c) (base := 0) (e := 31) (sz := 1) (enc := E) (L := L3) hT (q) 0 x2 y2 rfl rfl (by first | rfl | omega) rfl rfl rfl rfl hx2 (by decide) (fun b h1 h2 => absurd h1 (by omega)) rfl (by first | ((repeat (first | with_reducible exact Upd.here _ | with_reducible apply Upd.there)); done) | ((repeat (first | exact Upd.here _ | apply Upd.there)); done) | fail) rfl ?_
                            refine ⟨sF, ?_⟩
                            refine gb_take 16 rfl (by decide +kernel) rfl rfl (ys_ev (nw := true) hT rfl sI) sF ?_
                            refine gb_only 17 (by decide +kernel) rfl rfl ?_
                            refine mv_store_own (α := El) (g := g) (n := n) (c := c) (base := 0) (e := 31) (sz := 1) (enc := E) (L := L3.set (q) y2) hT (q - 1) 0 y2 x2 rfl rfl (by first | rfl | omega) rfl rfl rfl rfl hy2b (by decide) (fun b h1 h2 => absurd h1 (by omega)) rfl (by first | ((repeat (first | with_reducible exact Upd.here _ | with_reducible apply Upd.there)); done) | ((repeat (first | exact Upd.here _ | apply Upd.there)); done) | fail) rfl ?_
                            refine ⟨sF, ?_⟩
                            refine gb_nil (by decide +kernel) ?_
                            exact ⟨(), (by repeat (first | exact trivial | refine ⟨rfl, ?_⟩)), sA, List.nil_subset _⟩
                          refine gball_not (by decide +kernel) ?_
                          refine gball_not (by decide +kernel) ?_
                          refine gball_not (by decide +kernel) ?_
                          refine gball_yes rfl rfl ?_ ?_
                          · refine mv_yd rfl ((ys_load_el (S := [own 0 31 1 (.slice (some ⟨g, 0, none⟩) n c) E (L3)]) (o0 := 0) (sz := 1) (enc := E) (L := L3) hT (q) x2 0 rfl rfl rfl (by first | rfl | omega) hx2 (at_own mE) rfl rfl).ydS sF) ?_
                            refine ⟨sF, ?_⟩
                            refine gb_only 9 (by decide +kernel) rfl rfl ?_
                            refine mv_yd rfl ((ys_load_el (S := [own 0 31 1 (.slice (some ⟨g, 0, none⟩) n c) E (L3)]) (o0 := 0) (sz := 1) (enc := E) (L := L3) hT (q - 1) y2 0 rfl rfl rfl (by first | rfl | omega) hy2a (at_own mE) rfl rfl).ydS sF) ?_
                            refine ⟨sF, ?_⟩
                            refine gb_take 14 rfl (by decide +kernel) rfl rfl (ys_ev (nw := true) hT rfl sI) sF ?_
                            refine gb_only 15 (by decide +kernel) rfl rfl ?_
                            refine mv_store_own (α := El) (g := g) (n := n) (c := c) (base := 0) (e := 31) (sz := 1) (enc := E) (L := L3) hT (q) 0 x2 y2 rfl rfl (by first | rfl | omega) rfl rfl rfl rfl hx2 (by decide) (fun b h1 h2 => absurd h1 (by omega)) rfl (by first | ((repeat (first | with_reducible exact Upd.here _ | with_reducible apply Upd.there)); done) | ((repeat (first | exact Upd.here _ | apply Upd.there)); done) | fail) rfl ?_
                            refine ⟨sF, ?_⟩
                            refine gb_take 16 rfl (by decide +kernel) rfl rfl (ys_ev (nw := true) hT rfl sI) sF ?_
                            refine gb_only 17 (by decide +kernel) rfl rfl ?_
                            refine mv_store_own (α := El) (g := g) (n := n) (c := c) (base := 0) (e := 31) (sz := 1) (enc := E) (L := L3.set (q) y2) hT (q - 1) 0 y2 x2 rfl rfl (by first | rfl | omega) rfl rfl rfl rfl hy2b (by decide) (fun b h1 h2 => absurd h1 (by omega)) rfl (by first | ((repeat (first | with_reducible exact Upd.here _ | with_reducible apply Upd.there)); done) | ((repeat (first | exact Upd.here _ | apply Upd.there)); done) | fail) rfl ?_
                            refine ⟨sF, ?_⟩
                            refine gb_nil (by decide +kernel) ?_
                            exact ⟨(), (by repeat (first | exact trivial | refine ⟨rfl, ?_⟩)), sA, List.nil_subset _⟩
                          refine gball_not (by decide +kernel) ?_
                          refine gball_not (by decide +kernel) ?_
                          refine gball_not (by decide +kernel) ?_
                          refine gball_not (by decide +kernel) ?_
                          exact gball_end (by decide +kernel)
                        · (repeat (refine gG ?_; try intro _))
                          refine gk_say 9 (.int .i64 ((q - 1 : Nat) : Int)) rfl (by first | (congr 1; done) | (congr 1; omega)) ?_
                          refine gk_again_sel rfl (q - 1, swp L3 q (q - 1) x2 y2) ⟨by omega, (sd_go hq hx2 hy2a (tB_true hl3)).symm.trans hq3, swp_len.trans (by omega)⟩ (by dsimp only; omega) (by repeat (first | exact trivial | refine ⟨rfl, ?_⟩)) sA sS
                    · skip
                      refine gk_any [0] (Cut _ (fun _ : Unit => [(0, .slice (some ⟨g, 0, none⟩) n c), (1, (.int .i64 (a : Int))), (2, (.int .i64 (b : Int))), (6, (.bool false)), (7, (.int .i64 (i1 : Int))), (8, (.int .i64 (j : Int))), (9, (.int .i64 (q : Int))), (78, .bool true)]) (fun _ => [rF g n c L3]) (fun _ => [])) rfl rfl (by kernel_rfl) ?_ (cut_k fun _ => ?_)
                      · skip
                        refine gb_take 0 rfl (by decide +kernel) rfl rfl (ys_ev (nw := true) hT rfl sI) sF ?_
                        refine gb_take 1 rfl (by decide +kernel) rfl rfl (ys_ev (nw := true) hT rfl sI) sF ?_
                        refine gb_take 2 rfl (by decide +kernel) rfl rfl (ys_ev (nw := true) hT rfl sI) sF ?_
                        refine gb_take 3 rfl (by decide +kernel) rfl rfl (ys_load_el (S := [own 0 31 1 (.slice (some ⟨g, 0, none⟩) n c) E (L3)]) (o0 := 0) (sz := 1) (enc := E) (L := L3) hT (q) x2 0 rfl rfl rfl (by first | rfl | omega) hx2 (at_own mE) rfl rfl) sF ?_
                        refine gb_take 4 rfl (by decide +kernel) rfl rfl (ys_ev (nw := true) hT rfl sI) sF ?_
                        refine gb_take 5 rfl (by decide +kernel) rfl rfl (ys_ev (nw := true) hT rfl sI) sF ?_
                        refine gb_take 6 rfl (by decide +kernel) rfl rfl (ys_ev (nw := true) hT rfl sI) sF ?_
                        refine gb_take 7 rfl (by decide +kernel) rfl rfl (ys_ev (nw := true) hT rfl sI) sF ?_
                        refine gb_take 8 rfl (by decide +kernel) rfl rfl (ys_load_el (S := [own 0 31 1 (.slice (some ⟨g, 0, none⟩) n c) E (L3)]) (o0 := 0) (sz := 1) (enc := E) (L := L3) hT (q - 1) y2 0 rfl rfl rfl (by first | rfl | omega) hy2a (at_own mE) rfl rfl) sF ?_
                        refine gb_only 9 (by decide +kernel) rfl rfl ?_
                        refine mv_call_bel (fun w hk => less_any x2 y2 w) rfl rfl rfl rfl rfl (by kernel_rfl) ?_
                        refine ⟨sF, ?_⟩
                        try (refine gb_say 77 (.bool false) rfl (congrArg Value.bool (tB_false hl3)) ?_)
                        refine gb_take 10 rfl (by decide +kernel) rfl rfl (ys_ev (nw := true) hT rfl sI) sF ?_
                        refine gb_nil (by decide +kernel) ?_
                        exact ⟨(), (by repeat (first | exact trivial | refine ⟨rfl, ?_⟩)), sA, sS⟩
                      · refine gk_cond_t rfl rfl ?_
                        refine gk_region rfl ?_
                        have hJ := J.out L3 ⟨by rw [Go.Sort.fixDown, if_pos h2]; exact (sd_stop hq hx2 hy2a (tB_false hl3)).symm.trans hq3, by omega⟩
                        try dsimp only at hJ
                        refine g_wk (by repeat (first | exact trivial | refine ⟨rfl, ?_⟩)) sA sS hJ
                  · (repeat (refine gG ?_; try intro _))
                    refine gk_cond_f rfl (congrArg some (congrArg Value.bool (tB_false (by omega)))) ?_
                    refine gk_region rfl ?_
                    have hJ := J.out L3 ⟨by rw [Go.Sort.fixDown, if_pos h2]; obtain rfl : q = 0 := (by omega); exact hq3, hl3⟩
                    try dsimp only at hJ
                    refine g_wk (by repeat (first | exact trivial | refine ⟨rfl, ?_⟩)) sA sS hJ
                · (repeat (refine gG ?_; try intro _))
                  refine gk_cond_f rfl (congrArg some (congrArg Value.bool (tB_false (by omega)))) ?_
                  refine gk_region rfl ?_
                  have hJ := J.out L2 ⟨by rw [Go.Sort.fixDown, if_neg h2], hl2⟩
                  try dsimp only at hJ
                  refine g_wk (by repeat (first | exact trivial | refine ⟨rfl, ?_⟩)) sA sS hJ
              case g =>
                rintro L4 ⟨h4, hl4⟩
                dsimp only
                by_cases h3 : 2 ≤ b - i1
                · (repeat' (first | (refine gG ?_; try intro _) | ((first | refine g_split rfl rfl tE (fun _ => ?_) (fun _ => ?_) | refine gk_cond rfl rfl tE (fun _ => ?_) (fun _ => ?_)) <;> (try first | (exfalso; omega; done) | (rename_i hx; exact absurd rfl hx) | (rename_i hx; cases hx; done)))))
                  refine gk_say 10 (.int .i64 ((i1 + 1 : Nat) : Int)) rfl (by first | (congr 1; done) | (congr 1; omega)) ?_
                  refine gk_loop_sel (fun (q : Nat × (List El)) => match q with | (q, L5) => (i1 < q ∧ q ≤ b ∧ Go.Sort.shiftUp fB b q L5.toArray = Go.Sort.shiftUp fB b (i1 + 1) L4.toArray ∧ L5.length = n)) (fun (q : Nat × (List El)) => match q with | (q, L5) => [(0, .slice (some ⟨g, 0, none⟩) n c), (1, (.int .i64 (a : Int))), (2, (.int .i64 (b : Int))), (6, (.bool false)), (7, (.int .i64 (i1 : Int))), (8, (.int .i64 (j : Int))), (10, (.int .i64 (q : Int)))]) (fun (q : Nat × (List El)) => match q with | (q, L5) => [rF g n c L5]) (fun (q : Nat × (List El)) => match q with | (q, L5) => []) (fun (q : Nat × (List El)) => match q with | (q, L5) => b - q) (i1 + 1, L4) rfl ⟨by omega, by omega, rfl, hl4⟩ (by repeat (first | exact trivial | refine ⟨rfl, ?_⟩)) sA sS ?_
                  rintro ⟨q, L5⟩ hI
                  replace hI : (i1 < q ∧ q ≤ b ∧ Go.Sort.shiftUp fB b q L5.toArray = Go.Sort.shiftUp fB b (i1 + 1) L4.toArray ∧ L5.length = n) := hI
                  change GK _ _ [(0, .slice (some ⟨g, 0, none⟩) n c), (1, (.int .i64 (a : Int))), (2, (.int .i64 (b : Int))), (6, (.bool false)), (7, (.int .i64 (i1 : Int))), (8, (.int .i64 (j : Int))), (10, (.int .i64 (q : Int)))] [rF g n c L5] []
                  obtain ⟨q1, q2, hq5, hl5⟩ := hI
                  by_cases hq : q < b
                  · (repeat' (first | (refine gG ?_; try intro _) | ((first | refine g_split rfl rfl tE (fun _ => ?_) (fun _ => ?_) | refine gk_cond rfl rfl tE (fun _ => ?_) (fun _ => ?_)) <;> (try first | (exfalso; omega; done) | (rename_i hx; exact absurd rfl hx) | (rename_i hx; cases hx; done)))))
                    obtain ⟨x2, hx2⟩ : ∃ x2, L5[q]? = some x2 := ⟨_, List.getElem?_eq_getElem (by omega)⟩
                    obtain ⟨y2, hy2a⟩ : ∃ y2, L5[q - 1]? = some y2 := ⟨_, List.getElem?_eq_getElem (by omega)⟩
                    by_cases hl3 : lt x2 y2
                    · skip
                      refine gk_any [0] (Cut _ (fun _ : Unit => [(0, .slice (some ⟨g, 0, none⟩) n c), (1, (.int .i64 (a : Int))), (2, (.int .i64 (b : Int))), (6, (.bool false)), (7, (.int .i64 (i1 : Int))), (8, (.int .i64 (j : Int))), (10, (.int .i64 (q : Int))), (116, .bool false)]) (fun _ => [rF g n c L5]) (fun _ => [])) rfl rfl (by kernel_rfl) ?_ (cut_k fun _ => ?_)
                      · skip
                        refine gb_take 0 rfl (by decide +kernel) rfl rfl (ys_ev (nw := true) hT rfl sI) sF ?_
                        refine gb_take 1 rfl (by decide +kernel) rfl rfl (ys_ev (nw := true) hT rfl sI) sF ?_
                        refine gb_take 2 rfl (by decide +kernel) rfl rfl (ys_ev (nw := true) hT rfl sI) sF ?_
                        refine gb_take 3 rfl (by decide +kernel) rfl rfl (ys_load_el (S := [own 0 31 1 (.slice (some ⟨g, 0, none⟩) n c) E (L5)]) (o0 := 0) (sz := 1) (enc := E) (L := L5) hT (q) x2 0 rfl rfl rfl (by first | rfl | omega) hx2 (at_own mE) rfl rfl) sF ?_
                        refine gb_take 4 rfl (by decide +kernel) rfl rfl (ys_ev (nw := true) hT rfl sI) sF ?_
                        refine gb_take 5 rfl (by decide +kernel) rfl rfl (ys_ev (nw := true) hT rfl sI) sF ?_
                        refine gb_take 6 rfl (by decide +kernel) rfl rfl (ys_ev (nw := true) hT rfl sI) sF ?_
                        refine gb_take 7 rfl (by decide +kernel) rfl rfl (ys_ev (nw := true) hT rfl sI) sF ?_
                        refine gb_take 8 rfl (by decide +kernel) rfl rfl (ys_load_el (S := [own 0 31 1 (.slice (some ⟨g, 0, none⟩) n c) E (L5)]) (o0 := 0) (sz := 1) (enc := E) (L := L5) hT (q - 1) y2 0 rfl rfl rfl (by first | rfl | omega) hy2a (at_own mE) rfl rfl) sF ?_
                        refine gb_only 9 (by decide +kernel) rfl rfl ?_
                        refine mv_call_bel (fun w hk => less_any x2 y2 w) rfl rfl rfl rfl rfl (by kernel_rfl) ?_
                        refine ⟨sF, ?_⟩
                        try (refine gb_say 115 (.bool true) rfl (congrArg Value.bool (tB_true hl3)) ?_)
                        refine gb_take 10 rfl (by decide +kernel) rfl rfl (ys_ev (nw := true) hT rfl sI) sF ?_
                        refine gb_nil (by decide +kernel) ?_
                        exact ⟨(), (by repeat (first | exact trivial | refine ⟨rfl, ?_⟩)), sA, sS⟩
                      · (repeat (refine gG ?_; try intro _))
                        have hy2b : (L5.set (q) y2)[q - 1]? = some y2 := set_other hx2 hy2a
                        refine gk_any [] (Cut _ (fun _ : Unit => [(0, .slice (some ⟨g, 0, none⟩) n c), (1, (.int .i64 (a : Int))), (2, (.int .i64 (b : Int))), (6, (.bool false)), (7, (.int .i64 (i1 : Int))), (8, (.int .i64 (j : Int))), (10, (.int .i64 (q : Int)))]) (fun _ => [rF g n c (swp L5 q (q - 1) x2 y2)]) (fun _ => [])) rfl rfl (by kernel_rfl) ?_ (cut_k fun _ => ?_)
                        · skip
                          refine gb_take 0 rfl (by decide +kernel) rfl rfl (ys_ev (nw := true) hT rfl sI) sF ?_
                          refine gb_take 1 rfl (by decide +kernel) rfl rfl (ys_ev (nw := true) hT rfl sI) sF ?_
                          refine gb_take 2 rfl (by decide +kernel) rfl rfl (ys_ev (nw := true) hT rfl sI) sF ?_
                          refine gb_take 3 rfl (by decide +kernel) rfl rfl (ys_ev (nw := true) hT rfl sI) sF ?_
                          refine gb_take 4 rfl (by decide +kernel) rfl rfl (ys_ev (nw := true) hT rfl sI) sF ?_
                          refine gb_take 5 rfl (by decide +kernel) rfl rfl (ys_ev (nw := true) hT rfl sI) sF ?_
                          refine gb_take 6 rfl (by decide +kernel) rfl rfl (ys_ev (nw := true) hT rfl sI) sF ?_
                          refine gb_take 7 rfl (by decide +kernel) rfl rfl (ys_ev (nw := true) hT rfl sI) sF ?_
                          refine gb_take 8 rfl (by decide +kernel) rfl rfl (ys_ev (nw := true) hT rfl sI) sF ?_
                          refine gb_take 10 rfl (by decide +kernel) rfl rfl (ys_ev (nw := true) hT rfl sI) sF ?_
                          refine gb_take 11 rfl (by decide +kernel) rfl rfl (ys_ev (nw := true) hT rfl sI) sF ?_
                          refine gb_take 12 rfl (by decide +kernel) rfl rfl (ys_ev (nw := true) hT rfl sI) sF ?_
                          refine gb_all (by decide +kernel) ?_
                          refine gball_not (by decide +kernel) ?_
                          refine gball_not (by decide +kernel) ?_
                          refine gball_not (by decide +kernel) ?_
                          refine gball_not (by decide +kernel) ?_
                          refine gball_not (by decide +kernel) ?_
                          refine gball_not (by decide +kernel) ?_
                          refine gball_not (by decide +kernel) ?_
                          refine gball_not (by decide +kernel) ?_
                          refine gball_not (by decide +kernel) ?_
                          refine gball_yes rfl rfl ?_ ?_
                          · refine mv_yd rfl ((ys_load_el (S := [own 0 31 1 (.slice (some ⟨g, 0, none⟩) n c) E (L5)]) (o0 := 0) (sz := 1) (enc := E) (L := L5) hT (q - 1) y2 0 rfl rfl rfl (by first | rfl | omega) hy2a (at_own mE) rfl rfl).ydS sF) ?_
                            refine ⟨sF, ?_⟩
                            refine gb_only 13 (by decide +kernel) rfl rfl ?_
                            refine mv_yd rfl ((ys_load_el (S := [own 0 31 1 (.slice (some ⟨g, 0, none⟩) n c) E (L5)]) (o0 := 0) (sz := 1) (enc := E) (L := L5) hT (q) x2 0 rfl rfl rfl (by first | rfl | omega) hx2 (at_own mE) rfl rfl).ydS sF) ?_
                            refine ⟨sF, ?_⟩
                            refine gb_take 14 rfl (by decide +kernel) rfl rfl (ys_ev (nw := true) hT rfl sI) sF ?_
                            refine gb_only 15 (by decide +kernel) rfl rfl ?_
                            refine mv_store_own (α := El) (g := g) (n := n) (c := c) (base := 0) (e := 31) (sz := 1) (enc := E) (L := L5) hT (q) 0 x2 y2 rfl rfl (by first | rfl | omega) rfl rfl rfl rfl hx2 (by decide) (fun b h1 h2 => absurd h1 (by omega)) rfl (by first | ((repeat (first | with_reducible exact Upd.here _ | with_reducible apply Upd.there)); done) | ((repeat (first | exact Upd.here _ | apply Upd.there)); done) | fail) rfl ?_
                            refine ⟨sF, ?_⟩
                            refine gb_take 16 rfl (by decide +kernel) rfl rfl (ys_ev (nw := true) hT rfl sI) sF ?_
                            refine gb_only 17 (by decide +kernel) rfl rfl ?_
                            refine mv_store_own (α := El) (g := g) (n := n) (c := c) (base := 0) (e := 31) (sz := 1) (enc := E) (L := L5.set (q) y2) hT (q - 1) 0 y2 x2 rfl rfl (by first | rfl | omega) rfl rfl rfl rfl hy2b (by decide) (fun b h1 h2 => absurd h1 (by omega)) rfl (by first | ((repeat (first | with_reducible exact Upd.here _ | with_reducible apply Upd.there)); done) | ((repeat (first | exact Upd.here _ | apply Upd.there)); done) | fail) rfl ?_
                            refine ⟨sF, ?_⟩
                            refine gb_nil (by decide +kernel) ?_
                            exact ⟨(), (by repeat (first | exact trivial | refine ⟨rfl, ?_⟩)), sA, List.nil_subset _⟩
                          refine gball_not (by decide +kernel) ?_
                          refine gball_not (by decide +kernel) ?_
                          refine gball_not (by decide +kernel) ?_
                          refine gball_yes rfl rfl ?_ ?_
                          · refine mv_yd rfl ((ys_load_el (S := [own 0 31 1 (.slice (some ⟨g, 0, none⟩) n c) E (L5)]) (o0 := 0) (sz := 1) (enc := E) (L := L5) hT (q) x2 0 rfl rfl rfl (by first | rfl | omega) hx2 (at_own mE) rfl rfl).ydS sF) ?_
                            refine ⟨sF, ?_⟩
                            refine gb_only 9 (by decide +kernel) rfl rfl ?_
                            refine mv_yd rfl ((ys_load_el (S := [own 0 31 1 (.slice (some ⟨g, 0, none⟩) n c) E (L5)]) (o0 := 0) (sz := 1) (enc := E) (L := L5) hT (q - 1) y2 0 rfl rfl rfl (by first | rfl | omega) hy2a (at_own mE) rfl rfl).ydS sF) ?_
                            refine ⟨sF, ?_⟩
                            refine gb_take 14 rfl (by decide +kernel) rfl rfl (ys_ev (nw := true) hT rfl sI) sF ?_
                            refine gb_only 15 (by decide +kernel) rfl rfl ?_
                            refine mv_store_own (α := El) (g := g) (n := n) (c := c) (base := 0) (e := 31) (sz := 1) (enc := E) (L := L5) hT (q) 0 x2 y2 rfl rfl (by first | rfl | omega) rfl rfl rfl rfl hx2 (by decide) (fun b h1 h2 => absurd h1 (by omega)) rfl (by first | ((repeat (first | with_reducible exact Upd.here _ | with_reducible apply Upd.there)); done) | ((repeat (first | exact Upd.here _ | apply Upd.there)); done) | fail) rfl ?_
                            refine ⟨sF, ?_⟩
                            refine gb_take 16 rfl (by decide +kernel) rfl rfl (ys_ev (nw := true) hT rfl sI) sF ?_
                            refine gb_only 17 (by decide +kernel) rfl rfl ?_
                            refine mv_store_own (α := El) (g := g) (n := n) (c := c) (base := 0) (e := 31) (sz := 1) (enc := E) (L := L5.set (q) y2) hT (q - 1) 0 y2 x2 rfl rfl (by first | rfl | omega) rfl rfl rfl rfl hy2b (by decide) (fun b h1 h2 => absurd h1 (by omega)) rfl (by first | ((repeat (first | with_reducible exact Upd.here _ | with_reducible apply Upd.there)); done) | ((repeat (first | exact Upd.here _ | apply Upd.there)); done) | fail) rfl ?_
                            refine ⟨sF, ?_⟩
                            refine gb_nil (by decide +kernel) ?_
                            exact ⟨(), (by repeat (first | exact trivial | refine ⟨rfl, ?_⟩)), sA, List.nil_subset _⟩
                          refine gball_not (by decide +kernel) ?_
                          refine gball_not (by decide +kernel) ?_
                          refine gball_not (by decide +kernel) ?_
                          refine gball_not (by decide +kernel) ?_
                          exact gball_end (by decide +kernel)
                        · (repeat (refine gG ?_; try intro _))
                          refine gk_say 10 (.int .i64 ((q + 1 : Nat) : Int)) rfl (by first | (congr 1; done) | (congr 1; omega)) ?_
                          refine gk_again_sel rfl (q + 1, swp L5 q (q - 1) x2 y2) ⟨by omega, by omega, (su_go hq hx2 hy2a (tB_true hl3)).symm.trans hq5, swp_len.trans (by omega)⟩ (by dsimp only; omega) (by repeat (first | exact trivial | refine ⟨rfl, ?_⟩)) sA sS
                    · skip
                      refine gk_any [0] (Cut _ (fun _ : Unit => [(0, .slice (some ⟨g, 0, none⟩) n c), (1, (.int .i64 (a : Int))), (2, (.int .i64 (b : Int))), (6, (.bool false)), (7, (.int .i64 (i1 : Int))), (8, (.int .i64 (j : Int))), (10, (.int .i64 (q : Int))), (116, .bool true)]) (fun _ => [rF g n c L5]) (fun _ => [])) rfl rfl (by kernel_rfl) ?_ (cut_k fun _ => ?_)
                      · skip
                        refine gb_take 0 rfl (by decide +kernel) rfl rfl (ys_ev (nw := true) hT rfl sI) sF ?_
                        refine gb_take 1 rfl (by decide +kernel) rfl rfl (ys_ev (nw := true) hT rfl sI) sF ?_
                        refine gb_take 2 rfl (by decide +kernel) rfl rfl (ys_ev (nw := true) hT rfl sI) sF ?_
                        refine gb_take 3 rfl (by decide +kernel) rfl rfl (ys_load_el (S := [own 0 31 1 (.slice (some ⟨g, 0, none⟩) n c) E (L5)]) (o0 := 0) (sz := 1) (enc := E) (L := L5) hT (q) x2 0 rfl rfl rfl (by first | rfl | omega) hx2 (at_own mE) rfl rfl) sF ?_
                        refine gb_take 4 rfl (by decide +kernel) rfl rfl (ys_ev (nw := true) hT rfl sI) sF ?_
                        refine gb_take 5 rfl (by decide +kernel) rfl rfl (ys_ev (nw := true) hT rfl sI) sF ?_
                        refine gb_take 6 rfl (by decide +kernel) rfl rfl (ys_ev (nw := true) hT rfl sI) sF ?_
                        refine gb_take 7 rfl (by decide +kernel) rfl rfl (ys_ev (nw := true) hT rfl sI) sF ?_
                        refine gb_take 8 rfl (by decide +kernel) rfl rfl (ys_load_el (S := [own 0 31 1 (.slice (some ⟨g, 0, none⟩) n c) E (L5)]) (o0 := 0) (sz := 1) (enc := E) (L := L5) hT (q - 1) y2 0 rfl rfl rfl (by first | rfl | omega) hy2a (at_own mE) rfl rfl) sF ?_
                        refine gb_only 9 (by decide +kernel) rfl rfl ?_
                        refine mv_call_bel (fun w hk => less_any x2 y2 w) rfl rfl rfl rfl rfl (by kernel_rfl) ?_
                        refine ⟨sF, ?_⟩
                        try (refine gb_say 115 (.bool false) rfl (congrArg Value.bool (tB_false hl3)) ?_)
                        refine gb_take 10 rfl (by decide +kernel) rfl rfl (ys_ev (nw := true) hT rfl sI) sF ?_
                        refine gb_nil (by decide +kernel) ?_
                        exact ⟨(), (by repeat (first | exact trivial | refine ⟨rfl, ?_⟩)), sA, sS⟩
                      · (repeat (refine gG ?_; try intro _))
                        refine gk_say 8 (.int .i64 ((j + 1 : Nat) : Int)) rfl (by first | (congr 1; done) | (congr 1; omega)) ?_
                        refine gk_again_sel rfl (j + 1, i1, L5) ⟨by omega, (by show a < i1; omega), (by show i1 ≤ b; omega), by rw [show 5 - (j + 1) = s by omega, ← hp]; exact (par_step hsc2 (by omega) h50 (by rw [e2]; exact (arr_swp hx hy).symm) h4 (by rw [Go.Sort.fixUp, if_pos h3]; exact (su_stop hq hx2 hy2a (tB_false hl3)).symm.trans hq5)).symm, by omega⟩ (by dsimp only; omega) (by repeat (first | exact trivial | refine ⟨rfl, ?_⟩)) sA sS
                  · (repeat' (first | (refine gG ?_; try intro _) | ((first | refine g_split rfl rfl tE (fun _ => ?_) (fun _ => ?_) | refine gk_cond rfl rfl tE (fun _ => ?_) (fun _ => ?_)) <;> (try first | (exfalso; omega; done) | (rename_i hx; exact absurd rfl hx) | (rename_i hx; cases hx; done)))))
                    refine gk_say 8 (.int .i64 ((j + 1 : Nat) : Int)) rfl (by first | (congr 1; done) | (congr 1; omega)) ?_
                    refine gk_again_sel rfl (j + 1, i1, L5) ⟨by omega, (by show a < i1; omega), (by show i1 ≤ b; omega), by rw [show 5 - (j + 1) = s by omega, ← hp]; exact (par_step hsc2 (by omega) h50 (by rw [e2]; exact (arr_swp hx hy).symm) h4 (by rw [Go.Sort.fixUp, if_pos h3]; exact (su_end hq).symm.trans hq5)).symm, by omega⟩ (by dsimp only; omega) (by repeat (first | exact trivial | refine ⟨rfl, ?_⟩)) sA sS
                · (repeat' (first | (refine gG ?_; try intro _) | ((first | refine g_split rfl rfl tE (fun _ => ?_) (fun _ => ?_) | refine gk_cond rfl rfl tE (fun _ => ?_) (fun _ => ?_)) <;> (try first | (exfalso; omega; done) | (rename_i hx; exact absurd rfl hx) | (rename_i hx; cases hx; done)))))
                  refine gk_say 8 (.int .i64 ((j + 1 : Nat) : Int)) rfl (by first | (congr 1; done) | (congr 1; omega)) ?_
                  refine gk_again_sel rfl (j + 1, i1, L4) ⟨by omega, (by show a < i1; omega), (by show i1 ≤ b; omega), by rw [show 5 - (j + 1) = s by omega, ← hp]; exact (par_step hsc2 (by omega) h50 (by rw [e2]; exact (arr_swp hx hy).symm) h4 (by rw [Go.Sort.fixUp, if_neg h3])).symm, by omega⟩ (by dsimp only; omega) (by repeat (first | exact trivial | refine ⟨rfl, ?_⟩)) sA sS
      · skip
        refine gk_any [0] (Cut _ (fun _ : Unit => [(0, .slice (some ⟨g, 0, none⟩) n c), (1, (.int .i64 (a : Int))), (2, (.int .i64 (b : Int))), (6, (.bool false)), (7, (.int .i64 (i1 : Int))), (8, (.int .i64 (j : Int))), (32, .bool true)]) (fun _ => [rF g n c L1]) (fun _ => [])) rfl rfl (by kernel_rfl) ?_ (cut_k fun _ => ?_)
        · skip
          refine gb_take 0 rfl (by decide +kernel) rfl rfl (ys_ev (nw := true) hT rfl sI) sF ?_
          refine gb_take 1 rfl (by decide +kernel) rfl rfl (ys_ev (nw := true) hT rfl sI) sF ?_
          refine gb_take 2 rfl (by decide +kernel) rfl rfl (ys_ev (nw := true) hT rfl sI) sF ?_
          refine gb_take 3 rfl (by decide +kernel) rfl rfl (ys_ev (nw := true) hT rfl sI) sF ?_
          try (refine gb_say 20 (.bool true) rfl (congrArg Value.bool (tB_true (by omega))) ?_)
          first | refine gb_take 4 rfl (by decide +kernel) rfl rfl (ys_ev (nw := true) hT rfl sI) sF ?_ | refine gb_skip 4 rfl (by decide +kernel) rfl rfl sF ?_
          first | refine gb_take 5 rfl (by decide +kernel) rfl rfl (ys_ev (nw := true) hT rfl sI) sF ?_ | refine gb_skip 5 rfl (by decide +kernel) rfl rfl sF ?_
          first | refine gb_take 6 rfl (by decide +kernel) rfl rfl (ys_ev (nw := true) hT rfl sI) sF ?_ | refine gb_skip 6 rfl (by decide +kernel) rfl rfl sF ?_
          first | refine gb_take 7 rfl (by decide +kernel) rfl rfl (ys_load_el (S := [own 0 31 1 (.slice (some ⟨g, 0, none⟩) n c) E (L1)]) (o0 := 0) (sz := 1) (enc := E) (L := L1) hT (i1) x 0 rfl rfl rfl (by first | rfl | omega) hx (at_own mE) rfl rfl) sF ?_ | refine gb_skip 7 rfl (by decide +kernel) rfl rfl sF ?_
          first | refine gb_take 8 rfl (by decide +kernel) rfl rfl (ys_ev (nw := true) hT rfl sI) sF ?_ | refine gb_skip 8 rfl (by decide +kernel) rfl rfl sF ?_
          first | refine gb_take 9 rfl (by decide +kernel) rfl rfl (ys_ev (nw := true) hT rfl sI) sF ?_ | refine gb_skip 9 rfl (by decide +kernel) rfl rfl sF ?_
          first | refine gb_take 10 rfl (by decide +kernel) rfl rfl (ys_ev (nw := true) hT rfl sI) sF ?_ | refine gb_skip 10 rfl (by decide +kernel) rfl rfl sF ?_
          first | refine gb_take 11 rfl (by decide +kernel) rfl rfl (ys_ev (nw := true) hT rfl sI) sF ?_ | refine gb_skip 11 rfl (by decide +kernel) rfl rfl sF ?_
          first | refine gb_take 12 rfl (by decide +kernel) rfl rfl (ys_load_el (S := [own 0 31 1 (.slice (some ⟨g, 0, none⟩) n c) E (L1)]) (o0 := 0) (sz := 1) (enc := E) (L := L1) hT (i1 - 1) y 0 rfl rfl rfl (by first | rfl | omega) hy (at_own mE) rfl rfl) sF ?_ | refine gb_skip 12 rfl (by decide +kernel) rfl rfl sF ?_
          first | refine gb_skip 13 rfl (by decide +kernel) rfl rfl sF ?_ | (refine gb_only 13 (by decide +kernel) rfl rfl ?_; (refine mv_call_bel (fun w hk => less_any x y w) rfl rfl rfl rfl rfl (by kernel_rfl) ?_); refine ⟨sF, ?_⟩)
          try (refine gb_say 30 (.bool false) rfl (congrArg Value.bool (tB_false hl)) ?_)
          first | refine gb_take 14 rfl (by decide +kernel) rfl rfl (ys_ev (nw := true) hT rfl sI) sF ?_ | refine gb_skip 14 rfl (by decide +kernel) rfl rfl sF ?_
          refine gb_take 15 rfl (by decide +kernel) rfl rfl (ys_ev (nw := true) hT rfl sI) sF ?_
          refine gb_nil (by decide +kernel) ?_
          exact ⟨(), (by repeat (first | exact trivial | refine ⟨rfl, ?_⟩)), sA, sS⟩
        · (repeat (refine gG ?_; try intro _))
          refine gk_say 7 (.int .i64 ((i1 + 1 : Nat) : Int)) rfl (by first | (congr 1; done) | (congr 1; omega)) ?_
          refine gk_again_sel rfl (i1 + 1, ()) ⟨by omega, by omega, (scan_go hi hx hy (tB_false hl)).symm.trans hsc⟩ (by dsimp only; omega) (by repeat (first | exact trivial | refine ⟨rfl, ?_⟩)) sA sS
    · skip
      refine gk_any [0] (Cut _ (fun _ : Unit => [(0, .slice (some ⟨g, 0, none⟩) n c), (1, (.int .i64 (a : Int))), (2, (.int .i64 (b : Int))), (6, (.bool false)), (7, (.int .i64 (i1 : Int))), (8, (.int .i64 (j : Int))), (32, .bool false)]) (fun _ => [rF g n c L1]) (fun _ => [])) rfl rfl (by kernel_rfl) ?_ (cut_k fun _ => ?_)
      · skip
        refine gb_take 0 rfl (by decide +kernel) rfl rfl (ys_ev (nw := true) hT rfl sI) sF ?_
        refine gb_take 1 rfl (by decide +kernel) rfl rfl (ys_ev (nw := true) hT rfl sI) sF ?_
        refine gb_take 2 rfl (by decide +kernel) rfl rfl (ys_ev (nw := true) hT rfl sI) sF ?_
        refine gb_take 3 rfl (by decide +kernel) rfl rfl (ys_ev (nw := true) hT rfl sI) sF ?_
        try (refine gb_say 20 (.bool false) rfl (congrArg Value.bool (tB_false (by omega))) ?_)
        first | refine gb_take 4 rfl (by decide +kernel) rfl rfl (ys_ev (nw := true) hT rfl sI) sF ?_ | refine gb_skip 4 rfl (by decide +kernel) rfl rfl sF ?_
        first | refine gb_take 5 rfl (by decide +kernel) rfl rfl (ys_ev (nw := true) hT rfl sI) sF ?_ | refine gb_skip 5 rfl (by decide +kernel) rfl rfl sF ?_
        first | refine gb_take 6 rfl (by decide +kernel) rfl rfl (ys_ev (nw := true) hT rfl sI) sF ?_ | refine gb_skip 6 rfl (by decide +kernel) rfl rfl sF ?_
        first | refine gb_take 7 rfl (by decide +kernel) rfl rfl (by first | exact ys_blk hT rfl rfl mE rfl rfl | exact ys_row hT rfl rfl mE rfl rfl | exact ys_row0 hT rfl rfl mE rfl rfl) sF ?_ | refine gb_skip 7 rfl (by decide +kernel) rfl rfl sF ?_
        first | refine gb_take 8 rfl (by decide +kernel) rfl rfl (ys_ev (nw := true) hT rfl sI) sF ?_ | refine gb_skip 8 rfl (by decide +kernel) rfl rfl sF ?_
        first | refine gb_take 9 rfl (by decide +kernel) rfl rfl (ys_ev (nw := true) hT rfl sI) sF ?_ | refine gb_skip 9 rfl (by decide +kernel) rfl rfl sF ?_
        first | refine gb_take 10 rfl (by decide +kernel) rfl rfl (ys_ev (nw := true) hT rfl sI) sF ?_ | refine gb_skip 10 rfl (by decide +kernel) rfl rfl sF ?_
        first | refine gb_take 11 rfl (by decide +kernel) rfl rfl (ys_ev (nw := true) hT rfl sI) sF ?_ | refine gb_skip 11 rfl (by decide +kernel) rfl rfl sF ?_
        first | refine gb_take 12 rfl (by decide +kernel) rfl rfl (by first | exact ys_blk hT rfl rfl mE rfl rfl | exact ys_row hT rfl rfl mE rfl rfl | exact ys_row0 hT rfl rfl mE rfl rfl) sF ?_ | refine gb_skip 12 rfl (by decide +kernel) rfl rfl sF ?_
        first | refine gb_skip 13 rfl (by decide +kernel) rfl rfl sF ?_ | (refine gb_only 13 (by decide +kernel) rfl rfl ?_; (skip); refine ⟨sF, ?_⟩)
        first | refine gb_take 14 rfl (by decide +kernel) rfl rfl (ys_ev (nw := true) hT rfl sI) sF ?_ | refine gb_skip 14 rfl (by decide +kernel) rfl rfl sF ?_
        refine gb_take 15 rfl (by decide +kernel) rfl rfl (ys_ev (nw := true) hT rfl sI) sF ?_
        refine gb_nil (by decide +kernel) ?_
        exact ⟨(), (by repeat (first | exact trivial | refine ⟨rfl, ?_⟩)), sA, sS⟩
      · (repeat' (first | (refine gG ?_; try intro _) | ((first | refine g_split rfl rfl tE (fun _ => ?_) (fun _ => ?_) | refine gk_cond rfl rfl tE (fun _ => ?_) (fun _ => ?_)) <;> (try first | (exfalso; omega; done) | (rename_i hx; exact absurd rfl hx) | (rename_i hx; cases hx; done)))))
        refine gk_ret hT rfl rfl (.tmp rfl .nil) (fun w' hk => ?_)
        exact RetM.mk ((L1, true) : List El × Bool) (part_seg ord hab (by omega) hpre (hp.symm.trans (par_true (by rw [← hsc, scan_end hi]; omega)))) rfl hk (fun b hb => (finE_mem h.2 b).1 hb) mE
  · (repeat' (first | (refine gG ?_; try intro _) | ((first | refine g_split rfl rfl tE (fun _ => ?_) (fun _ => ?_) | refine gk_cond rfl rfl tE (fun _ => ?_) (fun _ => ?_)) <;> (try first | (exfalso; omega; done) | (rename_i hx; exact absurd rfl hx) | (rename_i hx; cases hx; done)))))
    refine gk_ret hT rfl rfl (.tmp rfl .nil) (fun w' hk => ?_)
    exact RetM.mk ((L1, false) : List El × Bool) (part_seg ord hab (by omega) hpre (hp.symm.trans (by rw [show 5 - j = 0 by omega]; rfl))) rfl hk (fun b hb => (finE_mem h.2 b).1 hb) mE
end Go.Proofs.Ytgpfedmfbkhhcaa.SoW

