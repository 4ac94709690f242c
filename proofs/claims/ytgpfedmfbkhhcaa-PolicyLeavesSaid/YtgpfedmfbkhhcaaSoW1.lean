/- Sorting at a type: comparisons, insertion, the way back, the pivot (uint64). -/
import Derived.Test.YtgpfedmfbkhhcaaGxX
import Derived.Test.YtgpfedmfbkhhcaaGxY
import Derived.Test.YtgpfedmfbkhhcaaPq5
namespace Go.Proofs.Ytgpfedmfbkhhcaa.SoW
open Go.RowKit Mem Gx Hp Pq
set_option linter.unusedVariables false
set_option linter.unusedSimpArgs false
set_option maxRecDepth 100000
set_option maxHeartbeats 1000000
abbrev El := Int
abbrev E : El → Nat → Value := IE .u64
abbrev lt : El → El → Prop := fun x y => x < y
abbrev rF (g n c : Nat) (L : List El) : Fact := own 0 31 1 (.slice (some ⟨g, 0, none⟩) n c) E L
theorem ord : LtO lt := ⟨fun {x y} h => Int.not_lt.2 (Int.le_of_lt h), fun {x y z} h1 h2 => Int.not_lt.2 (Int.le_trans (Int.not_lt.1 h1) (Int.not_lt.1 h2))⟩
theorem set_other {L : List El} {i j : Nat} {x y : El} (hx : L[i]? = some x) (hy : L[j]? = some y) : (L.set i y)[j]? = some y := by
  by_cases e : i = j
  · subst e; simp [(List.getElem?_eq_some_iff.1 hx).1]
  · rw [List.getElem?_set_ne e]; exact hy
theorem isnan_any (x : El) (w : World) : Calls Try.prog 99 [E x 0].toArray w fun e w' => e = .returned (.bool false) ∧ Below w.heap.size w w' := by
  refine g_enter0 T [] [] [] Try.func99 rfl Try.ntmps99 rfl (Kn.start _) ?_
  (repeat (refine gG ?_; try intro _))
  refine gk_say 2 (.bool false) rfl (congrArg Value.bool (tB_false (fun h => h rfl))) ?_
  (repeat (refine gG ?_; try intro _))
  refine gk_ret hT rfl rfl (.tmp rfl .nil) (fun w' hk => ?_)
  exact ⟨rfl, hk.toBelow⟩
theorem less_any (x y : El) (w : World) : Calls Try.prog 89 [E x 0, E y 0].toArray w fun e w' => e = .returned (.bool (tB (lt x y))) ∧ Below w.heap.size w w' := by
  refine g_enter0 T [] [] [] Try.func89 rfl Try.ntmps89 rfl (Kn.start _) ?_
  (repeat' (first | (refine gG ?_; try intro _) | (refine g_mv rfl ?_; first | refine mv_call_bel (fun w hk => isnan_any x w) rfl rfl rfl rfl rfl (by kernel_rfl) ?_) | ((first | refine g_split rfl rfl tE (fun _ => ?_) (fun _ => ?_) | refine gk_cond rfl rfl tE (fun _ => ?_) (fun _ => ?_)) <;> (try first | (exfalso; omega; done) | (rename_i hx; exact absurd rfl hx) | (rename_i hx; cases hx; done)))))
  refine gk_ret hT rfl rfl (.tmp rfl .nil) (fun w' hk => ?_)
  exact ⟨rfl, hk.toBelow⟩
theorem ins_any (g n c a b : Nat) (L : List El) (w : World) (hn : L.length = n) (h9 : n ≤ 1000000) (hab : a ≤ b) (hb : b ≤ n) (h : Rd1 w (rF g n c L)) :
    Calls Try.prog 83 [.slice (some ⟨g, 0, none⟩) n c, .int .i64 (a : Int), .int .i64 (b : Int)].toArray w (RetM (rF g n c L) (fun L' : List El => Seg a b L L' ∧ SortedIn lt a b L') (fun _ => .tuple #[]) (fun L' => rF g n c L') w) := by
  refine g_enter0 T (finE (rF g n c L) w) [rF g n c L] [] Try.func83 rfl Try.ntmps83 rfl (Kn.startM h (fun b hb => (finE_mem h.2 b).2 hb) (fun ψ hψ => by cases hψ)) ?_
  (repeat (refine gG ?_; try intro _))
  refine gk_loop_sel (fun (q : Nat × (List El)) => match q with | (i, L1) => (a < i ∧ i ≤ b + 1 ∧ Seg a b L L1 ∧ SortedIn lt a i L1)) (fun (q : Nat × (List El)) => match q with | (i, L1) => [(0, .slice (some ⟨g, 0, none⟩) n c), (1, (.int .i64 (a : Int))), (2, (.int .i64 (b : Int))), (6, .int .i64 (i : Int))]) (fun (q : Nat × (List El)) => match q with | (i, L1) => [rF g n c L1]) (fun (q : Nat × (List El)) => match q with | (i, L1) => []) (fun (q : Nat × (List El)) => match q with | (i, L1) => b + 1 - i) (a + 1, L) rfl ⟨by omega, by omega, .refl _ _ _, .small (by omega)⟩ (by repeat (first | exact trivial | refine ⟨rfl, ?_⟩)) sA sS ?_
  rintro ⟨i, L1⟩ hI
  replace hI : (a < i ∧ i ≤ b + 1 ∧ Seg a b L L1 ∧ SortedIn lt a i L1) := hI
  change GK _ _ [(0, .slice (some ⟨g, 0, none⟩) n c), (1, (.int .i64 (a : Int))), (2, (.int .i64 (b : Int))), (6, .int .i64 (i : Int))] [rF g n c L1] []
  obtain ⟨i1, i2, hs, hso⟩ := hI
  have hl1 := hs.len
  by_cases hi : i < b
  · (repeat' (first | (refine gG ?_; try intro _) | ((first | refine g_split rfl rfl tE (fun _ => ?_) (fun _ => ?_) | refine gk_cond rfl rfl tE (fun _ => ?_) (fun _ => ?_)) <;> (try first | (exfalso; omega; done) | (rename_i hx; exact absurd rfl hx) | (rename_i hx; cases hx; done)))))
    refine gk_loop_sel (fun (q : Nat × (List El)) => match q with | (j, L2) => (a ≤ j ∧ j ≤ i ∧ Seg a b L L2 ∧ Ins lt a i j L2)) (fun (q : Nat × (List El)) => match q with | (j, L2) => [(0, .slice (some ⟨g, 0, none⟩) n c), (1, (.int .i64 (a : Int))), (2, (.int .i64 (b : Int))), (6, (.int .i64 (i : Int))), (7, (.int .i64 (j : Int)))]) (fun (q : Nat × (List El)) => match q with | (j, L2) => [rF g n c L2]) (fun (q : Nat × (List El)) => match q with | (j, L2) => []) (fun (q : Nat × (List El)) => match q with | (j, L2) => j) (i, L1) rfl ⟨by omega, Nat.le_refl _, hs, .start hso⟩ (by repeat (first | exact trivial | refine ⟨rfl, ?_⟩)) sA sS ?_
    rintro ⟨j, L2⟩ hI
    replace hI : (a ≤ j ∧ j ≤ i ∧ Seg a b L L2 ∧ Ins lt a i j L2) := hI
    change GK _ _ [(0, .slice (some ⟨g, 0, none⟩) n c), (1, (.int .i64 (a : Int))), (2, (.int .i64 (b : Int))), (6, (.int .i64 (i : Int))), (7, (.int .i64 (j : Int)))] [rF g n c L2] []
    obtain ⟨j1, j2, hs2, hin⟩ := hI
    have hl2 := hs2.len
    by_cases hj : a < j
    · obtain ⟨x, hx⟩ : ∃ x, L2[j]? = some x := ⟨_, List.getElem?_eq_getElem (by omega)⟩
      obtain ⟨y, hy⟩ : ∃ y, L2[j - 1]? = some y := ⟨_, List.getElem?_eq_getElem (by omega)⟩
      by_cases hl : lt x y
      · skip
        refine gk_any [0] (Cut _ (fun _ : Unit => [(0, .slice (some ⟨g, 0, none⟩) n c), (1, (.int .i64 (a : Int))), (2, (.int .i64 (b : Int))), (6, (.int .i64 (i : Int))), (7, (.int .i64 (j : Int))), (30, .bool true)]) (fun _ => [rF g n c L2]) (fun _ => [])) rfl rfl (by kernel_rfl) ?_ (cut_k fun _ => ?_)
        · skip
          refine gb_take 0 rfl (by decide +kernel) rfl rfl (ys_ev (nw := true) hT rfl sI) sF ?_
          refine gb_take 1 rfl (by decide +kernel) rfl rfl (ys_ev (nw := true) hT rfl sI) sF ?_
          refine gb_take 2 rfl (by decide +kernel) rfl rfl (ys_ev (nw := true) hT rfl sI) sF ?_
          refine gb_take 3 rfl (by decide +kernel) rfl rfl (ys_ev (nw := true) hT rfl sI) sF ?_
          try (refine gb_say 19 (.bool true) rfl (congrArg Value.bool (tB_true (by omega))) ?_)
          first | refine gb_take 4 rfl (by decide +kernel) rfl rfl (ys_ev (nw := true) hT rfl sI) sF ?_ | refine gb_skip 4 rfl (by decide +kernel) rfl rfl sF ?_
          first | refine gb_take 5 rfl (by decide +kernel) rfl rfl (ys_ev (nw := true) hT rfl sI) sF ?_ | refine gb_skip 5 rfl (by decide +kernel) rfl rfl sF ?_
          first | refine gb_take 6 rfl (by decide +kernel) rfl rfl (ys_ev (nw := true) hT rfl sI) sF ?_ | refine gb_skip 6 rfl (by decide +kernel) rfl rfl sF ?_
          first | refine gb_take 7 rfl (by decide +kernel) rfl rfl (ys_load_el (S := [own 0 31 1 (.slice (some ⟨g, 0, none⟩) n c) E (L2)]) (o0 := 0) (sz := 1) (enc := E) (L := L2) hT (j) x 0 rfl rfl rfl (by first | rfl | omega) hx (at_own mE) rfl rfl) sF ?_ | refine gb_skip 7 rfl (by decide +kernel) rfl rfl sF ?_
          first | refine gb_take 8 rfl (by decide +kernel) rfl rfl (ys_ev (nw := true) hT rfl sI) sF ?_ | refine gb_skip 8 rfl (by decide +kernel) rfl rfl sF ?_
          first | refine gb_take 9 rfl (by decide +kernel) rfl rfl (ys_ev (nw := true) hT rfl sI) sF ?_ | refine gb_skip 9 rfl (by decide +kernel) rfl rfl sF ?_
          first | refine gb_take 10 rfl (by decide +kernel) rfl rfl (ys_ev (nw := true) hT rfl sI) sF ?_ | refine gb_skip 10 rfl (by decide +kernel) rfl rfl sF ?_
          first | refine gb_take 11 rfl (by decide +kernel) rfl rfl (ys_ev (nw := true) hT rfl sI) sF ?_ | refine gb_skip 11 rfl (by decide +kernel) rfl rfl sF ?_
          first | refine gb_take 12 rfl (by decide +kernel) rfl rfl (ys_load_el (S := [own 0 31 1 (.slice (some ⟨g, 0, none⟩) n c) E (L2)]) (o0 := 0) (sz := 1) (enc := E) (L := L2) hT (j - 1) y 0 rfl rfl rfl (by first | rfl | omega) hy (at_own mE) rfl rfl) sF ?_ | refine gb_skip 12 rfl (by decide +kernel) rfl rfl sF ?_
          first | refine gb_skip 13 rfl (by decide +kernel) rfl rfl sF ?_ | (refine gb_only 13 (by decide +kernel) rfl rfl ?_; (refine mv_call_bel (fun w hk => less_any x y w) rfl rfl rfl rfl rfl (by kernel_rfl) ?_); refine ⟨sF, ?_⟩)
          try (refine gb_say 29 (.bool true) rfl (congrArg Value.bool (tB_true hl)) ?_)
          refine gb_take 14 rfl (by decide +kernel) rfl rfl (ys_ev (nw := true) hT rfl sI) sF ?_
          refine gb_nil (by decide +kernel) ?_
          exact ⟨(), (by repeat (first | exact trivial | refine ⟨rfl, ?_⟩)), sA, sS⟩
        · (repeat (refine gG ?_; try intro _))
          have hy2 : (L2.set (j) y)[j - 1]? = some y := set_other hx hy
          refine gk_any [] (Cut _ (fun _ : Unit => [(0, .slice (some ⟨g, 0, none⟩) n c), (1, (.int .i64 (a : Int))), (2, (.int .i64 (b : Int))), (6, (.int .i64 (i : Int))), (7, (.int .i64 (j : Int)))]) (fun _ => [rF g n c (swp L2 j (j - 1) x y)]) (fun _ => [])) rfl rfl (by kernel_rfl) ?_ (cut_k fun _ => ?_)
          · skip
            refine gb_take 0 rfl (by decide +kernel) rfl rfl (ys_ev (nw := true) hT rfl sI) sF ?_
            refine gb_take 1 rfl (by decide +kernel) rfl rfl (ys_ev (nw := true) hT rfl sI) sF ?_
            refine gb_take 2 rfl (by decide +kernel) rfl rfl (ys_ev (nw := true) hT rfl sI) sF ?_
            refine gb_take 3 rfl (by decide +kernel) rfl rfl (ys_ev (nw := true) hT rfl sI) sF ?_
            refine gb_take 4 rfl (by decide +kernel) rfl rfl (ys_ev (nw := true) hT rfl sI) sF ?_
            refine gb_take 5 rfl (by decide +kernel) rfl rfl (ys_ev (nw := true) hT rfl sI) sF ?_
            refine gb_take 6 rfl (by decide +kernel) rfl rfl (ys_ev (nw := true) hT rfl sI) sF ?_
            refine gb_take 7 rfl (by decide +kernel) rfl rfl (ys_ev (nw := true) hT rfl sI) sF ?_
            refine gb_take 8 rfl (by decide +kernel) rfl rfl (ys_ev (nw := true) hT rfl sI) sF ?_
            refine gb_take 10 rfl (by decide +kernel) rfl rfl (ys_ev (nw := true) hT rfl sI) sF ?_
            refine gb_take 11 rfl (by decide +kernel) rfl rfl (ys_ev (nw := true) hT rfl sI) sF ?_
            refine gb_take 12 rfl (by decide +kernel) rfl rfl (ys_ev (nw := true) hT rfl sI) sF ?_
            refine gb_all (by decide +kernel) ?_
            refine gball_not (by decide +kernel) ?_
            refine gball_not (by decide +kernel) ?_
            refine gball_not (by decide +kernel) ?_
            refine gball_not (by decide +kernel) ?_
            refine gball_not (by decide +kernel) ?_
            refine gball_not (by decide +kernel) ?_
            refine gball_not (by decide +kernel) ?_
            refine gball_not (by decide +kernel) ?_
            refine gball_not (by decide +kernel) ?_
            refine gball_yes rfl rfl ?_ ?_
            · refine mv_yd rfl ((ys_load_el (S := [own 0 31 1 (.slice (some ⟨g, 0, none⟩) n c) E (L2)]) (o0 := 0) (sz := 1) (enc := E) (L := L2) hT (j - 1) y 0 rfl rfl rfl (by first | rfl | omega) hy (at_own mE) rfl rfl).ydS sF) ?_
              refine ⟨sF, ?_⟩
              refine gb_only 13 (by decide +kernel) rfl rfl ?_
              refine mv_yd rfl ((ys_load_el (S := [own 0 31 1 (.slice (some ⟨g, 0, none⟩) n c) E (L2)]) (o0 := 0) (sz := 1) (enc := E) (L := L2) hT (j) x 0 rfl rfl rfl (by first | rfl | omega) hx (at_own mE) rfl rfl).ydS sF) ?_
              refine ⟨sF, ?_⟩
              refine gb_take 14 rfl (by decide +kernel) rfl rfl (ys_ev (nw := true) hT rfl sI) sF ?_
              refine gb_only 15 (by decide +kernel) rfl rfl ?_
              refine mv_store_own (α := El) (g := g) (n := n) (c := c) (base := 0) (e := 31) (sz := 1) (enc := E) (L := L2) hT (j) 0 x y rfl rfl (by first | rfl | omega) rfl rfl rfl rfl hx (by decide) (fun b h1 h2 => absurd h1 (by omega)) rfl (by first | ((repeat (first | with_reducible exact Upd.here _ | with_reducible apply Upd.there)); done) | ((repeat (first | exact Upd.here _ | apply Upd.there)); done) | fail) rfl ?_
              refine ⟨sF, ?_⟩
              refine gb_take 16 rfl (by decide +kernel) rfl rfl (ys_ev (nw := true) hT rfl sI) sF ?_
              refine gb_only 17 (by decide +kernel) rfl rfl ?_
              refine mv_store_own (α := El) (g := g) (n := n) (c := c) (base := 0) (e := 31) (sz := 1) (enc := E) (L := L2.set (j) y) hT (j - 1) 0 y x rfl rfl (by first | rfl | omega) rfl rfl rfl rfl hy2 (by decide) (fun b h1 h2 => absurd h1 (by omega)) rfl (by first | ((repeat (first | with_reducible exact Upd.here _ | with_reducible apply Upd.there)); done) | ((repeat (first | exact Upd.here _ | apply Upd.there)); done) | fail) rfl ?_
              refine ⟨sF, ?_⟩
              refine gb_nil (by decide +kernel) ?_
              exact ⟨(), (by repeat (first | exact trivial | refine ⟨rfl, ?_⟩)), sA, List.nil_subset _⟩
            refine gball_not (by decide +kernel) ?_
            refine gball_not (by decide +kernel) ?_
            refine gball_not (by decide +kernel) ?_
            refine gball_yes rfl rfl ?_ ?_
            · refine mv_yd rfl ((ys_load_el (S := [own 0 31 1 (.slice (some ⟨g, 0, none⟩) n c) E (L2)]) (o0 := 0) (sz := 1) (enc := E) (L := L2) hT (j) x 0 rfl rfl rfl (by first | rfl | omega) hx (at_own mE) rfl rfl).ydS sF) ?_
              refine ⟨sF, ?_⟩
              refine gb_only 9 (by decide +kernel) rfl rfl ?_
              refine mv_yd rfl ((ys_load_el (S := [own 0 31 1 (.slice (some ⟨g, 0, none⟩) n c) E (L2)]) (o0 := 0) (sz := 1) (enc := E) (L := L2) hT (j - 1) y 0 rfl rfl rfl (by first | rfl | omega) hy (at_own mE) rfl rfl).ydS sF) ?_
              refine ⟨sF, ?_⟩
              refine gb_take 14 rfl (by decide +kernel) rfl rfl (ys_ev (nw := true) hT rfl sI) sF ?_
              refine gb_only 15 (by decide +kernel) rfl rfl ?_
              refine mv_store_own (α := El) (g := g) (n := n) (c := c) (base := 0) (e := 31) (sz := 1) (enc := E) (L := L2) hT (j) 0 x y rfl rfl (by first | rfl | omega) rfl rfl rfl rfl hx (by decide) (fun b h1 h2 => absurd h1 (by omega)) rfl (by first | ((repeat (first | with_reducible exact Upd.here _ | with_reducible apply Upd.there)); done) | ((repeat (first | exact Upd.here _ | apply Upd.there)); done) | fail) rfl ?_
              refine ⟨sF, ?_⟩
              refine gb_take 16 rfl (by decide +kernel) rfl rfl (ys_ev (nw := true) hT rfl sI) sF ?_
              refine gb_only 17 (by decide +kernel) rfl rfl ?_
              refine mv_store_own (α := El) (g := g) (n := n) (c := c) (base := 0) (e := 31) (sz := 1) (enc := E) (L := L2.set (j) y) hT (j - 1) 0 y x rfl rfl (by first | rfl | omega) rfl rfl rfl rfl hy2 (by decide) (fun b h1 h2 => absurd h1 (by omega)) rfl (by first | ((repeat (first | with_reducible exact Upd.here _ | with_reducible apply Upd.there)); done) | ((repeat (first | exact Upd.here _ | apply Upd.there)); done) | fail) rfl ?_
              refine ⟨sF, ?_⟩
              refine gb_nil (by decide +kernel) ?_
              exact ⟨(), (by repeat (first | exact trivial | refine ⟨rfl, ?_⟩)), sA, List.nil_subset _⟩
            refine gball_not (by decide +kernel) ?_
            refine gball_not (by decide +kernel) ?_
            refine gball_not (by decide +kernel) ?_
            refine gball_not (by decide +kernel) ?_
            exact gball_end (by decide +kernel)
          · (repeat (refine gG ?_; try intro _))
            refine gk_say 7 (.int .i64 ((j - 1 : Nat) : Int)) rfl (by first | (congr 1; done) | (congr 1; omega)) ?_
            refine gk_again_sel rfl (j - 1, swp L2 j (j - 1) x y) ⟨by omega, by omega, hs2.trans (.swp (by omega) (by omega) (by omega) (by omega) hx hy), hin.step ord hj j2 hx hy hl⟩ (by dsimp only; omega) (by repeat (first | exact trivial | refine ⟨rfl, ?_⟩)) sA sS
      · skip
        refine gk_any [0] (Cut _ (fun _ : Unit => [(0, .slice (some ⟨g, 0, none⟩) n c), (1, (.int .i64 (a : Int))), (2, (.int .i64 (b : Int))), (6, (.int .i64 (i : Int))), (7, (.int .i64 (j : Int))), (30, .bool false)]) (fun _ => [rF g n c L2]) (fun _ => [])) rfl rfl (by kernel_rfl) ?_ (cut_k fun _ => ?_)
        · skip
          refine gb_take 0 rfl (by decide +kernel) rfl rfl (ys_ev (nw := true) hT rfl sI) sF ?_
          refine gb_take 1 rfl (by decide +kernel) rfl rfl (ys_ev (nw := true) hT rfl sI) sF ?_
          refine gb_take 2 rfl (by decide +kernel) rfl rfl (ys_ev (nw := true) hT rfl sI) sF ?_
          refine gb_take 3 rfl (by decide +kernel) rfl rfl (ys_ev (nw := true) hT rfl sI) sF ?_
          try (refine gb_say 19 (.bool true) rfl (congrArg Value.bool (tB_true (by omega))) ?_)
          first | refine gb_take 4 rfl (by decide +kernel) rfl rfl (ys_ev (nw := true) hT rfl sI) sF ?_ | refine gb_skip 4 rfl (by decide +kernel) rfl rfl sF ?_
          first | refine gb_take 5 rfl (by decide +kernel) rfl rfl (ys_ev (nw := true) hT rfl sI) sF ?_ | refine gb_skip 5 rfl (by decide +kernel) rfl rfl sF ?_
          first | refine gb_take 6 rfl (by decide +kernel) rfl rfl (ys_ev (nw := true) hT rfl sI) sF ?_ | refine gb_skip 6 rfl (by decide +kernel) rfl rfl sF ?_
          first | refine gb_take 7 rfl (by decide +kernel) rfl rfl (ys_load_el (S := [own 0 31 1 (.slice (some ⟨g, 0, none⟩) n c) E (L2)]) (o0 := 0) (sz := 1) (enc := E) (L := L2) hT (j) x 0 rfl rfl rfl (by first | rfl | omega) hx (at_own mE) rfl rfl) sF ?_ | refine gb_skip 7 rfl (by decide +kernel) rfl rfl sF ?_
          first | refine gb_take 8 rfl (by decide +kernel) rfl rfl (ys_ev (nw := true) hT rfl sI) sF ?_ | refine gb_skip 8 rfl (by decide +kernel) rfl rfl sF ?_
          first | refine gb_take 9 rfl (by decide +kernel) rfl rfl (ys_ev (nw := true) hT rfl sI) sF ?_ | refine gb_skip 9 rfl (by decide +kernel) rfl rfl sF ?_
          first | refine gb_take 10 rfl (by decide +kernel) rfl rfl (ys_ev (nw := true) hT rfl sI) sF ?_ | refine gb_skip 10 rfl (by decide +kernel) rfl rfl sF ?_
          first | refine gb_take 11 rfl (by decide +kernel) rfl rfl (ys_ev (nw := true) hT rfl sI) sF ?_ | refine gb_skip 11 rfl (by decide +kernel) rfl rfl sF ?_
          first | refine gb_take 12 rfl (by decide +kernel) rfl rfl (ys_load_el (S := [own 0 31 1 (.slice (some ⟨g, 0, none⟩) n c) E (L2)]) (o0 := 0) (sz := 1) (enc := E) (L := L2) hT (j - 1) y 0 rfl rfl rfl (by first | rfl | omega) hy (at_own mE) rfl rfl) sF ?_ | refine gb_skip 12 rfl (by decide +kernel) rfl rfl sF ?_
          first | refine gb_skip 13 rfl (by decide +kernel) rfl rfl sF ?_ | (refine gb_only 13 (by decide +kernel) rfl rfl ?_; (refine mv_call_bel (fun w hk => less_any x y w) rfl rfl rfl rfl rfl (by kernel_rfl) ?_); refine ⟨sF, ?_⟩)
          try (refine gb_say 29 (.bool false) rfl (congrArg Value.bool (tB_false hl)) ?_)
          refine gb_take 14 rfl (by decide +kernel) rfl rfl (ys_ev (nw := true) hT rfl sI) sF ?_
          refine gb_nil (by decide +kernel) ?_
          exact ⟨(), (by repeat (first | exact trivial | refine ⟨rfl, ?_⟩)), sA, sS⟩
        · (repeat (refine gG ?_; try intro _))
          refine gk_say 6 (.int .i64 ((i + 1 : Nat) : Int)) rfl (by first | (congr 1; done) | (congr 1; omega)) ?_
          refine gk_again_sel rfl (i + 1, L2) ⟨by omega, by omega, hs2, hin.stop ord hj j2 hx hy hl⟩ (by dsimp only; omega) (by repeat (first | exact trivial | refine ⟨rfl, ?_⟩)) sA sS
    · skip
      refine gk_any [0] (Cut _ (fun _ : Unit => [(0, .slice (some ⟨g, 0, none⟩) n c), (1, (.int .i64 (a : Int))), (2, (.int .i64 (b : Int))), (6, (.int .i64 (i : Int))), (7, (.int .i64 (j : Int))), (30, .bool false)]) (fun _ => [rF g n c L2]) (fun _ => [])) rfl rfl (by kernel_rfl) ?_ (cut_k fun _ => ?_)
      · skip
        refine gb_take 0 rfl (by decide +kernel) rfl rfl (ys_ev (nw := true) hT rfl sI) sF ?_
        refine gb_take 1 rfl (by decide +kernel) rfl rfl (ys_ev (nw := true) hT rfl sI) sF ?_
        refine gb_take 2 rfl (by decide +kernel) rfl rfl (ys_ev (nw := true) hT rfl sI) sF ?_
        refine gb_take 3 rfl (by decide +kernel) rfl rfl (ys_ev (nw := true) hT rfl sI) sF ?_
        try (refine gb_say 19 (.bool false) rfl (congrArg Value.bool (tB_false (by omega))) ?_)
        first | refine gb_take 4 rfl (by decide +kernel) rfl rfl (ys_ev (nw := true) hT rfl sI) sF ?_ | refine gb_skip 4 rfl (by decide +kernel) rfl rfl sF ?_
        first | refine gb_take 5 rfl (by decide +kernel) rfl rfl (ys_ev (nw := true) hT rfl sI) sF ?_ | refine gb_skip 5 rfl (by decide +kernel) rfl rfl sF ?_
        first | refine gb_take 6 rfl (by decide +kernel) rfl rfl (ys_ev (nw := true) hT rfl sI) sF ?_ | refine gb_skip 6 rfl (by decide +kernel) rfl rfl sF ?_
        first | refine gb_take 7 rfl (by decide +kernel) rfl rfl (by first | exact ys_blk hT rfl rfl mE rfl rfl | exact ys_row hT rfl rfl mE rfl rfl | exact ys_row0 hT rfl rfl mE rfl rfl) sF ?_ | refine gb_skip 7 rfl (by decide +kernel) rfl rfl sF ?_
        first | refine gb_take 8 rfl (by decide +kernel) rfl rfl (ys_ev (nw := true) hT rfl sI) sF ?_ | refine gb_skip 8 rfl (by decide +kernel) rfl rfl sF ?_
        first | refine gb_take 9 rfl (by decide +kernel) rfl rfl (ys_ev (nw := true) hT rfl sI) sF ?_ | refine gb_skip 9 rfl (by decide +kernel) rfl rfl sF ?_
        first | refine gb_take 10 rfl (by decide +kernel) rfl rfl (ys_ev (nw := true) hT rfl sI) sF ?_ | refine gb_skip 10 rfl (by decide +kernel) rfl rfl sF ?_
        first | refine gb_take 11 rfl (by decide +kernel) rfl rfl (ys_ev (nw := true) hT rfl sI) sF ?_ | refine gb_skip 11 rfl (by decide +kernel) rfl rfl sF ?_
        first | refine gb_take 12 rfl (by decide +kernel) rfl rfl (by first | exact ys_blk hT rfl rfl mE rfl rfl | exact ys_row hT rfl rfl mE rfl rfl | exact ys_row0 hT rfl rfl mE rfl rfl) sF ?_ | refine gb_skip 12 rfl (by decide +kernel) rfl rfl sF ?_
        first | refine gb_skip 13 rfl (by decide +kernel) rfl rfl sF ?_ | (refine gb_only 13 (by decide +kernel) rfl rfl ?_; (skip); refine ⟨sF, ?_⟩)
        refine gb_take 14 rfl (by decide +kernel) rfl rfl (ys_ev (nw := true) hT rfl sI) sF ?_
        refine gb_nil (by decide +kernel) ?_
        exact ⟨(), (by repeat (first | exact trivial | refine ⟨rfl, ?_⟩)), sA, sS⟩
      · (repeat (refine gG ?_; try intro _))
        refine gk_say 6 (.int .i64 ((i + 1 : Nat) : Int)) rfl (by first | (congr 1; done) | (congr 1; omega)) ?_
        refine gk_again_sel rfl (i + 1, L2) ⟨by omega, by omega, hs2, by (have e : j = a := (by omega); rw [e] at hin; exact hin.zero)⟩ (by dsimp only; omega) (by repeat (first | exact trivial | refine ⟨rfl, ?_⟩)) sA sS
  · (repeat' (first | (refine gG ?_; try intro _) | ((first | refine g_split rfl rfl tE (fun _ => ?_) (fun _ => ?_) | refine gk_cond rfl rfl tE (fun _ => ?_) (fun _ => ?_)) <;> (try first | (exfalso; omega; done) | (rename_i hx; exact absurd rfl hx) | (rename_i hx; cases hx; done)))))
    refine gk_fin hT rfl rfl .nil (fun w' hk => ?_)
    exact RetM.mk L1 ⟨hs, fun u v x y h1 h2 h3 => hso u v x y h1 h2 (by omega)⟩ rfl hk (fun b hb => (finE_mem h.2 b).1 hb) mE
theorem rev_any (g n c a b : Nat) (L : List El) (w : World) (hn : L.length = n) (h9 : n ≤ 1000000) (hab : a < b) (hb : b ≤ n) (h : Rd1 w (rF g n c L)) :
    Calls Try.prog 87 [.slice (some ⟨g, 0, none⟩) n c, .int .i64 (a : Int), .int .i64 (b : Int)].toArray w (RetM (rF g n c L) (fun L' : List El => Seg a b L L') (fun _ => .tuple #[]) (fun L' => rF g n c L') w) := by
  refine g_enter0 T (finE (rF g n c L) w) [rF g n c L] [] Try.func87 rfl Try.ntmps87 rfl (Kn.startM h (fun b hb => (finE_mem h.2 b).2 hb) (fun ψ hψ => by cases hψ)) ?_
  (repeat (refine gG ?_; try intro _))
  refine gk_say 7 (.int .i64 ((b - 1 : Nat) : Int)) rfl (by first | (congr 1; done) | (congr 1; omega)) ?_
  refine gk_loop_sel (fun (q : Nat × Nat × (List El)) => match q with | (i, j, L1) => (a ≤ i ∧ j < b ∧ i ≤ j + 1 ∧ Seg a b L L1)) (fun (q : Nat × Nat × (List El)) => match q with | (i, j, L1) => [(0, .slice (some ⟨g, 0, none⟩) n c), (1, (.int .i64 (a : Int))), (2, (.int .i64 (b : Int))), (6, (.int .i64 (i : Int))), (7, (.int .i64 (j : Int)))]) (fun (q : Nat × Nat × (List El)) => match q with | (i, j, L1) => [rF g n c L1]) (fun (q : Nat × Nat × (List El)) => match q with | (i, j, L1) => []) (fun (q : Nat × Nat × (List El)) => match q with | (i, j, L1) => j + 1 - i) (a, b - 1, L) rfl ⟨by omega, by omega, by omega, .refl _ _ _⟩ (by repeat (first | exact trivial | refine ⟨rfl, ?_⟩)) sA sS ?_
  rintro ⟨i, j, L1⟩ hI
  replace hI : (a ≤ i ∧ j < b ∧ i ≤ j + 1 ∧ Seg a b L L1) := hI
  change GK _ _ [(0, .slice (some ⟨g, 0, none⟩) n c), (1, (.int .i64 (a : Int))), (2, (.int .i64 (b : Int))), (6, (.int .i64 (i : Int))), (7, (.int .i64 (j : Int)))] [rF g n c L1] []
  obtain ⟨i1, j1, ij, hs⟩ := hI
  have hl1 := hs.len
  by_cases hi : i < j
  · (repeat' (first | (refine gG ?_; try intro _) | ((first | refine g_split rfl rfl tE (fun _ => ?_) (fun _ => ?_) | refine gk_cond rfl rfl tE (fun _ => ?_) (fun _ => ?_)) <;> (try first | (exfalso; omega; done) | (rename_i hx; exact absurd rfl hx) | (rename_i hx; cases hx; done)))))
    obtain ⟨x, hx⟩ : ∃ x, L1[i]? = some x := ⟨_, List.getElem?_eq_getElem (by omega)⟩
    obtain ⟨y, hy⟩ : ∃ y, L1[j]? = some y := ⟨_, List.getElem?_eq_getElem (by omega)⟩
    have hy2 : (L1.set (i) y)[j]? = some y := set_other hx hy
    refine gk_any [] (Cut _ (fun _ : Unit => [(0, .slice (some ⟨g, 0, none⟩) n c), (1, (.int .i64 (a : Int))), (2, (.int .i64 (b : Int))), (6, (.int .i64 (i : Int))), (7, (.int .i64 (j : Int)))]) (fun _ => [rF g n c (swp L1 i j x y)]) (fun _ => [])) rfl rfl (by kernel_rfl) ?_ (cut_k fun _ => ?_)
    · skip
      refine gb_take 0 rfl (by decide +kernel) rfl rfl (ys_ev (nw := true) hT rfl sI) sF ?_
      refine gb_take 1 rfl (by decide +kernel) rfl rfl (ys_ev (nw := true) hT rfl sI) sF ?_
      refine gb_take 2 rfl (by decide +kernel) rfl rfl (ys_ev (nw := true) hT rfl sI) sF ?_
      refine gb_take 3 rfl (by decide +kernel) rfl rfl (ys_ev (nw := true) hT rfl sI) sF ?_
      refine gb_take 4 rfl (by decide +kernel) rfl rfl (ys_ev (nw := true) hT rfl sI) sF ?_
      refine gb_take 5 rfl (by decide +kernel) rfl rfl (ys_ev (nw := true) hT rfl sI) sF ?_
      refine gb_take 6 rfl (by decide +kernel) rfl rfl (ys_ev (nw := true) hT rfl sI) sF ?_
      refine gb_take 8 rfl (by decide +kernel) rfl rfl (ys_ev (nw := true) hT rfl sI) sF ?_
      refine gb_take 9 rfl (by decide +kernel) rfl rfl (ys_ev (nw := true) hT rfl sI) sF ?_
      refine gb_take 10 rfl (by decide +kernel) rfl rfl (ys_ev (nw := true) hT rfl sI) sF ?_
      refine gb_all (by decide +kernel) ?_
      refine gball_not (by decide +kernel) ?_
      refine gball_not (by decide +kernel) ?_
      refine gball_not (by decide +kernel) ?_
      refine gball_not (by decide +kernel) ?_
      refine gball_not (by decide +kernel) ?_
      refine gball_not (by decide +kernel) ?_
      refine gball_not (by decide +kernel) ?_
      refine gball_yes rfl rfl ?_ ?_
      · refine mv_yd rfl ((ys_load_el (S := [own 0 31 1 (.slice (some ⟨g, 0, none⟩) n c) E (L1)]) (o0 := 0) (sz := 1) (enc := E) (L := L1) hT (j) y 0 rfl rfl rfl (by first | rfl | omega) hy (at_own mE) rfl rfl).ydS sF) ?_
        refine ⟨sF, ?_⟩
        refine gb_only 11 (by decide +kernel) rfl rfl ?_
        refine mv_yd rfl ((ys_load_el (S := [own 0 31 1 (.slice (some ⟨g, 0, none⟩) n c) E (L1)]) (o0 := 0) (sz := 1) (enc := E) (L := L1) hT (i) x 0 rfl rfl rfl (by first | rfl | omega) hx (at_own mE) rfl rfl).ydS sF) ?_
        refine ⟨sF, ?_⟩
        refine gb_take 12 rfl (by decide +kernel) rfl rfl (ys_ev (nw := true) hT rfl sI) sF ?_
        refine gb_only 13 (by decide +kernel) rfl rfl ?_
        refine mv_store_own (α := El) (g := g) (n := n) (c := c) (base := 0) (e := 31) (sz := 1) (enc := E) (L := L1) hT (i) 0 x y rfl rfl (by first | rfl | omega) rfl rfl rfl rfl hx (by decide) (fun b h1 h2 => absurd h1 (by omega)) rfl (by first | ((repeat (first | with_reducible exact Upd.here _ | with_reducible apply Upd.there)); done) | ((repeat (first | exact Upd.here _ | apply Upd.there)); done) | fail) rfl ?_
        refine ⟨sF, ?_⟩
        refine gb_take 14 rfl (by decide +kernel) rfl rfl (ys_ev (nw := true) hT rfl sI) sF ?_
        refine gb_only 15 (by decide +kernel) rfl rfl ?_
        refine mv_store_own (α := El) (g := g) (n := n) (c := c) (base := 0) (e := 31) (sz := 1) (enc := E) (L := L1.set (i) y) hT (j) 0 y x rfl rfl (by first | rfl | omega) rfl rfl rfl rfl hy2 (by decide) (fun b h1 h2 => absurd h1 (by omega)) rfl (by first | ((repeat (first | with_reducible exact Upd.here _ | with_reducible apply Upd.there)); done) | ((repeat (first | exact Upd.here _ | apply Upd.there)); done) | fail) rfl ?_
        refine ⟨sF, ?_⟩
        refine gb_nil (by decide +kernel) ?_
        exact ⟨(), (by repeat (first | exact trivial | refine ⟨rfl, ?_⟩)), sA, List.nil_subset _⟩
      refine gball_not (by decide +kernel) ?_
      refine gball_not (by decide +kernel) ?_
      refine gball_not (by decide +kernel) ?_
      refine gball_yes rfl rfl ?_ ?_
      · refine mv_yd rfl ((ys_load_el (S := [own 0 31 1 (.slice (some ⟨g, 0, none⟩) n c) E (L1)]) (o0 := 0) (sz := 1) (enc := E) (L := L1) hT (i) x 0 rfl rfl rfl (by first | rfl | omega) hx (at_own mE) rfl rfl).ydS sF) ?_
        refine ⟨sF, ?_⟩
        refine gb_only 7 (by decide +kernel) rfl rfl ?_
        refine mv_yd rfl ((ys_load_el (S := [own 0 31 1 (.slice (some ⟨g, 0, none⟩) n c) E (L1)]) (o0 := 0) (sz := 1) (enc := E) (L := L1) hT (j) y 0 rfl rfl rfl (by first | rfl | omega) hy (at_own mE) rfl rfl).ydS sF) ?_
        refine ⟨sF, ?_⟩
        refine gb_take 12 rfl (by decide +kernel) rfl rfl (ys_ev (nw := true) hT rfl sI) sF ?_
        refine gb_only 13 (by decide +kernel) rfl rfl ?_
        refine mv_store_own (α := El) (g := g) (n := n) (c := c) (base := 0) (e := 31) (sz := 1) (enc := E) (L := L1) hT (i) 0 x y rfl rfl (by first | rfl | omega) rfl rfl rfl rfl hx (by decide) (fun b h1 h2 => absurd h1 (by omega)) rfl (by first | ((repeat (first | with_reducible exact Upd.here _ | with_reducible apply Upd.there)); done) | ((repeat (first | exact Upd.here _ | apply Upd.there)); done) | fail) rfl ?_
        refine ⟨sF, ?_⟩
        refine gb_take 14 rfl (by decide +kernel) rfl rfl (ys_ev (nw := true) hT rfl sI) sF ?_
        refine gb_only 15 (by decide +kernel) rfl rfl ?_
        refine mv_store_own (α := El) (g := g) (n := n) (c := c) (base := 0) (e := 31) (sz := 1) (enc := E) (L := L1.set (i) y) hT (j) 0 y x rfl rfl (by first | rfl | omega) rfl rfl rfl rfl hy2 (by decide) (fun b h1 h2 => absurd h1 (by omega)) rfl (by first | ((repeat (first | with_reducible exact Upd.here _ | with_reducible apply Upd.there)); done) | ((repeat (first | exact Upd.here _ | apply Upd.there)); done) | fail) rfl ?_
        refine ⟨sF, ?_⟩
        refine gb_nil (by decide +kernel) ?_
        exact ⟨(), (by repeat (first | exact trivial | refine ⟨rfl, ?_⟩)), sA, List.nil_subset _⟩
      refine gball_not (by decide +kernel) ?_
      refine gball_not (by decide +kernel) ?_
      refine gball_not (by decide +kernel) ?_
      refine gball_not (by decide +kernel) ?_
      exact gball_end (by decide +kernel)
    · (repeat (refine gG ?_; try intro _))
      refine gk_say 6 (.int .i64 ((i + 1 : Nat) : Int)) rfl (by first | (congr 1; done) | (congr 1; omega)) ?_
      refine gk_say 7 (.int .i64 ((j - 1 : Nat) : Int)) rfl (by first | (congr 1; done) | (congr 1; omega)) ?_
      refine gk_again_sel rfl (i + 1, j - 1, swp L1 i j x y) ⟨by omega, by omega, by omega, hs.trans (.swp (by omega) (by omega) (by omega) (by omega) hx hy)⟩ (by dsimp only; omega) (by repeat (first | exact trivial | refine ⟨rfl, ?_⟩)) sA sS
  · (repeat' (first | (refine gG ?_; try intro _) | ((first | refine g_split rfl rfl tE (fun _ => ?_) (fun _ => ?_) | refine gk_cond rfl rfl tE (fun _ => ?_) (fun _ => ?_)) <;> (try first | (exfalso; omega; done) | (rename_i hx; exact absurd rfl hx) | (rename_i hx; cases hx; done)))))
    refine gk_fin hT rfl rfl .nil (fun w' hk => ?_)
    exact RetM.mk L1 hs rfl hk (fun b hb => (finE_mem h.2 b).1 hb) mE
end Go.Proofs.Ytgpfedmfbkhhcaa.SoW

