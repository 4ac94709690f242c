/- A stack of steps of a walk: New, Push, Pop. -/
import Derived.Test.YtahfjkibononfaaSk
namespace Go.Proofs.Ytahfjkibononfaa.Ws
open Go.RowKit Mem Gx Sk
set_option linter.unusedVariables false
set_option linter.unusedSimpArgs false
set_option maxRecDepth 100000
set_option maxHeartbeats 4000000
theorem snew_any (w : World) : Calls Try.prog 73 [.int .i64 16].toArray w (Ret (fun _ : Nat => True) (fun g => .pointer (some ⟨g, 0, none⟩)) (fun g => [blk g (stC []) 144]) w) := by
  refine g_enter0 T [] [] [] Try.func73 rfl Try.ntmps73 rfl (Kn.start _) ?_
  (repeat (refine gG ?_; try intro _))
  refine g_yd rfl rfl (Ys.yd (ys_max 16 rfl rfl rfl (by decide))) ?_
  refine g_yd rfl rfl (Ys.yd (ys_min 16 rfl rfl rfl (by decide))) ?_
  (repeat (refine gG ?_; try intro _))
  rename_i g
  refine gk_ret hT rfl rfl (.tmp rfl .nil) (fun w' hk => ?_)
  exact Ret.mk g trivial rfl hk sA
theorem spush_any (g : Nat) (l : List (Nat × Nat)) (x : Nat × Nat) (w : World) (hl : l.length < 16) (h : w.heap[g]? = some (.cells (stC l).toArray 144 (0, 0))) :
    Calls Try.prog 74 [.pointer (some ⟨g, 0, none⟩), stepV x].toArray w (RetW g 144 [] (fun _ : Unit => True) (fun _ => .bool true) (fun _ => stC (l ++ [x])) (fun _ => []) (fun _ => []) w) := by
  refine g_enter0 T [g] [blk g (stC l) 144] [] Try.func74 rfl Try.ntmps74 rfl (Kn.startW h) ?_
  (repeat (refine gG ?_; try intro _))
  rename_i g3
  refine gk_drawn_at [1] rfl rfl (by kernel_rfl) ?_
  (repeat (first | refine ga_nil (by decide +kernel) ?_ | refine ga_take (by decide +kernel) rfl rfl (ys_ev (nw := true) hT rfl sI) sF ?_ | refine ga_skip (by decide +kernel) rfl rfl sF ?_ | refine ga_take (by decide +kernel) rfl rfl (ys_blk hT rfl rfl mE rfl rfl) sF ?_ | refine ga_take (by decide +kernel) rfl rfl (ys_row hT rfl rfl mE rfl rfl) sF ?_ | refine ga_take (by decide +kernel) rfl rfl (ys_row0 hT rfl rfl mE rfl rfl) sF ?_ | (refine ga_mv (by decide +kernel) rfl ?_; (first | (refine mv_box rfl rfl rfl rfl ?_; intro _) | (refine mv_alloc rfl hT rfl rfl ?_; intro _) | refine mv_store hT rfl rfl rfl rfl rfl rfl sO rfl ?_ | (refine mv_buildSlice rfl hT rfl rfl rfl rfl rfl rfl rfl rfl ?_; intro _)); refine ⟨sF, ?_⟩) | refine ga_take (by decide +kernel) rfl rfl (ys_eql rfl rfl rfl rfl rfl (by kernel_rfl)) sF ?_ | refine ga_take (by decide +kernel) rfl rfl (ys_neq rfl rfl rfl rfl rfl (by kernel_rfl)) sF ?_))
  refine ga_take (by decide +kernel) rfl rfl (ys_load_cs hT [.int .i64 l.length] rfl rfl mE (stC_n (by omega)) rfl rfl) sF ?_
  (repeat (first | refine ga_nil (by decide +kernel) ?_ | refine ga_take (by decide +kernel) rfl rfl (ys_ev (nw := true) hT rfl sI) sF ?_ | refine ga_skip (by decide +kernel) rfl rfl sF ?_ | refine ga_take (by decide +kernel) rfl rfl (ys_blk hT rfl rfl mE rfl rfl) sF ?_ | refine ga_take (by decide +kernel) rfl rfl (ys_row hT rfl rfl mE rfl rfl) sF ?_ | refine ga_take (by decide +kernel) rfl rfl (ys_row0 hT rfl rfl mE rfl rfl) sF ?_ | (refine ga_mv (by decide +kernel) rfl ?_; (first | (refine mv_box rfl rfl rfl rfl ?_; intro _) | (refine mv_alloc rfl hT rfl rfl ?_; intro _) | refine mv_store hT rfl rfl rfl rfl rfl rfl sO rfl ?_ | (refine mv_buildSlice rfl hT rfl rfl rfl rfl rfl rfl rfl rfl ?_; intro _)); refine ⟨sF, ?_⟩) | refine ga_take (by decide +kernel) rfl rfl (ys_eql rfl rfl rfl rfl rfl (by kernel_rfl)) sF ?_ | refine ga_take (by decide +kernel) rfl rfl (ys_neq rfl rfl rfl rfl rfl (by kernel_rfl)) sF ?_))
  refine ga_take (by decide +kernel) rfl rfl (ys_load_cs hT [.int .i64 16] rfl rfl mE (stC_most (by omega)) rfl rfl) sF ?_
  (repeat (first | refine ga_nil (by decide +kernel) ?_ | refine ga_take (by decide +kernel) rfl rfl (ys_ev (nw := true) hT rfl sI) sF ?_ | refine ga_skip (by decide +kernel) rfl rfl sF ?_ | refine ga_take (by decide +kernel) rfl rfl (ys_blk hT rfl rfl mE rfl rfl) sF ?_ | refine ga_take (by decide +kernel) rfl rfl (ys_row hT rfl rfl mE rfl rfl) sF ?_ | refine ga_take (by decide +kernel) rfl rfl (ys_row0 hT rfl rfl mE rfl rfl) sF ?_ | (refine ga_mv (by decide +kernel) rfl ?_; (first | (refine mv_box rfl rfl rfl rfl ?_; intro _) | (refine mv_alloc rfl hT rfl rfl ?_; intro _) | refine mv_store hT rfl rfl rfl rfl rfl rfl sO rfl ?_ | (refine mv_buildSlice rfl hT rfl rfl rfl rfl rfl rfl rfl rfl ?_; intro _)); refine ⟨sF, ?_⟩) | refine ga_take (by decide +kernel) rfl rfl (ys_eql rfl rfl rfl rfl rfl (by kernel_rfl)) sF ?_ | refine ga_take (by decide +kernel) rfl rfl (ys_neq rfl rfl rfl rfl rfl (by kernel_rfl)) sF ?_))
  refine gk_cond_n rfl rfl (by omega) ?_
  (repeat (refine gG ?_; try intro _))
  refine gk_any [0] (Cut _ (fun _ : Unit => [(0, .pointer (some ⟨g, 0, none⟩))]) (fun _ => [blk g (lay (stC l) (l.length * 2) [.pointer (some ⟨x.1, 0, none⟩), .int .i64 x.2]) 144]) (fun _ => [])) rfl rfl (by kernel_rfl) ?_ (cut_k fun _ => ?_)
  · skip
    refine gb_take 0 rfl (by decide +kernel) rfl rfl (ys_ev (nw := true) hT rfl sI) sF ?_
    refine gb_take 1 rfl (by decide +kernel) rfl rfl (ys_ev (nw := true) hT rfl sI) sF ?_
    refine gb_take 2 rfl (by decide +kernel) rfl rfl (ys_ev (nw := true) hT rfl sI) sF ?_
    refine gb_take 3 rfl (by decide +kernel) rfl rfl (ys_ev (nw := true) hT rfl sI) sF ?_
    refine gb_take 5 rfl (by decide +kernel) rfl rfl (by first | exact ys_blk hT rfl rfl mE rfl rfl | exact ys_row hT rfl rfl mE rfl rfl | exact ys_row0 hT rfl rfl mE rfl rfl) sF ?_
    refine gb_take 6 rfl (by decide +kernel) rfl rfl (ys_ev (nw := true) hT rfl sI) sF ?_
    refine gb_take 7 rfl (by decide +kernel) rfl rfl (ys_ev (nw := true) hT rfl sI) sF ?_
    refine gb_only 4 (by decide +kernel) rfl rfl ?_
    refine mv_yd rfl ((ys_load_cs (S := [blk g (stC l) 144]) hT [.int .i64 l.length] rfl rfl mE (stC_n (by omega)) rfl rfl).ydS sF) ?_
    refine ⟨sF, ?_⟩
    refine gb_take 8 rfl (by decide +kernel) rfl rfl (ys_ev (nw := true) hT rfl sI) sF ?_
    try (refine gb_say 22 (.pointer (some ⟨g, l.length * 2, none⟩)) rfl (by congr 3; omega) ?_)
    refine gb_only 9 (by decide +kernel) rfl rfl ?_
    refine mv_storeL hT rfl rfl rfl rfl rfl rfl (by first | ((repeat (first | with_reducible exact Upd.here _ | with_reducible apply Upd.there)); done) | ((repeat (first | exact Upd.here _ | apply Upd.there)); done) | fail) (by rw [stC_len (by omega)]; show l.length * 2 + 2 ≤ 34; omega) rfl ?_
    refine ⟨sF, ?_⟩
    refine gb_nil (by decide +kernel) ?_
    exact ⟨(), (by repeat (first | exact trivial | refine ⟨rfl, ?_⟩)), sA, sS⟩
  · have e1 : lay (stC l) (l.length * 2) [.pointer (some ⟨x.1, 0, none⟩), .int .i64 x.2] = flatF 2 OE (padS (l ++ [x])) ++ [.int .i64 l.length, .int .i64 16] := by
      unfold stC
      exact (lay_flat 2 OE (by decide) (padS l) _ l.length (some x) (by rw [pad_len (by omega)]; omega)).trans (by rw [pad_push hl])
    rw [e1]
    have l32 : (flatF 2 OE (padS (l ++ [x]))).length = 32 := flat_len (by rw [List.length_append]; exact hl)
    (repeat (refine gG ?_; try intro _))
    refine g_yd rfl rfl ((ys_load_cs (S := [blk g (flatF 2 OE (padS (l ++ [x])) ++ [.int .i64 l.length, .int .i64 16]) 144]) hT [.int .i64 l.length] rfl rfl mE (fun i v hv => ?_) rfl rfl).ydS sF) ?_
    · rw [List.getElem?_append_right (by rw [l32]; omega), l32]
      match i, hv with
      | 0, hv => exact hv
    (repeat (refine gG ?_; try intro _))
    refine g_mv rfl (mv_storeL hT rfl rfl rfl rfl rfl rfl (by first | ((repeat (first | with_reducible exact Upd.here _ | with_reducible apply Upd.there)); done) | ((repeat (first | exact Upd.here _ | apply Upd.there)); done) | fail) (by rw [List.length_append, l32]; show 0 + 32 + 1 ≤ 32 + 2; decide) rfl ?_)
    (repeat (refine gG ?_; try intro _))
    refine gk_ret hT rfl rfl (.tmp rfl .nil) (fun w' hk => ?_)
    refine RetW.mk () trivial rfl hk (by
      show SelAll (blk g (stC (l ++ [x])) 144 :: []) _
      have e2 : lay (flatF 2 OE (padS (l ++ [x])) ++ [Value.int .i64 l.length, .int .i64 16]) 32 [Value.int .i64 ((l.length : Int) + 1)] = stC (l ++ [x]) := by
        unfold stC
        rw [lay_app _ _ _ l32.symm, List.append_assoc, List.length_append]
        rfl
      rw [← e2]
      exact sA) (fun φ h => by cases h)
theorem spop_nil (g : Nat) (w : World) (h : Rd1 w (blk g (stC []) 144)) :
    Calls Try.prog 75 [.pointer (some ⟨g, 0, none⟩)].toArray w fun e w' => e = .returned (.tuple #[.agg #[.pointer none, .int .i64 0], .bool false]) ∧ Below w.heap.size w w' := by
  refine g_enter0 T [] [] [blk g (stC []) 144] Try.func75 rfl Try.ntmps75 rfl (Rds.cons h .nil).kn ?_
  (repeat (refine gG ?_; try intro _))
  rename_i g2 g4
  refine g_yd rfl rfl ((ys_load_cs (S := [blk g (stC []) 144]) hT [.int .i64 0] rfl rfl mE (stC_n (l := []) (by decide)) rfl rfl).ydS sF) ?_
  (repeat (refine gG ?_; try intro _))
  refine gk_cond_p rfl rfl rfl ?_
  (repeat (refine gG ?_; try intro _))
  refine gk_ret hT rfl rfl (.cell rfl mE rfl rfl (.tmp rfl .nil)) (fun w' hk => ?_)
  exact ⟨rfl, hk.toBelow⟩
theorem spop_one (g : Nat) (l : List (Nat × Nat)) (x : Nat × Nat) (w : World) (hl : l.length < 16) (h : w.heap[g]? = some (.cells (stC (l ++ [x])).toArray 144 (0, 0))) :
    Calls Try.prog 75 [.pointer (some ⟨g, 0, none⟩)].toArray w (RetW g 144 [] (fun _ : Unit => True) (fun _ => .tuple #[stepV x, .bool true]) (fun _ => stC l) (fun _ => []) (fun _ => []) w) := by
  have hl1 : (l ++ [x]).length = l.length + 1 := by rw [List.length_append]; rfl
  have hl2 : (l ++ [x]).length ≤ 16 := by omega
  have l32 : (flatF 2 OE (padS (l ++ [x]))).length = 32 := flat_len hl2
  have cn : ∀ i v, [Value.int .i64 l.length][i]? = some v → (flatF 2 OE (padS (l ++ [x])) ++ [Value.int .i64 l.length, .int .i64 16])[32 + i]? = some v := fun i v hv => by
    rw [List.getElem?_append_right (by rw [l32]; omega), l32]
    match i, hv with
    | 0, hv => exact hv
  have cx : ∀ i v, [Value.pointer (some ⟨x.1, 0, none⟩), .int .i64 x.2][i]? = some v → (flatF 2 OE (padS (l ++ [x])) ++ [Value.int .i64 l.length, .int .i64 16])[l.length * 2 + i]? = some v := fun i v hv => by
    have hi : i < 2 := by
      match i, hv with
      | 0, _ => omega
      | 1, _ => omega
    have := stC_step hl2 i v hv
    unfold stC at this
    rw [List.getElem?_append_left (by rw [l32]; omega)] at this ⊢
    exact this
  refine g_enter0 T [g] [blk g (stC (l ++ [x])) 144] [] Try.func75 rfl Try.ntmps75 rfl (Kn.startW h) ?_
  (repeat (refine gG ?_; try intro _))
  rename_i g2 g4
  refine g_yd rfl rfl ((ys_load_cs (S := [blk g (stC (l ++ [x])) 144]) hT [.int .i64 (l ++ [x]).length] rfl rfl mE (stC_n hl2) rfl rfl).ydS sF) ?_
  (repeat (refine gG ?_; try intro _))
  refine gk_cond_n rfl rfl (by omega) ?_
  (repeat (refine gG ?_; try intro _))
  refine g_yd rfl rfl ((ys_load_cs (S := [blk g (stC (l ++ [x])) 144]) hT [.int .i64 (l ++ [x]).length] rfl rfl mE (stC_n hl2) rfl rfl).ydS sF) ?_
  (repeat (refine gG ?_; try intro _))
  refine g_mv rfl (mv_storeL hT rfl rfl rfl rfl rfl rfl (by first | ((repeat (first | with_reducible exact Upd.here _ | with_reducible apply Upd.there)); done) | ((repeat (first | exact Upd.here _ | apply Upd.there)); done) | fail) (by rw [stC_len hl2]; show 0 + 32 + 1 ≤ 34; decide) rfl ?_)
  have e1 : lay (stC (l ++ [x])) (0 + 32) [.int .i64 (((l ++ [x]).length : Int) - 1)] = flatF 2 OE (padS (l ++ [x])) ++ [Value.int .i64 l.length, .int .i64 16] := by
    have := lay_n hl2 l.length
    rw [← this]
    congr 3
    omega
  rw [e1]
  (repeat (refine gG ?_; try intro _))
  refine gk_any [0, 1, 2] (Cut _ (fun g5 : Nat => [(0, .pointer (some ⟨g, 0, none⟩)), (2, .pointer (some ⟨g2, 0, none⟩)), (4, .pointer (some ⟨g4, 0, none⟩)), (5, .pointer (some ⟨g5, 0, none⟩))]) (fun g5 => [blk g5 [.pointer (some ⟨x.1, 0, none⟩), .int .i64 x.2] 131, blk g4 [.pointer none, .int .i64 0] 131, blk g2 [.pointer none, .int .i64 0] 131, blk g (flatF 2 OE (padS (l ++ [x])) ++ [.int .i64 l.length, .int .i64 16]) 144]) (fun _ => [])) rfl rfl (by kernel_rfl) ?_ (cut_k fun g5 => ?_)
  · skip
    refine gb_take 0 rfl (by decide +kernel) rfl rfl (ys_ev (nw := true) hT rfl sI) sF ?_
    refine gb_take 1 rfl (by decide +kernel) rfl rfl (ys_ev (nw := true) hT rfl sI) sF ?_
    refine gb_take 2 rfl (by decide +kernel) rfl rfl (ys_ev (nw := true) hT rfl sI) sF ?_
    refine gb_take 3 rfl (by decide +kernel) rfl rfl (ys_ev (nw := true) hT rfl sI) sF ?_
    refine gb_take 4 rfl (by decide +kernel) rfl rfl (ys_load_cs hT [.int .i64 l.length] rfl rfl mE cn rfl rfl) sF ?_
    refine gb_take 5 rfl (by decide +kernel) rfl rfl (ys_ev (nw := true) hT rfl sI) sF ?_
    refine gb_take 6 rfl (by decide +kernel) rfl rfl (ys_ev (nw := true) hT rfl sI) sF ?_
    refine gb_take 7 rfl (by decide +kernel) rfl rfl (ys_ev (nw := true) hT rfl sI) sF ?_
    try (refine gb_say 26 (.pointer (some ⟨g, l.length * 2, none⟩)) rfl (by congr 3; omega) ?_)
    refine gb_take 8 rfl (by decide +kernel) rfl rfl (ys_load_cs hT [.pointer (some ⟨x.1, 0, none⟩), .int .i64 x.2] rfl rfl mE cx rfl rfl) sF ?_
    refine gb_only 9 (by decide +kernel) rfl rfl ?_
    first | (refine mv_box rfl rfl rfl rfl ?_; intro _) | (refine mv_alloc rfl hT rfl rfl ?_; intro _) | refine mv_store hT rfl rfl rfl rfl rfl rfl sO rfl ?_ | (refine mv_buildSlice rfl hT rfl rfl rfl rfl rfl rfl rfl rfl ?_; intro _)
    refine ⟨sF, ?_⟩
    refine gb_only 10 (by decide +kernel) rfl rfl ?_
    first | (refine mv_box rfl rfl rfl rfl ?_; intro _) | (refine mv_alloc rfl hT rfl rfl ?_; intro _) | refine mv_store hT rfl rfl rfl rfl rfl rfl sO rfl ?_ | (refine mv_buildSlice rfl hT rfl rfl rfl rfl rfl rfl rfl rfl ?_; intro _)
    refine ⟨sF, ?_⟩
    refine gb_nil (by decide +kernel) ?_
    exact ⟨_, (by repeat (first | exact trivial | refine ⟨rfl, ?_⟩)), sA, sS⟩
  · skip
    refine gk_any [0, 1, 2] (Cut _ (fun _ : Unit => [(0, .pointer (some ⟨g, 0, none⟩)), (2, .pointer (some ⟨g2, 0, none⟩)), (5, .pointer (some ⟨g5, 0, none⟩))]) (fun _ => [blk g5 [.pointer (some ⟨x.1, 0, none⟩), .int .i64 x.2] 131, blk g2 [.pointer none, .int .i64 0] 131, blk g (lay (flatF 2 OE (padS (l ++ [x])) ++ [.int .i64 l.length, .int .i64 16]) (l.length * 2) [.pointer none, .int .i64 0]) 144]) (fun _ => [])) rfl rfl (by kernel_rfl) ?_ (cut_k fun _ => ?_)
    · skip
      refine gb_take 0 rfl (by decide +kernel) rfl rfl (ys_ev (nw := true) hT rfl sI) sF ?_
      refine gb_take 1 rfl (by decide +kernel) rfl rfl (ys_ev (nw := true) hT rfl sI) sF ?_
      refine gb_take 2 rfl (by decide +kernel) rfl rfl (ys_ev (nw := true) hT rfl sI) sF ?_
      refine gb_take 3 rfl (by decide +kernel) rfl rfl (ys_ev (nw := true) hT rfl sI) sF ?_
      refine gb_take 5 rfl (by decide +kernel) rfl rfl (by first | exact ys_blk hT rfl rfl mE rfl rfl | exact ys_row hT rfl rfl mE rfl rfl | exact ys_row0 hT rfl rfl mE rfl rfl) sF ?_
      refine gb_take 6 rfl (by decide +kernel) rfl rfl (ys_ev (nw := true) hT rfl sI) sF ?_
      refine gb_take 7 rfl (by decide +kernel) rfl rfl (ys_ev (nw := true) hT rfl sI) sF ?_
      refine gb_only 4 (by decide +kernel) rfl rfl ?_
      refine mv_yd rfl ((ys_load_cs (S := [blk g (flatF 2 OE (padS (l ++ [x])) ++ [.int .i64 l.length, .int .i64 16]) 144]) hT [.int .i64 l.length] rfl rfl mE cn rfl rfl).ydS sF) ?_
      refine ⟨sF, ?_⟩
      refine gb_take 8 rfl (by decide +kernel) rfl rfl (ys_ev (nw := true) hT rfl sI) sF ?_
      try (refine gb_say 36 (.pointer (some ⟨g, l.length * 2, none⟩)) rfl (by congr 3; omega) ?_)
      refine gb_only 9 (by decide +kernel) rfl rfl ?_
      refine mv_storeL hT rfl rfl rfl rfl rfl rfl (by first | ((repeat (first | with_reducible exact Upd.here _ | with_reducible apply Upd.there)); done) | ((repeat (first | exact Upd.here _ | apply Upd.there)); done) | fail) (by rw [List.length_append, l32]; show l.length * 2 + 2 ≤ 32 + 2; omega) rfl ?_
      refine ⟨sF, ?_⟩
      refine gb_nil (by decide +kernel) ?_
      exact ⟨(), (by repeat (first | exact trivial | refine ⟨rfl, ?_⟩)), sA, sS⟩
    · have e2 : lay (flatF 2 OE (padS (l ++ [x])) ++ [Value.int .i64 l.length, .int .i64 16]) (l.length * 2) [.pointer none, .int .i64 0] = stC l :=
        (lay_flat 2 OE (by decide) (padS (l ++ [x])) _ l.length none (by rw [pad_len hl2]; omega)).trans (by rw [pad_pop hl]; rfl)
      rw [e2]
      (repeat (refine gG ?_; try intro _))
      refine gk_ret hT rfl rfl (.cell rfl mE rfl rfl (.tmp rfl .nil)) (fun w' hk => ?_)
      exact RetW.mk () trivial rfl hk sA (fun φ h => by cases h)
theorem spop_any (g : Nat) (xs : List (Nat × Nat)) (w : World) (hl : xs.length ≤ 16) (h : w.heap[g]? = some (.cells (stC xs).toArray 144 (0, 0))) :
    Calls Try.prog 75 [.pointer (some ⟨g, 0, none⟩)].toArray w (RetW g 144 [] (fun _ : Unit => True) (fun _ => .tuple #[.agg #[pA xs, pI xs], .bool (!xs.isEmpty)]) (fun _ => stC xs.dropLast) (fun _ => []) (fun _ => []) w) := by
  rcases List.eq_nil_or_concat xs with rfl | ⟨l, x, rfl⟩
  · refine (spop_nil g w ⟨h, fun b hb => ?_⟩).mono ?_
    · have : b = g := hb
      subst this
      rcases Nat.lt_or_ge b w.heap.size with h' | h'
      · exact h'
      · rw [Array.getElem?_eq_none h'] at h; cases h
    · rintro e w' ⟨e1, hb⟩
      exact ⟨(), trivial, e1, below_freshW hb h, fun φ h => by cases h⟩
  · rw [List.concat_eq_append] at h hl ⊢
    rw [pA_snoc, pI_snoc, List.dropLast_concat, show (!(l ++ [x]).isEmpty) = true by simp]
    exact spop_one g l x w (by rw [List.length_append] at hl; simp at hl; omega) h
end Go.Proofs.Ytahfjkibononfaa.Ws

