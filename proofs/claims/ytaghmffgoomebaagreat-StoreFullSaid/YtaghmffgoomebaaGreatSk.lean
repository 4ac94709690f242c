/- A stack of steps of a tree: New, Push, Pop, Len. -/
import Derived.Test.YtaghmffgoomebaaGreatGxL
namespace Go.Proofs.YtaghmffgoomebaaGreat.Sk
open Go.RowKit Mem Gx
set_option linter.unusedVariables false
set_option linter.unusedSimpArgs false
set_option maxRecDepth 100000
set_option maxHeartbeats 4000000
/-- A place of a stack: a step, or none. -/
def OE : Option (Nat × Nat) → Nat → Value
  | some x, 0 => .pointer (some ⟨x.1, 0, none⟩)
  | some x, _ + 1 => .int .i64 x.2
  | none, 0 => .pointer none
  | none, _ + 1 => .int .i64 0
def padS (l : List (Nat × Nat)) : List (Option (Nat × Nat)) := l.map some ++ List.replicate (16 - l.length) none
def stC (l : List (Nat × Nat)) : List Value := flatF 2 OE (padS l) ++ [.int .i64 l.length, .int .i64 16]
abbrev stepV (x : Nat × Nat) : Value := .agg #[.pointer (some ⟨x.1, 0, none⟩), .int .i64 x.2]
section
variable {l : List (Nat × Nat)} {x : Nat × Nat}
theorem pad_len (h : l.length ≤ 16) : (padS l).length = 16 := by
  unfold padS; rw [List.length_append, List.length_map, List.length_replicate]; omega
theorem flat_len (h : l.length ≤ 16) : (flatF 2 OE (padS l)).length = 32 := by rw [flatF_length, pad_len h]
theorem stC_len (h : l.length ≤ 16) : (stC l).length = 34 := by unfold stC; rw [List.length_append, flat_len h]; rfl
theorem stC_n (h : l.length ≤ 16) : ∀ i v, [Value.int .i64 l.length][i]? = some v → (stC l)[32 + i]? = some v := by
  intro i v hv
  unfold stC
  rw [List.getElem?_append_right (by rw [flat_len h]; omega), flat_len h]
  match i, hv with
  | 0, hv => exact hv
theorem stC_most (h : l.length ≤ 16) : ∀ i v, [Value.int .i64 16][i]? = some v → (stC l)[33 + i]? = some v := by
  intro i v hv
  unfold stC
  rw [List.getElem?_append_right (by rw [flat_len h]; omega), flat_len h]
  match i, hv with
  | 0, hv => exact hv
theorem stC_step (h : (l ++ [x]).length ≤ 16) : ∀ i v, [Value.pointer (some ⟨x.1, 0, none⟩), .int .i64 x.2][i]? = some v → (stC (l ++ [x]))[l.length * 2 + i]? = some v := by
  intro i v hv
  have hl : l.length < 16 := by rw [List.length_append] at h; simp at h; omega
  have hp : (padS (l ++ [x]))[l.length]? = some (some x) := by
    unfold padS
    rw [List.getElem?_append_left (by simp), List.getElem?_map]
    simp
  have hi : i < 2 := by
    match i, hv with
    | 0, _ => omega
    | 1, _ => omega
  unfold stC
  rw [List.getElem?_append_left (by rw [flat_len h]; omega), flatF_get 2 OE _ l.length i (some x) hp hi]
  match i, hv with
  | 0, hv => exact hv
  | 1, hv => exact hv
/-- A row of cells, one of its elements written. -/
theorem lay_flat {α : Type} (sz : Nat) (enc : α → Nat → Value) (hsz : 0 < sz) (M : List α) (rest : List Value) (k : Nat) (y : α) (hk : k < M.length) :
    lay (flatF sz enc M ++ rest) (k * sz) (encF enc y 0 sz) = flatF sz enc (M.set k y) ++ rest := by
  have e1 : flatF sz enc M = flatF sz enc (M.take k) ++ (flatF sz enc [M[k]] ++ flatF sz enc (M.drop (k + 1))) := by
    rw [← flatF_append, ← flatF_append, List.singleton_append]
    congr 1
    rw [← List.drop_eq_getElem_cons hk, List.take_append_drop]
  have lT : (flatF sz enc (M.take k)).length = k * sz := by rw [flatF_length, List.length_take, Nat.min_eq_left (by omega)]
  have lY : (flatF sz enc [M[k]]).length = sz := by rw [flatF_length]; simp
  have e2 : M.set k y = M.take k ++ ([y] ++ M.drop (k + 1)) := by
    rw [List.set_eq_take_append_cons_drop, if_pos hk]; rfl
  have e3 : flatF sz enc [y] = encF enc y 0 sz := by unfold flatF flatF; simp
  rw [e1, List.append_assoc, lay_app _ _ _ lT.symm, encF_len, List.append_assoc (flatF sz enc [M[k]]), List.drop_left' lY, e2, flatF_append, flatF_append, e3]
  simp only [List.append_assoc]
theorem lay_n (h : l.length ≤ 16) (m : Nat) : lay (stC l) 32 [.int .i64 m] = flatF 2 OE (padS l) ++ [.int .i64 m, .int .i64 16] := by
  unfold stC
  rw [lay_app _ _ _ (flat_len h).symm, List.append_assoc]
  rfl
theorem pad_push (h : l.length < 16) : (padS l).set l.length (some x) = padS (l ++ [x]) := by
  unfold padS
  rw [List.set_append_right _ _ (by rw [List.length_map]; omega), List.length_map, Nat.sub_self, List.length_append, List.map_append, List.append_assoc]
  congr 1
  obtain ⟨m, hm⟩ : ∃ m, 16 - l.length = m + 1 := ⟨15 - l.length, by omega⟩
  rw [hm, List.replicate_succ, List.set_cons_zero]
  simp only [List.length_cons, List.length_nil, List.map_cons, List.map_nil, List.singleton_append]
  congr 2
  omega
theorem pad_pop (h : l.length < 16) : (padS (l ++ [x])).set l.length none = padS l := by
  unfold padS
  rw [List.map_append, List.append_assoc, List.set_append_right _ _ (by rw [List.length_map]; omega), List.length_map, Nat.sub_self, List.length_append]
  congr 1
  obtain ⟨m, hm⟩ : ∃ m, 16 - l.length = m + 1 := ⟨15 - l.length, by omega⟩
  rw [hm, List.replicate_succ]
  simp only [List.length_cons, List.length_nil, List.map_cons, List.map_nil, List.singleton_append, List.set_cons_zero]
  congr 2
  omega
end
theorem snew_any (w : World) : Calls Tryz.prog 86 [.int .i64 16].toArray w (Ret (fun _ : Nat => True) (fun g => .pointer (some ⟨g, 0, none⟩)) (fun g => [blk g (stC []) 180]) w) := by
  refine g_enter0 T [] [] [] Tryz.func86 rfl Tryz.ntmps86 rfl (Kn.start _) ?_
  (repeat (refine gG ?_; try intro _))
  refine g_yd rfl rfl (Ys.yd (ys_max 16 rfl rfl rfl (by decide))) ?_
  refine g_yd rfl rfl (Ys.yd (ys_min 16 rfl rfl rfl (by decide))) ?_
  (repeat (refine gG ?_; try intro _))
  rename_i g
  refine gk_ret hT rfl rfl (.tmp rfl .nil) (fun w' hk => ?_)
  exact Ret.mk g trivial rfl hk sA
theorem spush_any (g : Nat) (l : List (Nat × Nat)) (x : Nat × Nat) (w : World) (hl : l.length < 16) (h : w.heap[g]? = some (.cells (stC l).toArray 180 (0, 0))) :
    Calls Tryz.prog 88 [.pointer (some ⟨g, 0, none⟩), stepV x].toArray w (RetW g 180 [] (fun _ : Unit => True) (fun _ => .bool true) (fun _ => stC (l ++ [x])) (fun _ => []) (fun _ => []) w) := by
  refine g_enter0 T [g] [blk g (stC l) 180] [] Tryz.func88 rfl Tryz.ntmps88 rfl (Kn.startW h) ?_
  (repeat (refine gG ?_; try intro _))
  rename_i g3
  refine gk_drawn_at [1] rfl rfl (by kernel_rfl) ?_
  (repeat (first | refine ga_nil (by decide +kernel) ?_ | refine ga_take (by decide +kernel) rfl rfl (ys_ev (nw := true) hT rfl sI) sF ?_ | refine ga_skip (by decide +kernel) rfl rfl sF ?_ | refine ga_take (by decide +kernel) rfl rfl (ys_blk hT rfl rfl mE rfl rfl) sF ?_ | refine ga_take (by decide +kernel) rfl rfl (ys_row hT rfl rfl mE rfl rfl) sF ?_ | refine ga_take (by decide +kernel) rfl rfl (ys_row0 hT rfl rfl mE rfl rfl) sF ?_ | (refine ga_mv (by decide +kernel) rfl ?_; (first | (refine mv_box rfl rfl rfl rfl ?_; intro _) | (refine mv_alloc rfl hT rfl rfl ?_; intro _) | refine mv_store hT rfl rfl rfl rfl rfl rfl sO rfl ?_ | (refine mv_buildSlice rfl hT rfl rfl rfl rfl rfl rfl rfl rfl ?_; intro _)); refine ⟨sF, ?_⟩) | refine ga_take (by decide +kernel) rfl rfl (ys_eql rfl rfl rfl rfl rfl (by kernel_rfl)) sF ?_ | refine ga_take (by decide +kernel) rfl rfl (ys_neq rfl rfl rfl rfl rfl (by kernel_rfl)) sF ?_))
  refine ga_take (by decide +kernel) rfl rfl (ys_load_cs hT [.int .i64 l.length] rfl rfl mE (stC_n (by omega)) rfl rfl) sF ?_
  (repeat (first | refine ga_nil (by decide +kernel) ?_ | refine ga_take (by decide +kernel) rfl rfl (ys_ev (nw := true) hT rfl sI) sF ?_ | refine ga_skip (by decide +kernel) rfl rfl sF ?_ | refine ga_take (by decide +kernel) rfl rfl (ys_blk hT rfl rfl mE rfl rfl) sF ?_ | refine ga_take (by decide +kernel) rfl rfl (ys_row hT rfl rfl mE rfl rfl) sF ?_ | refine ga_take (by decide +kernel) rfl rfl (ys_row0 hT rfl rfl mE rfl rfl) sF ?_ | (refine ga_mv (by decide +kernel) rfl ?_; (first | (refine mv_box rfl rfl rfl rfl ?_; intro _) | (refine mv_alloc rfl hT rfl rfl ?_; intro _) | refine mv_store hT rfl rfl rfl rfl rfl rfl sO rfl ?_ | (refine mv_buildSlice rfl hT rfl rfl rfl rfl rfl rfl rfl rfl ?_; intro _)); refine ⟨sF, ?_⟩) | refine ga_take (by decide +kernel) rfl rfl (ys_eql rfl rfl rfl rfl rfl (by kernel_rfl)) sF ?_ | refine ga_take (by decide +kernel) rfl rfl (ys_neq rfl rfl rfl rfl rfl (by kernel_rfl)) sF ?_))
  refine ga_take (by decide +kernel) rfl rfl (ys_load_cs hT [.int .i64 16] rfl rfl mE (stC_most (by omega)) rfl rfl) sF ?_
  (repeat (first | refine ga_nil (by decide +kernel) ?_ | refine ga_take (by decide +kernel) rfl rfl (ys_ev (nw := true) hT rfl sI) sF ?_ | refine ga_skip (by decide +kernel) rfl rfl sF ?_ | refine ga_take (by decide +kernel) rfl rfl (ys_blk hT rfl rfl mE rfl rfl) sF ?_ | refine ga_take (by decide +kernel) rfl rfl (ys_row hT rfl rfl mE rfl rfl) sF ?_ | refine ga_take (by decide +kernel) rfl rfl (ys_row0 hT rfl rfl mE rfl rfl) sF ?_ | (refine ga_mv (by decide +kernel) rfl ?_; (first | (refine mv_box rfl rfl rfl rfl ?_; intro _) | (refine mv_alloc rfl hT rfl rfl ?_; intro _) | refine mv_store hT rfl rfl rfl rfl rfl rfl sO rfl ?_ | (refine mv_buildSlice rfl hT rfl rfl rfl rfl rfl rfl rfl rfl ?_; intro _)); refine ⟨sF, ?_⟩) | refine ga_take (by decide +kernel) rfl rfl (ys_eql rfl rfl rfl rfl rfl (by kernel_rfl)) sF ?_ | refine ga_take (by decide +kernel) rfl rfl (ys_neq rfl rfl rfl rfl rfl (by kernel_rfl)) sF ?_))
  refine gk_cond_n rfl rfl (by omega) ?_
  (repeat (refine gG ?_; try intro _))
  refine gk_any [0] (Cut _ (fun _ : Unit => [(0, .pointer (some ⟨g, 0, none⟩))]) (fun _ => [blk g (lay (stC l) (l.length * 2) [.pointer (some ⟨x.1, 0, none⟩), .int .i64 x.2]) 180]) (fun _ => [])) rfl rfl (by kernel_rfl) ?_ (cut_k fun _ => ?_)
  · skip
    refine gb_take 0 rfl (by decide +kernel) rfl rfl (ys_ev (nw := true) hT rfl sI) sF ?_
    refine gb_take 1 rfl (by decide +kernel) rfl rfl (ys_ev (nw := true) hT rfl sI) sF ?_
    refine gb_take 2 rfl (by decide +kernel) rfl rfl (ys_ev (nw := true) hT rfl sI) sF ?_
    refine gb_take 3 rfl (by decide +kernel) rfl rfl (ys_ev (nw := true) hT rfl sI) sF ?_
    refine gb_take 5 rfl (by decide +kernel) rfl rfl (by first | exact ys_blk hT rfl rfl mE rfl rfl | exact ys_row hT rfl rfl mE rfl rfl | exact ys_row0 hT rfl rfl mE rfl rfl) sF ?_
    refine gb_take 6 rfl (by decide +kernel) rfl rfl (ys_ev (nw := true) hT rfl sI) sF ?_
    refine gb_take 7 rfl (by decide +kernel) rfl rfl (ys_ev (nw := true) hT rfl sI) sF ?_
    refine gb_only 4 (by decide +kernel) rfl rfl ?_
    refine mv_yd rfl ((ys_load_cs (S := [blk g (stC l) 180]) hT [.int .i64 l.length] rfl rfl mE (stC_n (by omega)) rfl rfl).ydS sF) ?_
    refine ⟨sF, ?_⟩
    refine gb_take 8 rfl (by decide +kernel) rfl rfl (ys_ev (nw := true) hT rfl sI) sF ?_
    try (refine gb_say 22 (.pointer (some ⟨g, l.length * 2, none⟩)) rfl (by congr 3; omega) ?_)
    refine gb_only 9 (by decide +kernel) rfl rfl ?_
    refine mv_storeL hT rfl rfl rfl rfl rfl rfl (by first | ((repeat (first | with_reducible exact Upd.here _ | with_reducible apply Upd.there)); done) | ((repeat (first | exact Upd.here _ | apply Upd.there)); done) | fail) (by rw [stC_len (by omega)]; show l.length * 2 + 2 ≤ 34; omega) rfl ?_
    refine ⟨sF, ?_⟩
    refine gb_nil (by decide +kernel) ?_
    exact ⟨(), (by repeat (first | exact trivial | refine ⟨rfl, ?_⟩)), sA, sS⟩
  · have e1 : lay (stC l) (l.length * 2) [.pointer (some ⟨x.1, 0, none⟩), .int .i64 x.2] = flatF 2 OE (padS (l ++ [x])) ++ [.int .i64 l.length, .int .i64 16] := by
      unfold stC
      exact (lay_flat 2 OE (by decide) (padS l) _ l.length (some x) (by rw [pad_len (by omega)]; omega)).trans (by rw [pad_push hl])
    rw [e1]
    have l32 : (flatF 2 OE (padS (l ++ [x]))).length = 32 := flat_len (by rw [List.length_append]; exact hl)
    (repeat (refine gG ?_; try intro _))
    refine g_yd rfl rfl ((ys_load_cs (S := [blk g (flatF 2 OE (padS (l ++ [x])) ++ [.int .i64 l.length, .int .i64 16]) 180]) hT [.int .i64 l.length] rfl rfl mE (fun i v hv => ?_) rfl rfl).ydS sF) ?_
    · rw [List.getElem?_append_right (by rw [l32]; omega), l32]
      match i, hv with
      | 0, hv => exact hv
    (repeat (refine gG ?_; try intro _))
    refine g_mv rfl (mv_storeL hT rfl rfl rfl rfl rfl rfl (by first | ((repeat (first | with_reducible exact Upd.here _ | with_reducible apply Upd.there)); done) | ((repeat (first | exact Upd.here _ | apply Upd.there)); done) | fail) (by rw [List.length_append, l32]; show 0 + 32 + 1 ≤ 32 + 2; decide) rfl ?_)
    (repeat (refine gG ?_; try intro _))
    refine gk_ret hT rfl rfl (.tmp rfl .nil) (fun w' hk => ?_)
    refine RetW.mk () trivial rfl hk (by
      show SelAll (blk g (stC (l ++ [x])) 180 :: []) _
      have e2 : lay (flatF 2 OE (padS (l ++ [x])) ++ [Value.int .i64 l.length, .int .i64 16]) 32 [Value.int .i64 ((l.length : Int) + 1)] = stC (l ++ [x]) := by
        unfold stC
        rw [lay_app _ _ _ l32.symm, List.append_assoc, List.length_append]
        rfl
      rw [← e2]
      exact sA) (fun φ h => by cases h)
theorem spop_nil (g : Nat) (w : World) (h : Rd1 w (blk g (stC []) 180)) :
    Calls Tryz.prog 60 [.pointer (some ⟨g, 0, none⟩)].toArray w fun e w' => e = .returned (.tuple #[.agg #[.pointer none, .int .i64 0], .bool false]) ∧ Below w.heap.size w w' := by
  refine g_enter0 T [] [] [blk g (stC []) 180] Tryz.func60 rfl Tryz.ntmps60 rfl (Rds.cons h .nil).kn ?_
  (repeat (refine gG ?_; try intro _))
  rename_i g2 g4
  refine g_yd rfl rfl ((ys_load_cs (S := [blk g (stC []) 180]) hT [.int .i64 0] rfl rfl mE (stC_n (l := []) (by decide)) rfl rfl).ydS sF) ?_
  (repeat (refine gG ?_; try intro _))
  refine gk_cond_p rfl rfl rfl ?_
  (repeat (refine gG ?_; try intro _))
  refine gk_ret hT rfl rfl (.cell rfl mE rfl rfl (.tmp rfl .nil)) (fun w' hk => ?_)
  exact ⟨rfl, hk.toBelow⟩
theorem spop_one (g : Nat) (l : List (Nat × Nat)) (x : Nat × Nat) (w : World) (hl : l.length < 16) (h : w.heap[g]? = some (.cells (stC (l ++ [x])).toArray 180 (0, 0))) :
    Calls Tryz.prog 60 [.pointer (some ⟨g, 0, none⟩)].toArray w (RetW g 180 [] (fun _ : Unit => True) (fun _ => .tuple #[stepV x, .bool true]) (fun _ => stC l) (fun _ => []) (fun _ => []) w) := by
  have hl1 : (l ++ [x]).length = l.length + 1 := by rw [List.length_append]; rfl
  have hl2 : (l ++ [x]).length ≤ 16 := by omega
  have l32 : (flatF 2 OE (padS (l ++ [x]))).length = 32 := flat_len hl2
  have cn : ∀ i v, [Value.int .i64 l.length][i]? = some v → (flatF 2 OE (padS (l ++ [x])) ++ [Value.int .i64 l.length, .int .i64 16])[32 + i]? = some v := fun i v hv => by
    rw [List.getElem?_append_right (by rw [l32]; omega), l32]
    match i, hv with
    | 0, hv => exact hv
  have cx : ∀ i v, [Value.pointer (some ⟨x.1, 0, none⟩), .int .i64 x.2][i]? = some v → (flatF 2 OE (padS (l ++ [x])) ++ [Value.int .i64 l.length, .int .i64 16])[l.length * 2 + i]? = some v := fun i v hv => by
    have hi : i < 2 := by
      match i, hv with
      | 0, _ => omega
      | 1, _ => omega
    have := stC_step hl2 i v hv
    unfold stC at this
    rw [List.getElem?_append_left (by rw [l32]; omega)] at this ⊢
    exact this
  refine g_enter0 T [g] [blk g (stC (l ++ [x])) 180] [] Tryz.func60 rfl Tryz.ntmps60 rfl (Kn.startW h) ?_
  (repeat (refine gG ?_; try intro _))
  rename_i g2 g4
  refine g_yd rfl rfl ((ys_load_cs (S := [blk g (stC (l ++ [x])) 180]) hT [.int .i64 (l ++ [x]).length] rfl rfl mE (stC_n hl2) rfl rfl).ydS sF) ?_
  (repeat (refine gG ?_; try intro _))
  refine gk_cond_n rfl rfl (by omega) ?_
  (repeat (refine gG ?_; try intro _))
  refine g_yd rfl rfl ((ys_load_cs (S := [blk g (stC (l ++ [x])) 180]) hT [.int .i64 (l ++ [x]).length] rfl rfl mE (stC_n hl2) rfl rfl).ydS sF) ?_
  (repeat (refine gG ?_; try intro _))
  refine g_mv rfl (mv_storeL hT rfl rfl rfl rfl rfl rfl (by first | ((repeat (first | with_reducible exact Upd.here _ | with_reducible apply Upd.there)); done) | ((repeat (first | exact Upd.here _ | apply Upd.there)); done) | fail) (by rw [stC_len hl2]; show 0 + 32 + 1 ≤ 34; decide) rfl ?_)
  have e1 : lay (stC (l ++ [x])) (0 + 32) [.int .i64 (((l ++ [x]).length : Int) - 1)] = flatF 2 OE (padS (l ++ [x])) ++ [Value.int .i64 l.length, .int .i64 16] := by
    have := lay_n hl2 l.length
    rw [← this]
    congr 3
    omega
  rw [e1]
  (repeat (refine gG ?_; try intro _))
  refine gk_any [0, 1, 2] (Cut _ (fun g5 : Nat => [(0, .pointer (some ⟨g, 0, none⟩)), (2, .pointer (some ⟨g2, 0, none⟩)), (4, .pointer (some ⟨g4, 0, none⟩)), (5, .pointer (some ⟨g5, 0, none⟩))]) (fun g5 => [blk g5 [.pointer (some ⟨x.1, 0, none⟩), .int .i64 x.2] 138, blk g4 [.pointer none, .int .i64 0] 138, blk g2 [.pointer none, .int .i64 0] 138, blk g (flatF 2 OE (padS (l ++ [x])) ++ [.int .i64 l.length, .int .i64 16]) 180]) (fun _ => [])) rfl rfl (by kernel_rfl) ?_ (cut_k fun g5 => ?_)
  · skip
    refine gb_take 0 rfl (by decide +kernel) rfl rfl (ys_ev (nw := true) hT rfl sI) sF ?_
    refine gb_take 1 rfl (by decide +kernel) rfl rfl (ys_ev (nw := true) hT rfl sI) sF ?_
    refine gb_take 2 rfl (by decide +kernel) rfl rfl (ys_ev (nw := true) hT rfl sI) sF ?_
    refine gb_take 3 rfl (by decide +kernel) rfl rfl (ys_ev (nw := true) hT rfl sI) sF ?_
    refine gb_take 4 rfl (by decide +kernel) rfl rfl (ys_load_cs hT [.int .i64 l.length] rfl rfl mE cn rfl rfl) sF ?_
    refine gb_take 5 rfl (by decide +kernel) rfl rfl (ys_ev (nw := true) hT rfl sI) sF ?_
    refine gb_take 6 rfl (by decide +kernel) rfl rfl (ys_ev (nw := true) hT rfl sI) sF ?_
    refine gb_take 7 rfl (by decide +kernel) rfl rfl (ys_ev (nw := true) hT rfl sI) sF ?_
    try (refine gb_say 26 (.pointer (some ⟨g, l.length * 2, none⟩)) rfl (by congr 3; omega) ?_)
    refine gb_take 8 rfl (by decide +kernel) rfl rfl (ys_load_cs hT [.pointer (some ⟨x.1, 0, none⟩), .int .i64 x.2] rfl rfl mE cx rfl rfl) sF ?_
    refine gb_only 9 (by decide +kernel) rfl rfl ?_
    first | (refine mv_box rfl rfl rfl rfl ?_; intro _) | (refine mv_alloc rfl hT rfl rfl ?_; intro _) | refine mv_store hT rfl rfl rfl rfl rfl rfl sO rfl ?_ | (refine mv_buildSlice rfl hT rfl rfl rfl rfl rfl rfl rfl rfl ?_; intro _)
    refine ⟨sF, ?_⟩
    refine gb_only 10 (by decide +kernel) rfl rfl ?_
    first | (refine mv_box rfl rfl rfl rfl ?_; intro _) | (refine mv_alloc rfl hT rfl rfl ?_; intro _) | refine mv_store hT rfl rfl rfl rfl rfl rfl sO rfl ?_ | (refine mv_buildSlice rfl hT rfl rfl rfl rfl rfl rfl rfl rfl ?_; intro _)
    refine ⟨sF, ?_⟩
    refine gb_nil (by decide +kernel) ?_
    exact ⟨_, (by repeat (first | exact trivial | refine ⟨rfl, ?_⟩)), sA, sS⟩
  · skip
    refine gk_any [0, 1, 2] (Cut _ (fun _ : Unit => [(0, .pointer (some ⟨g, 0, none⟩)), (2, .pointer (some ⟨g2, 0, none⟩)), (5, .pointer (some ⟨g5, 0, none⟩))]) (fun _ => [blk g5 [.pointer (some ⟨x.1, 0, none⟩), .int .i64 x.2] 138, blk g2 [.pointer none, .int .i64 0] 138, blk g (lay (flatF 2 OE (padS (l ++ [x])) ++ [.int .i64 l.length, .int .i64 16]) (l.length * 2) [.pointer none, .int .i64 0]) 180]) (fun _ => [])) rfl rfl (by kernel_rfl) ?_ (cut_k fun _ => ?_)
    · skip
      refine gb_take 0 rfl (by decide +kernel) rfl rfl (ys_ev (nw := true) hT rfl sI) sF ?_
      refine gb_take 1 rfl (by decide +kernel) rfl rfl (ys_ev (nw := true) hT rfl sI) sF ?_
      refine gb_take 2 rfl (by decide +kernel) rfl rfl (ys_ev (nw := true) hT rfl sI) sF ?_
      refine gb_take 3 rfl (by decide +kernel) rfl rfl (ys_ev (nw := true) hT rfl sI) sF ?_
      refine gb_take 5 rfl (by decide +kernel) rfl rfl (by first | exact ys_blk hT rfl rfl mE rfl rfl | exact ys_row hT rfl rfl mE rfl rfl | exact ys_row0 hT rfl rfl mE rfl rfl) sF ?_
      refine gb_take 6 rfl (by decide +kernel) rfl rfl (ys_ev (nw := true) hT rfl sI) sF ?_
      refine gb_take 7 rfl (by decide +kernel) rfl rfl (ys_ev (nw := true) hT rfl sI) sF ?_
      refine gb_only 4 (by decide +kernel) rfl rfl ?_
      refine mv_yd rfl ((ys_load_cs (S := [blk g (flatF 2 OE (padS (l ++ [x])) ++ [.int .i64 l.length, .int .i64 16]) 180]) hT [.int .i64 l.length] rfl rfl mE cn rfl rfl).ydS sF) ?_
      refine ⟨sF, ?_⟩
      refine gb_take 8 rfl (by decide +kernel) rfl rfl (ys_ev (nw := true) hT rfl sI) sF ?_
      try (refine gb_say 36 (.pointer (some ⟨g, l.length * 2, none⟩)) rfl (by congr 3; omega) ?_)
      refine gb_only 9 (by decide +kernel) rfl rfl ?_
      refine mv_storeL hT rfl rfl rfl rfl rfl rfl (by first | ((repeat (first | with_reducible exact Upd.here _ | with_reducible apply Upd.there)); done) | ((repeat (first | exact Upd.here _ | apply Upd.there)); done) | fail) (by rw [List.length_append, l32]; show l.length * 2 + 2 ≤ 32 + 2; omega) rfl ?_
      refine ⟨sF, ?_⟩
      refine gb_nil (by decide +kernel) ?_
      exact ⟨(), (by repeat (first | exact trivial | refine ⟨rfl, ?_⟩)), sA, sS⟩
    · have e2 : lay (flatF 2 OE (padS (l ++ [x])) ++ [Value.int .i64 l.length, .int .i64 16]) (l.length * 2) [.pointer none, .int .i64 0] = stC l :=
        (lay_flat 2 OE (by decide) (padS (l ++ [x])) _ l.length none (by rw [pad_len hl2]; omega)).trans (by rw [pad_pop hl]; rfl)
      rw [e2]
      (repeat (refine gG ?_; try intro _))
      refine gk_ret hT rfl rfl (.cell rfl mE rfl rfl (.tmp rfl .nil)) (fun w' hk => ?_)
      exact RetW.mk () trivial rfl hk sA (fun φ h => by cases h)
/-- The last step, or none. -/
def pA (xs : List (Nat × Nat)) : Value := match xs.getLast? with | none => .pointer none | some x => .pointer (some ⟨x.1, 0, none⟩)
def pI (xs : List (Nat × Nat)) : Value := match xs.getLast? with | none => .int .i64 0 | some x => .int .i64 x.2
theorem pA_snoc (l : List (Nat × Nat)) (x : Nat × Nat) : pA (l ++ [x]) = .pointer (some ⟨x.1, 0, none⟩) := by unfold pA; rw [List.getLast?_concat]
theorem pI_snoc (l : List (Nat × Nat)) (x : Nat × Nat) : pI (l ++ [x]) = .int .i64 x.2 := by unfold pI; rw [List.getLast?_concat]
theorem p_one (xs : List (Nat × Nat)) : [pA xs, pI xs].all oneB = true := by
  unfold pA pI
  cases xs.getLast? <;> rfl
theorem below_freshW {g : Nat} {T : TypeId} {cs : List Value} {w w' : World} (hb : Below w.heap.size w w') (h : w.heap[g]? = some (.cells cs.toArray T (0, 0))) : FreshW g T cs w w' [] := by
  have k0 : Kn [g] w w [blk g cs T] [] := Kn.startW h
  exact (k0.below hb).outW sA
theorem spop_any (g : Nat) (xs : List (Nat × Nat)) (w : World) (hl : xs.length ≤ 16) (h : w.heap[g]? = some (.cells (stC xs).toArray 180 (0, 0))) :
    Calls Tryz.prog 60 [.pointer (some ⟨g, 0, none⟩)].toArray w (RetW g 180 [] (fun _ : Unit => True) (fun _ => .tuple #[.agg #[pA xs, pI xs], .bool (!xs.isEmpty)]) (fun _ => stC xs.dropLast) (fun _ => []) (fun _ => []) w) := by
  rcases List.eq_nil_or_concat xs with rfl | ⟨l, x, rfl⟩
  · refine (spop_nil g w ⟨h, fun b hb => ?_⟩).mono ?_
    · have : b = g := hb
      subst this
      rcases Nat.lt_or_ge b w.heap.size with h' | h'
      · exact h'
      · rw [Array.getElem?_eq_none h'] at h; cases h
    · rintro e w' ⟨e1, hb⟩
      exact ⟨(), trivial, e1, below_freshW hb h, fun φ h => by cases h⟩
  · rw [List.concat_eq_append] at h hl ⊢
    rw [pA_snoc, pI_snoc, List.dropLast_concat, show (!(l ++ [x]).isEmpty) = true by simp]
    exact spop_one g l x w (by rw [List.length_append] at hl; simp at hl; omega) h
end Go.Proofs.YtaghmffgoomebaaGreat.Sk
