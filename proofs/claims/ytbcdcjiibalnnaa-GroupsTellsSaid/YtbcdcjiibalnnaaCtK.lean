/- The reference's Delete of a volume. -/
import Derived.Test.YtbcdcjiibalnnaaCtJ
namespace Go.Proofs.Ytbcdcjiibalnnaa.Ct
open Go.RowKit Mem Gx
set_option linter.unusedVariables false
set_option linter.unusedSimpArgs false
set_option maxRecDepth 100000
set_option maxHeartbeats 400000
/-- Without those of a number. -/
def woF {α : Type} (f : α → Int) (id : Int) (L : List α) : List α := L.filter fun x => decide (f x ≠ id)
/-- Numbers that differ. -/
def Dis {α : Type} (f : α → Int) (L : List α) : Prop := ∀ (i k : Nat) (x y : α), k < i → L[i]? = some x → L[k]? = some y → f y ≠ f x
theorem wo_all {α : Type} {f : α → Int} {id : Int} {L : List α} (h : ∀ x, x ∈ L → f x ≠ id) : woF f id L = L := List.filter_eq_self.2 fun x hx => by simpa using h x hx
theorem wo_pos {α : Type} (f : α → Int) (id : Int) : ∀ (L : List α) (i : Nat), pos (L.map f) id = some i → Dis f L → woF f id L = L.take i ++ L.drop (i + 1)
  | [], i, h, _ => by cases h
  | x :: r, i, h, hd => by
    rw [List.map_cons] at h
    unfold pos at h
    by_cases e : f x = id
    · rw [if_pos e] at h
      injection h with h
      subst h
      have h1 : woF f id r = r := wo_all fun y hy => by
        obtain ⟨j, hj⟩ := List.getElem?_of_mem hy
        have := hd (j + 1) 0 y x (Nat.succ_pos _) (by simpa using hj) rfl
        rw [e] at this
        exact fun h => this h.symm
      show (x :: r).filter _ = _
      rw [List.filter_cons_of_neg (by simp [e])]
      exact h1
    · rw [if_neg e] at h
      cases hp : pos (r.map f) id with
      | none => rw [hp] at h; cases h
      | some j =>
        rw [hp] at h
        injection h with h
        subst h
        have ih := wo_pos f id r j hp fun i k a b hik ha hb => hd (i + 1) (k + 1) a b (by omega) (by simpa using ha) (by simpa using hb)
        show (x :: r).filter _ = _
        rw [List.filter_cons_of_pos (by simp [e])]
        show x :: woF f id r = _
        rw [ih]
        rfl
theorem wo_yes {α : Type} {f : α → Int} {id : Int} {L : List α} {k : Nat} {x : α} (hx : L[k]? = some x) (h : f x ≠ id) : woF f id (L.take (k + 1)) = woF f id (L.take k) ++ [x] := by
  obtain ⟨h1, h2⟩ := List.getElem?_eq_some_iff.1 hx
  rw [List.take_succ_eq_append_getElem h1, h2]
  unfold woF
  rw [List.filter_append, List.filter_cons_of_pos (by simpa using h)]
  rfl
theorem wo_no {α : Type} {f : α → Int} {id : Int} {L : List α} {k : Nat} {x : α} (hx : L[k]? = some x) (h : f x = id) : woF f id (L.take (k + 1)) = woF f id (L.take k) := by
  obtain ⟨h1, h2⟩ := List.getElem?_eq_some_iff.1 hx
  rw [List.take_succ_eq_append_getElem h1, h2]
  unfold woF
  rw [List.filter_append, List.filter_cons_of_neg (by simpa using h)]
  simp
theorem wo_len {α : Type} {f : α → Int} {id : Int} {L : List α} {k : Nat} : (woF f id (L.take k)).length ≤ k := by
  have h1 := List.length_filter_le (fun x => decide (f x ≠ id)) (L.take k)
  have h2 := List.length_take_le k L
  unfold woF
  omega
theorem wo_mem {α : Type} {f : α → Int} {id : Int} {L : List α} {x : α} (h : x ∈ woF f id L) : x ∈ L := (List.mem_filter.1 h).1
theorem pos_get {α : Type} {f : α → Int} {L : List α} {id : Int} {i : Nat} (h : pos (L.map f) id = some i) : ∃ x, L[i]? = some x ∧ f x = id ∧ i < L.length := by
  have h1 := (pos_some h).1
  rw [List.getElem?_map] at h1
  cases hx : L[i]? with
  | none => rw [hx] at h1; cases h1
  | some x => rw [hx] at h1; exact ⟨x, rfl, Option.some.inj h1, (List.getElem?_eq_some_iff.1 hx).1⟩
theorem rdelete_any (c : CatD) (id : Int) (w : World) (hc : c.Ok) (h20 : c.V.length ≤ 20) (hd : Dis VolD.id c.V) (h : Rd1 w (catF c)) :
    Calls Try.prog 11 [c.val, .int .i64 id].toArray w (RetC2 c (delP c id) w) := by
  obtain ⟨nv, ng, nb, fl, ⟨vA, vm, vc⟩, V, ⟨gA, gm, gc⟩, G, ⟨bA, bm, bc⟩, B, ⟨kA, km, kd⟩, K, ⟨tA, tm, tc⟩, M⟩ := c
  have hn : vm = V.length := hc.v.n
  replace h20 : V.length ≤ 20 := h20
  replace hd : Dis VolD.id V := hd
  obtain ⟨x0, hx0⟩ : ∃ x, findV V id = x := ⟨_, rfl⟩
  have hpl : ∀ w, Rd1 w (catF (⟨nv, ng, nb, fl, ⟨vA, vm, vc⟩, V, ⟨gA, gm, gc⟩, G, ⟨bA, bm, bc⟩, B, ⟨kA, km, kd⟩, K, ⟨tA, tm, tc⟩, M⟩ : CatD)) → Calls Try.prog 38 [.agg #[.int .i64 nv, .int .i64 ng, .int .i64 nb, .int .u64 fl, .slice vA vm vc, .slice gA gm gc, .slice bA bm bc, .slice kA km kd, .slice tA tm tc], .int .i64 id].toArray w fun e w' => e = .returned (.tuple #[.agg #[.int .i64 x0.id, .int .u64 x0.q, .slice x0.s.A x0.s.n x0.s.c], .bool (pos (V.map VolD.id) id).isSome]) ∧ Below w.heap.size w w' := fun w h => by
    have := rfind_any (⟨nv, ng, nb, fl, ⟨vA, vm, vc⟩, V, ⟨gA, gm, gc⟩, G, ⟨bA, bm, bc⟩, B, ⟨kA, km, kd⟩, K, ⟨tA, tm, tc⟩, M⟩ : CatD) id w hc h
    rw [hx0] at this
    exact this
  cases hp : pos (V.map VolD.id) id with
  | none =>
    rw [hp] at hpl
    rw [delP_none hp]
    dsimp only [CatD.val]
    refine g_enter0 T [] [] [catF (⟨nv, ng, nb, fl, ⟨vA, vm, vc⟩, V, ⟨gA, gm, gc⟩, G, ⟨bA, bm, bc⟩, B, ⟨kA, km, kd⟩, K, ⟨tA, tm, tc⟩, M⟩ : CatD)] Try.func11 rfl Try.ntmps11 rfl (Rds.cons h .nil).kn ?_
    (repeat' (first | (first | refine g_nil ?_ | refine g_pure true hT rfl rfl rfl sI ?_ | refine g_skip rfl rfl ?_ | refine g_skip0 rfl rfl ?_ | refine gk_region rfl ?_ | refine gk_cond_t rfl rfl ?_ | refine gk_cond_f rfl rfl ?_ | refine g_yd rfl rfl (yd_load_blk hT rfl rfl mE rfl rfl) ?_ | refine g_yd rfl rfl (yd_load_row hT rfl rfl mE rfl rfl) ?_ | refine g_yd rfl rfl (yd_load_row0 hT rfl rfl mE rfl rfl) ?_ | refine g_yd rfl rfl (yd_eql rfl rfl rfl rfl rfl (by kernel_rfl)) ?_ | refine g_yd rfl rfl (yd_neq rfl rfl rfl rfl rfl (by kernel_rfl)) ?_ | refine g_yd rfl rfl (yd_index hT rfl rfl rfl sI rfl) ?_ | refine g_yd rfl rfl (yd_slice_nil hT rfl rfl rfl rfl) ?_ | refine g_yd rfl rfl (yd_build_arr hT rfl rfl rfl rfl rfl rfl) ?_ | (refine g_mv rfl ?_; first | (refine mv_box rfl rfl rfl rfl ?_; intro _) | (refine mv_alloc rfl hT rfl rfl ?_; intro _) | refine mv_store hT rfl rfl rfl rfl rfl rfl sO rfl ?_ | (refine mv_buildSlice rfl hT rfl rfl rfl rfl rfl rfl rfl rfl ?_; intro _)) | refine g_yd rfl rfl (Ys.yd (ys_str_eql hT rfl rfl rfl rfl)) ?_ | refine g_yd rfl rfl (Ys.yd (ys_str_neq hT rfl rfl rfl rfl)) ?_) | (refine g_mv rfl ?_; first | refine mv_call_bel (fun w hk => hpl w (hk.rR mE)) rfl rfl rfl rfl rfl (by kernel_rfl) ?_) | ((first | refine g_split rfl rfl tE (fun _ => ?_) (fun _ => ?_) | refine gk_cond rfl rfl tE (fun _ => ?_) (fun _ => ?_)) <;> (try first | (exfalso; omega; done) | (rename_i hx; exact absurd rfl hx) | (rename_i hx; cases hx; done)))))
    rename_i g2 g4 _
    refine gk_ret hT rfl rfl (.cell (g := g4) (cs := [.int .i64 0, .int .i64 0, .int .i64 0, .int .u64 0, .slice none 0 0, .slice none 0 0, .slice none 0 0, .slice none 0 0, .slice none 0 0]) (Tg := 29) rfl mE rfl rfl (.tmp rfl .nil)) (fun w' hk => ?_)
    exact RetS.mk (CatD.z, 40) ⟨z_ok, rfl⟩ rfl hk (.cons rs_z .nil)
  | some i =>
    rw [hp] at hpl
    rw [delP_some hp, ← wo_pos VolD.id id V i hp hd]
    dsimp only [CatD.val]
    refine g_enter0 T [] [] [catF (⟨nv, ng, nb, fl, ⟨vA, vm, vc⟩, V, ⟨gA, gm, gc⟩, G, ⟨bA, bm, bc⟩, B, ⟨kA, km, kd⟩, K, ⟨tA, tm, tc⟩, M⟩ : CatD)] Try.func11 rfl Try.ntmps11 rfl (Rds.cons h .nil).kn ?_
    refine gk_der [catF (⟨nv, ng, nb, fl, ⟨vA, vm, vc⟩, V, ⟨gA, gm, gc⟩, G, ⟨bA, bm, bc⟩, B, ⟨kA, km, kd⟩, K, ⟨tA, tm, tc⟩, M⟩ : CatD)] (φ := sl vA 3 VE V) d_v sS ?_
    (repeat' (first | (first | refine g_nil ?_ | refine g_pure true hT rfl rfl rfl sI ?_ | refine g_skip rfl rfl ?_ | refine g_skip0 rfl rfl ?_ | refine gk_region rfl ?_ | refine gk_cond_t rfl rfl ?_ | refine gk_cond_f rfl rfl ?_ | refine g_yd rfl rfl (yd_load_blk hT rfl rfl mE rfl rfl) ?_ | refine g_yd rfl rfl (yd_load_row hT rfl rfl mE rfl rfl) ?_ | refine g_yd rfl rfl (yd_load_row0 hT rfl rfl mE rfl rfl) ?_ | refine g_yd rfl rfl (yd_eql rfl rfl rfl rfl rfl (by kernel_rfl)) ?_ | refine g_yd rfl rfl (yd_neq rfl rfl rfl rfl rfl (by kernel_rfl)) ?_ | refine g_yd rfl rfl (yd_index hT rfl rfl rfl sI rfl) ?_ | refine g_yd rfl rfl (yd_slice_nil hT rfl rfl rfl rfl) ?_ | refine g_yd rfl rfl (yd_build_arr hT rfl rfl rfl rfl rfl rfl) ?_ | (refine g_mv rfl ?_; first | (refine mv_box rfl rfl rfl rfl ?_; intro _) | (refine mv_alloc rfl hT rfl rfl ?_; intro _) | refine mv_store hT rfl rfl rfl rfl rfl rfl sO rfl ?_ | (refine mv_buildSlice rfl hT rfl rfl rfl rfl rfl rfl rfl rfl ?_; intro _)) | refine g_yd rfl rfl (Ys.yd (ys_str_eql hT rfl rfl rfl rfl)) ?_ | refine g_yd rfl rfl (Ys.yd (ys_str_neq hT rfl rfl rfl rfl)) ?_) | (refine g_mv rfl ?_; first | refine mv_call_bel (fun w hk => hpl w (hk.rR mE)) rfl rfl rfl rfl rfl (by kernel_rfl) ?_) | ((first | refine g_split rfl rfl tE (fun _ => ?_) (fun _ => ?_) | refine gk_cond rfl rfl tE (fun _ => ?_) (fun _ => ?_)) <;> (try first | (exfalso; omega; done) | (rename_i hx; exact absurd rfl hx) | (rename_i hx; cases hx; done)))))
    rename_i g2 g4 g6
    refine gk_own 0 60 3 VE ?_
    refine gk_loop_sel (fun (q : Nat × Value) => match q with | (k, v) => (k ≤ vm)) (fun (q : Nat × Value) => match q with | (k, v) => [(1, .int .i64 id), (2, .pointer (some ⟨g2, 0, none⟩)), (4, .pointer (some ⟨g4, 0, none⟩)), (8, v), (9, .int .i64 k)]) (fun (q : Nat × Value) => match q with | (k, v) => [own 0 60 3 v VE (woF VolD.id id (V.take k)), blk g4 [.int .i64 0, .int .i64 0, .int .i64 0, .int .u64 0, .slice none 0 0, .slice none 0 0, .slice none 0 0, .slice none 0 0, .slice none 0 0] 29, blk g2 [.int .i64 nv, .int .i64 ng, .int .i64 nb, .int .u64 fl, .slice vA vm vc, .slice gA gm gc, .slice bA bm bc, .slice kA km kd, .slice tA tm tc] 29]) (fun (q : Nat × Value) => match q with | (k, v) => [sl vA 3 VE V, catF (⟨nv, ng, nb, fl, ⟨vA, vm, vc⟩, V, ⟨gA, gm, gc⟩, G, ⟨bA, bm, bc⟩, B, ⟨kA, km, kd⟩, K, ⟨tA, tm, tc⟩, M⟩ : CatD)]) (fun (q : Nat × Value) => match q with | (k, v) => vm - k) (0, .slice none 0 0) rfl (Nat.zero_le _) (by repeat (first | exact trivial | refine ⟨rfl, ?_⟩)) sA sS ?_
    rintro ⟨k, v⟩ hI
    replace hI : (k ≤ vm) := hI
    change GK _ _ [(1, .int .i64 id), (2, .pointer (some ⟨g2, 0, none⟩)), (4, .pointer (some ⟨g4, 0, none⟩)), (8, v), (9, .int .i64 k)] [own 0 60 3 v VE (woF VolD.id id (V.take k)), blk g4 [.int .i64 0, .int .i64 0, .int .i64 0, .int .u64 0, .slice none 0 0, .slice none 0 0, .slice none 0 0, .slice none 0 0, .slice none 0 0] 29, blk g2 [.int .i64 nv, .int .i64 ng, .int .i64 nb, .int .u64 fl, .slice vA vm vc, .slice gA gm gc, .slice bA bm bc, .slice kA km kd, .slice tA tm tc] 29] [sl vA 3 VE V, catF (⟨nv, ng, nb, fl, ⟨vA, vm, vc⟩, V, ⟨gA, gm, gc⟩, G, ⟨bA, bm, bc⟩, B, ⟨kA, km, kd⟩, K, ⟨tA, tm, tc⟩, M⟩ : CatD)]
    have hk1 : k ≤ vm := hI
    by_cases hlt : k < vm
    · obtain ⟨x, hx⟩ : ∃ x, V[k]? = some x := ⟨V[k], List.getElem?_eq_getElem (by omega)⟩
      refine gk_elem (enc := VE) (L := V) k mE (by omega) (by decide) (fun b o y eA hy => ?_)
      subst eA
      obtain rfl : x = y := by rw [hx] at hy; exact Option.some.inj hy
      have hl := wo_len (f := VolD.id) (id := id) (L := V) (k := k)
      (repeat (first | refine g_nil ?_ | refine g_pure true hT rfl rfl rfl sI ?_ | refine g_skip rfl rfl ?_ | refine g_skip0 rfl rfl ?_ | refine gk_region rfl ?_ | refine gk_cond_t rfl rfl ?_ | refine gk_cond_f rfl rfl ?_ | refine g_yd rfl rfl (yd_load_blk hT rfl rfl mE rfl rfl) ?_ | refine g_yd rfl rfl (yd_load_row hT rfl rfl mE rfl rfl) ?_ | refine g_yd rfl rfl (yd_load_row0 hT rfl rfl mE rfl rfl) ?_ | refine g_yd rfl rfl (yd_eql rfl rfl rfl rfl rfl (by kernel_rfl)) ?_ | refine g_yd rfl rfl (yd_neq rfl rfl rfl rfl rfl (by kernel_rfl)) ?_ | refine g_yd rfl rfl (yd_index hT rfl rfl rfl sI rfl) ?_ | refine g_yd rfl rfl (yd_slice_nil hT rfl rfl rfl rfl) ?_ | refine g_yd rfl rfl (yd_build_arr hT rfl rfl rfl rfl rfl rfl) ?_ | (refine g_mv rfl ?_; first | (refine mv_box rfl rfl rfl rfl ?_; intro _) | (refine mv_alloc rfl hT rfl rfl ?_; intro _) | refine mv_store hT rfl rfl rfl rfl rfl rfl sO rfl ?_ | (refine mv_buildSlice rfl hT rfl rfl rfl rfl rfl rfl rfl rfl ?_; intro _)) | refine g_yd rfl rfl (Ys.yd (ys_str_eql hT rfl rfl rfl rfl)) ?_ | refine g_yd rfl rfl (Ys.yd (ys_str_neq hT rfl rfl rfl rfl)) ?_))
      refine gk_cond rfl rfl (tells_tB _) (fun _ => ?_) (fun h => absurd (by omega) h)
      (repeat (first | refine g_nil ?_ | refine g_pure true hT rfl rfl rfl sI ?_ | refine g_skip rfl rfl ?_ | refine g_skip0 rfl rfl ?_ | refine gk_region rfl ?_ | refine gk_cond_t rfl rfl ?_ | refine gk_cond_f rfl rfl ?_ | refine g_yd rfl rfl (yd_load_blk hT rfl rfl mE rfl rfl) ?_ | refine g_yd rfl rfl (yd_load_row hT rfl rfl mE rfl rfl) ?_ | refine g_yd rfl rfl (yd_load_row0 hT rfl rfl mE rfl rfl) ?_ | refine g_yd rfl rfl (yd_eql rfl rfl rfl rfl rfl (by kernel_rfl)) ?_ | refine g_yd rfl rfl (yd_neq rfl rfl rfl rfl rfl (by kernel_rfl)) ?_ | refine g_yd rfl rfl (yd_index hT rfl rfl rfl sI rfl) ?_ | refine g_yd rfl rfl (yd_slice_nil hT rfl rfl rfl rfl) ?_ | refine g_yd rfl rfl (yd_build_arr hT rfl rfl rfl rfl rfl rfl) ?_ | (refine g_mv rfl ?_; first | (refine mv_box rfl rfl rfl rfl ?_; intro _) | (refine mv_alloc rfl hT rfl rfl ?_; intro _) | refine mv_store hT rfl rfl rfl rfl rfl rfl sO rfl ?_ | (refine mv_buildSlice rfl hT rfl rfl rfl rfl rfl rfl rfl rfl ?_; intro _)) | refine g_yd rfl rfl (Ys.yd (ys_str_eql hT rfl rfl rfl rfl)) ?_ | refine g_yd rfl rfl (Ys.yd (ys_str_neq hT rfl rfl rfl rfl)) ?_))
      refine gk_cond rfl rfl (tells_tB _) (fun he => ?_) (fun he => ?_)
      · (repeat (first | refine g_nil ?_ | refine g_pure true hT rfl rfl rfl sI ?_ | refine g_skip rfl rfl ?_ | refine g_skip0 rfl rfl ?_ | refine gk_region rfl ?_ | refine gk_cond_t rfl rfl ?_ | refine gk_cond_f rfl rfl ?_ | refine g_yd rfl rfl (yd_load_blk hT rfl rfl mE rfl rfl) ?_ | refine g_yd rfl rfl (yd_load_row hT rfl rfl mE rfl rfl) ?_ | refine g_yd rfl rfl (yd_load_row0 hT rfl rfl mE rfl rfl) ?_ | refine g_yd rfl rfl (yd_eql rfl rfl rfl rfl rfl (by kernel_rfl)) ?_ | refine g_yd rfl rfl (yd_neq rfl rfl rfl rfl rfl (by kernel_rfl)) ?_ | refine g_yd rfl rfl (yd_index hT rfl rfl rfl sI rfl) ?_ | refine g_yd rfl rfl (yd_slice_nil hT rfl rfl rfl rfl) ?_ | refine g_yd rfl rfl (yd_build_arr hT rfl rfl rfl rfl rfl rfl) ?_ | (refine g_mv rfl ?_; first | (refine mv_box rfl rfl rfl rfl ?_; intro _) | (refine mv_alloc rfl hT rfl rfl ?_; intro _) | refine mv_store hT rfl rfl rfl rfl rfl rfl sO rfl ?_ | (refine mv_buildSlice rfl hT rfl rfl rfl rfl rfl rfl rfl rfl ?_; intro _)) | refine g_yd rfl rfl (Ys.yd (ys_str_eql hT rfl rfl rfl rfl)) ?_ | refine g_yd rfl rfl (Ys.yd (ys_str_neq hT rfl rfl rfl rfl)) ?_))
        refine g_mv rfl (mv_append (L := woF VolD.id id (V.take k)) rfl [x] rfl rfl rfl rfl elt_V (by intro _; first | ((repeat (first | with_reducible exact Upd.here _ | with_reducible apply Upd.there)); done) | ((repeat (first | exact Upd.here _ | apply Upd.there)); done) | fail) (src_blk mE rfl) rfl oneV (by simp only [maxLen, List.length_cons, List.length_nil]; omega) (by simp only [List.length_cons, List.length_nil]; omega) (Nat.zero_le _) (fun v1 => ?_))
        rw [← wo_yes hx he]
        (repeat (first | refine g_nil ?_ | refine g_pure true hT rfl rfl rfl sI ?_ | refine g_skip rfl rfl ?_ | refine g_skip0 rfl rfl ?_ | refine gk_region rfl ?_ | refine gk_cond_t rfl rfl ?_ | refine gk_cond_f rfl rfl ?_ | refine g_yd rfl rfl (yd_load_blk hT rfl rfl mE rfl rfl) ?_ | refine g_yd rfl rfl (yd_load_row hT rfl rfl mE rfl rfl) ?_ | refine g_yd rfl rfl (yd_load_row0 hT rfl rfl mE rfl rfl) ?_ | refine g_yd rfl rfl (yd_eql rfl rfl rfl rfl rfl (by kernel_rfl)) ?_ | refine g_yd rfl rfl (yd_neq rfl rfl rfl rfl rfl (by kernel_rfl)) ?_ | refine g_yd rfl rfl (yd_index hT rfl rfl rfl sI rfl) ?_ | refine g_yd rfl rfl (yd_slice_nil hT rfl rfl rfl rfl) ?_ | refine g_yd rfl rfl (yd_build_arr hT rfl rfl rfl rfl rfl rfl) ?_ | (refine g_mv rfl ?_; first | (refine mv_box rfl rfl rfl rfl ?_; intro _) | (refine mv_alloc rfl hT rfl rfl ?_; intro _) | refine mv_store hT rfl rfl rfl rfl rfl rfl sO rfl ?_ | (refine mv_buildSlice rfl hT rfl rfl rfl rfl rfl rfl rfl rfl ?_; intro _)) | refine g_yd rfl rfl (Ys.yd (ys_str_eql hT rfl rfl rfl rfl)) ?_ | refine g_yd rfl rfl (Ys.yd (ys_str_neq hT rfl rfl rfl rfl)) ?_))
        refine gk_again_sel rfl (k + 1, v1) (by omega) (by dsimp only; omega) (by repeat (first | exact trivial | refine ⟨rfl, ?_⟩)) sA sS
      · have he' : x.id = id := Classical.not_not.1 he
        rw [← wo_no hx he']
        (repeat (first | refine g_nil ?_ | refine g_pure true hT rfl rfl rfl sI ?_ | refine g_skip rfl rfl ?_ | refine g_skip0 rfl rfl ?_ | refine gk_region rfl ?_ | refine gk_cond_t rfl rfl ?_ | refine gk_cond_f rfl rfl ?_ | refine g_yd rfl rfl (yd_load_blk hT rfl rfl mE rfl rfl) ?_ | refine g_yd rfl rfl (yd_load_row hT rfl rfl mE rfl rfl) ?_ | refine g_yd rfl rfl (yd_load_row0 hT rfl rfl mE rfl rfl) ?_ | refine g_yd rfl rfl (yd_eql rfl rfl rfl rfl rfl (by kernel_rfl)) ?_ | refine g_yd rfl rfl (yd_neq rfl rfl rfl rfl rfl (by kernel_rfl)) ?_ | refine g_yd rfl rfl (yd_index hT rfl rfl rfl sI rfl) ?_ | refine g_yd rfl rfl (yd_slice_nil hT rfl rfl rfl rfl) ?_ | refine g_yd rfl rfl (yd_build_arr hT rfl rfl rfl rfl rfl rfl) ?_ | (refine g_mv rfl ?_; first | (refine mv_box rfl rfl rfl rfl ?_; intro _) | (refine mv_alloc rfl hT rfl rfl ?_; intro _) | refine mv_store hT rfl rfl rfl rfl rfl rfl sO rfl ?_ | (refine mv_buildSlice rfl hT rfl rfl rfl rfl rfl rfl rfl rfl ?_; intro _)) | refine g_yd rfl rfl (Ys.yd (ys_str_eql hT rfl rfl rfl rfl)) ?_ | refine g_yd rfl rfl (Ys.yd (ys_str_neq hT rfl rfl rfl rfl)) ?_))
        refine gk_again_sel rfl (k + 1, v) (by omega) (by dsimp only; omega) (by repeat (first | exact trivial | refine ⟨rfl, ?_⟩)) sA sS
    · have hkn : V.take k = V := List.take_of_length_le (by omega)
      rw [hkn]
      (repeat (first | refine g_nil ?_ | refine g_pure true hT rfl rfl rfl sI ?_ | refine g_skip rfl rfl ?_ | refine g_skip0 rfl rfl ?_ | refine gk_region rfl ?_ | refine gk_cond_t rfl rfl ?_ | refine gk_cond_f rfl rfl ?_ | refine g_yd rfl rfl (yd_load_blk hT rfl rfl mE rfl rfl) ?_ | refine g_yd rfl rfl (yd_load_row hT rfl rfl mE rfl rfl) ?_ | refine g_yd rfl rfl (yd_load_row0 hT rfl rfl mE rfl rfl) ?_ | refine g_yd rfl rfl (yd_eql rfl rfl rfl rfl rfl (by kernel_rfl)) ?_ | refine g_yd rfl rfl (yd_neq rfl rfl rfl rfl rfl (by kernel_rfl)) ?_ | refine g_yd rfl rfl (yd_index hT rfl rfl rfl sI rfl) ?_ | refine g_yd rfl rfl (yd_slice_nil hT rfl rfl rfl rfl) ?_ | refine g_yd rfl rfl (yd_build_arr hT rfl rfl rfl rfl rfl rfl) ?_ | (refine g_mv rfl ?_; first | (refine mv_box rfl rfl rfl rfl ?_; intro _) | (refine mv_alloc rfl hT rfl rfl ?_; intro _) | refine mv_store hT rfl rfl rfl rfl rfl rfl sO rfl ?_ | (refine mv_buildSlice rfl hT rfl rfl rfl rfl rfl rfl rfl rfl ?_; intro _)) | refine g_yd rfl rfl (Ys.yd (ys_str_eql hT rfl rfl rfl rfl)) ?_ | refine g_yd rfl rfl (Ys.yd (ys_str_neq hT rfl rfl rfl rfl)) ?_))
      refine gk_cond rfl rfl (tells_tB _) (fun h => absurd h (by omega)) (fun _ => ?_)
      (repeat (first | refine g_nil ?_ | refine g_pure true hT rfl rfl rfl sI ?_ | refine g_skip rfl rfl ?_ | refine g_skip0 rfl rfl ?_ | refine gk_region rfl ?_ | refine gk_cond_t rfl rfl ?_ | refine gk_cond_f rfl rfl ?_ | refine g_yd rfl rfl (yd_load_blk hT rfl rfl mE rfl rfl) ?_ | refine g_yd rfl rfl (yd_load_row hT rfl rfl mE rfl rfl) ?_ | refine g_yd rfl rfl (yd_load_row0 hT rfl rfl mE rfl rfl) ?_ | refine g_yd rfl rfl (yd_eql rfl rfl rfl rfl rfl (by kernel_rfl)) ?_ | refine g_yd rfl rfl (yd_neq rfl rfl rfl rfl rfl (by kernel_rfl)) ?_ | refine g_yd rfl rfl (yd_index hT rfl rfl rfl sI rfl) ?_ | refine g_yd rfl rfl (yd_slice_nil hT rfl rfl rfl rfl) ?_ | refine g_yd rfl rfl (yd_build_arr hT rfl rfl rfl rfl rfl rfl) ?_ | (refine g_mv rfl ?_; first | (refine mv_box rfl rfl rfl rfl ?_; intro _) | (refine mv_alloc rfl hT rfl rfl ?_; intro _) | refine mv_store hT rfl rfl rfl rfl rfl rfl sO rfl ?_ | (refine mv_buildSlice rfl hT rfl rfl rfl rfl rfl rfl rfl rfl ?_; intro _)) | refine g_yd rfl rfl (Ys.yd (ys_str_eql hT rfl rfl rfl rfl)) ?_ | refine g_yd rfl rfl (Ys.yd (ys_str_neq hT rfl rfl rfl rfl)) ?_))
      refine g_freeze _ (by intro _; first | ((repeat (first | with_reducible exact Upd.here _ | with_reducible apply Upd.there)); done) | ((repeat (first | exact Upd.here _ | apply Upd.there)); done) | fail) (fun A2 c2 hA2 hA21 hA22 hA23 => ?_); subst hA2
      (repeat (first | refine g_nil ?_ | refine g_pure true hT rfl rfl rfl sI ?_ | refine g_skip rfl rfl ?_ | refine g_skip0 rfl rfl ?_ | refine gk_region rfl ?_ | refine gk_cond_t rfl rfl ?_ | refine gk_cond_f rfl rfl ?_ | refine g_yd rfl rfl (yd_load_blk hT rfl rfl mE rfl rfl) ?_ | refine g_yd rfl rfl (yd_load_row hT rfl rfl mE rfl rfl) ?_ | refine g_yd rfl rfl (yd_load_row0 hT rfl rfl mE rfl rfl) ?_ | refine g_yd rfl rfl (yd_eql rfl rfl rfl rfl rfl (by kernel_rfl)) ?_ | refine g_yd rfl rfl (yd_neq rfl rfl rfl rfl rfl (by kernel_rfl)) ?_ | refine g_yd rfl rfl (yd_index hT rfl rfl rfl sI rfl) ?_ | refine g_yd rfl rfl (yd_slice_nil hT rfl rfl rfl rfl) ?_ | refine g_yd rfl rfl (yd_build_arr hT rfl rfl rfl rfl rfl rfl) ?_ | (refine g_mv rfl ?_; first | (refine mv_box rfl rfl rfl rfl ?_; intro _) | (refine mv_alloc rfl hT rfl rfl ?_; intro _) | refine mv_store hT rfl rfl rfl rfl rfl rfl sO rfl ?_ | (refine mv_buildSlice rfl hT rfl rfl rfl rfl rfl rfl rfl rfl ?_; intro _)) | refine g_yd rfl rfl (Ys.yd (ys_str_eql hT rfl rfl rfl rfl)) ?_ | refine g_yd rfl rfl (Ys.yd (ys_str_neq hT rfl rfl rfl rfl)) ?_))
      refine gk_ret hT rfl rfl (.cell (g := g4) (cs := [.int .i64 nv, .int .i64 ng, .int .i64 nb, .int .u64 fl, .slice A2 (woF VolD.id id V).length c2, .slice gA gm gc, .slice bA bm bc, .slice kA km kd, .slice tA tm tc]) (Tg := 29) rfl mE rfl rfl (.tmp rfl .nil)) (fun w' hk => ?_)
      exact RetS.mk ((⟨nv, ng, nb, fl, ⟨A2, _, c2⟩, woF VolD.id id V, ⟨gA, gm, gc⟩, G, ⟨bA, bm, bc⟩, B, ⟨kA, km, kd⟩, K, ⟨tA, tm, tc⟩, M⟩ : CatD), 0) ⟨⟨⟨rfl, hA21, hA22, hA23⟩, hc.g, hc.b, hc.k, hc.t, fun x hx => hc.V x (wo_mem hx), hc.G, hc.B, fun x hx => hc.m x (wo_mem hx), hc.nv, hc.ng, hc.nb⟩, rfl⟩ rfl hk (.cons (catF_rs (RS1.own hk mE) (RS1.all fun x hx => part_rs hk mE (Der.elem d_V (wo_mem hx))) (part_rs hk mE d_g) (part_rs hk mE d_G) (part_rs hk mE d_b) (part_rs hk mE d_B) (part_rs hk mE d_k) (part_rs hk mE d_t)) .nil)
end Go.Proofs.Ytbcdcjiibalnnaa.Ct

