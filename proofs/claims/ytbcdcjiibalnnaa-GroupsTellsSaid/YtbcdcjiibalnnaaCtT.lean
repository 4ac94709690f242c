/- points.Find, vols.Size; the fixed facts of the volumes. -/
import Derived.Test.YtbcdcjiibalnnaaCtL
namespace Go.Proofs.Ytbcdcjiibalnnaa.Ct
open Go.RowKit Mem Gx
set_option linter.unusedVariables false
set_option linter.unusedSimpArgs false
set_option maxRecDepth 100000
set_option maxHeartbeats 1000000
theorem pfind_any (c : CatD) (id : Int) (w : World) (hc : c.Ok) (h : Rd1 w (catF c)) :
    Calls Try.prog 41 [c.val, .int .i64 id].toArray w fun e w' => e = .returned (.tuple #[(findV c.V id).val, .bool (pos (c.V.map VolD.id) id).isSome]) ∧ Below w.heap.size w w' := by
  obtain ⟨nv, ng, nb, fl, ⟨vA, vm, vc⟩, V, ⟨gA, gm, gc⟩, G, ⟨bA, bm, bc⟩, B, ⟨kA, km, kd⟩, K, ⟨tA, tm, tc⟩, M⟩ := c
  have hn : vm = V.length := hc.v.n
  have hcc : vm ≤ vc := hc.v.c
  have hmx : vc ≤ maxLen := hc.v.mx
  unfold maxLen at hmx
  dsimp only [CatD.val]
  refine g_enter0 T [] [] [catF (⟨nv, ng, nb, fl, ⟨vA, vm, vc⟩, V, ⟨gA, gm, gc⟩, G, ⟨bA, bm, bc⟩, B, ⟨kA, km, kd⟩, K, ⟨tA, tm, tc⟩, M⟩ : CatD)] Try.func41 rfl Try.ntmps41 rfl (Rds.cons h .nil).kn ?_
  refine gk_der [catF (⟨nv, ng, nb, fl, ⟨vA, vm, vc⟩, V, ⟨gA, gm, gc⟩, G, ⟨bA, bm, bc⟩, B, ⟨kA, km, kd⟩, K, ⟨tA, tm, tc⟩, M⟩ : CatD)] (φ := sl vA 3 VE V) d_v sS ?_
  (repeat (first | refine g_nil ?_ | refine g_pure true hT rfl rfl rfl sI ?_ | refine g_skip rfl rfl ?_ | refine g_skip0 rfl rfl ?_ | refine gk_region rfl ?_ | refine gk_cond_t rfl rfl ?_ | refine gk_cond_f rfl rfl ?_ | refine g_yd rfl rfl (yd_load_blk hT rfl rfl mE rfl rfl) ?_ | refine g_yd rfl rfl (yd_load_row hT rfl rfl mE rfl rfl) ?_ | refine g_yd rfl rfl (yd_load_row0 hT rfl rfl mE rfl rfl) ?_ | refine g_yd rfl rfl (yd_eql rfl rfl rfl rfl rfl (by kernel_rfl)) ?_ | refine g_yd rfl rfl (yd_neq rfl rfl rfl rfl rfl (by kernel_rfl)) ?_ | refine g_yd rfl rfl (yd_index hT rfl rfl rfl sI rfl) ?_ | refine g_yd rfl rfl (yd_slice_nil hT rfl rfl rfl rfl) ?_ | refine g_yd rfl rfl (yd_build_arr hT rfl rfl rfl rfl rfl rfl) ?_ | (refine g_mv rfl ?_; first | (refine mv_box rfl rfl rfl rfl ?_; intro _) | (refine mv_alloc rfl hT rfl rfl ?_; intro _) | refine mv_store hT rfl rfl rfl rfl rfl rfl sO rfl ?_ | (refine mv_buildSlice rfl hT rfl rfl rfl rfl rfl rfl rfl rfl ?_; intro _)) | refine g_yd rfl rfl (Ys.yd (ys_str_eql hT rfl rfl rfl rfl)) ?_ | refine g_yd rfl rfl (Ys.yd (ys_str_neq hT rfl rfl rfl rfl)) ?_))
  rename_i g2 g4
  refine gk_loop_sel (fun (q : Nat × Nat) => match q with | (k, u) => (k ≤ vm ∧ ∀ i, i < k → (V.map VolD.id)[i]? ≠ some id)) (fun (q : Nat × Nat) => match q with | (k, u) => [(1, .int .i64 id), (4, .pointer (some ⟨g4, 0, none⟩)), (5, .bool false), (9, .slice vA vm vc), (10, .int .i64 vm), (11, .int .i64 k)]) (fun (q : Nat × Nat) => match q with | (k, u) => [blk g4 [.int .i64 0, .int .u64 0, .slice none 0 0] 60]) (fun (q : Nat × Nat) => match q with | (k, u) => [sl vA 3 VE V]) (fun (q : Nat × Nat) => match q with | (k, u) => vm - k) (0, 0) rfl ⟨Nat.zero_le _, fun i hi => absurd hi (Nat.not_lt_zero _)⟩ (by repeat (first | exact trivial | refine ⟨rfl, ?_⟩)) sA sS ?_
  rintro ⟨k, u⟩ hI
  replace hI : (k ≤ vm ∧ ∀ i, i < k → (V.map VolD.id)[i]? ≠ some id) := hI
  change GK _ _ [(1, .int .i64 id), (4, .pointer (some ⟨g4, 0, none⟩)), (5, .bool false), (9, .slice vA vm vc), (10, .int .i64 vm), (11, .int .i64 k)] [blk g4 [.int .i64 0, .int .u64 0, .slice none 0 0] 60] [sl vA 3 VE V]
  obtain ⟨hk1, hp⟩ := hI
  by_cases hlt : k < vm
  · obtain ⟨x, hx⟩ : ∃ x, V[k]? = some x := ⟨V[k], List.getElem?_eq_getElem (by omega)⟩
    refine gk_elem (enc := VE) (L := V) k mE (by omega) (by decide) (fun b o y eA hy => ?_)
    subst eA
    obtain rfl : x = y := by rw [hx] at hy; exact Option.some.inj hy
    (repeat (first | refine g_nil ?_ | refine g_pure true hT rfl rfl rfl sI ?_ | refine g_skip rfl rfl ?_ | refine g_skip0 rfl rfl ?_ | refine gk_region rfl ?_ | refine gk_cond_t rfl rfl ?_ | refine gk_cond_f rfl rfl ?_ | refine g_yd rfl rfl (yd_load_blk hT rfl rfl mE rfl rfl) ?_ | refine g_yd rfl rfl (yd_load_row hT rfl rfl mE rfl rfl) ?_ | refine g_yd rfl rfl (yd_load_row0 hT rfl rfl mE rfl rfl) ?_ | refine g_yd rfl rfl (yd_eql rfl rfl rfl rfl rfl (by kernel_rfl)) ?_ | refine g_yd rfl rfl (yd_neq rfl rfl rfl rfl rfl (by kernel_rfl)) ?_ | refine g_yd rfl rfl (yd_index hT rfl rfl rfl sI rfl) ?_ | refine g_yd rfl rfl (yd_slice_nil hT rfl rfl rfl rfl) ?_ | refine g_yd rfl rfl (yd_build_arr hT rfl rfl rfl rfl rfl rfl) ?_ | (refine g_mv rfl ?_; first | (refine mv_box rfl rfl rfl rfl ?_; intro _) | (refine mv_alloc rfl hT rfl rfl ?_; intro _) | refine mv_store hT rfl rfl rfl rfl rfl rfl sO rfl ?_ | (refine mv_buildSlice rfl hT rfl rfl rfl rfl rfl rfl rfl rfl ?_; intro _)) | refine g_yd rfl rfl (Ys.yd (ys_str_eql hT rfl rfl rfl rfl)) ?_ | refine g_yd rfl rfl (Ys.yd (ys_str_neq hT rfl rfl rfl rfl)) ?_))
    refine gk_cond rfl rfl (tells_tB _) (fun _ => ?_) (fun h => absurd (by omega) h)
    (repeat (first | refine g_nil ?_ | refine g_pure true hT rfl rfl rfl sI ?_ | refine g_skip rfl rfl ?_ | refine g_skip0 rfl rfl ?_ | refine gk_region rfl ?_ | refine gk_cond_t rfl rfl ?_ | refine gk_cond_f rfl rfl ?_ | refine g_yd rfl rfl (yd_load_blk hT rfl rfl mE rfl rfl) ?_ | refine g_yd rfl rfl (yd_load_row hT rfl rfl mE rfl rfl) ?_ | refine g_yd rfl rfl (yd_load_row0 hT rfl rfl mE rfl rfl) ?_ | refine g_yd rfl rfl (yd_eql rfl rfl rfl rfl rfl (by kernel_rfl)) ?_ | refine g_yd rfl rfl (yd_neq rfl rfl rfl rfl rfl (by kernel_rfl)) ?_ | refine g_yd rfl rfl (yd_index hT rfl rfl rfl sI rfl) ?_ | refine g_yd rfl rfl (yd_slice_nil hT rfl rfl rfl rfl) ?_ | refine g_yd rfl rfl (yd_build_arr hT rfl rfl rfl rfl rfl rfl) ?_ | (refine g_mv rfl ?_; first | (refine mv_box rfl rfl rfl rfl ?_; intro _) | (refine mv_alloc rfl hT rfl rfl ?_; intro _) | refine mv_store hT rfl rfl rfl rfl rfl rfl sO rfl ?_ | (refine mv_buildSlice rfl hT rfl rfl rfl rfl rfl rfl rfl rfl ?_; intro _)) | refine g_yd rfl rfl (Ys.yd (ys_str_eql hT rfl rfl rfl rfl)) ?_ | refine g_yd rfl rfl (Ys.yd (ys_str_neq hT rfl rfl rfl rfl)) ?_))
    refine gk_cond rfl rfl (tells_tB _) (fun he => ?_) (fun he => ?_)
    · (repeat (first | refine g_nil ?_ | refine g_pure true hT rfl rfl rfl sI ?_ | refine g_skip rfl rfl ?_ | refine g_skip0 rfl rfl ?_ | refine gk_region rfl ?_ | refine gk_cond_t rfl rfl ?_ | refine gk_cond_f rfl rfl ?_ | refine g_yd rfl rfl (yd_load_blk hT rfl rfl mE rfl rfl) ?_ | refine g_yd rfl rfl (yd_load_row hT rfl rfl mE rfl rfl) ?_ | refine g_yd rfl rfl (yd_load_row0 hT rfl rfl mE rfl rfl) ?_ | refine g_yd rfl rfl (yd_eql rfl rfl rfl rfl rfl (by kernel_rfl)) ?_ | refine g_yd rfl rfl (yd_neq rfl rfl rfl rfl rfl (by kernel_rfl)) ?_ | refine g_yd rfl rfl (yd_index hT rfl rfl rfl sI rfl) ?_ | refine g_yd rfl rfl (yd_slice_nil hT rfl rfl rfl rfl) ?_ | refine g_yd rfl rfl (yd_build_arr hT rfl rfl rfl rfl rfl rfl) ?_ | (refine g_mv rfl ?_; first | (refine mv_box rfl rfl rfl rfl ?_; intro _) | (refine mv_alloc rfl hT rfl rfl ?_; intro _) | refine mv_store hT rfl rfl rfl rfl rfl rfl sO rfl ?_ | (refine mv_buildSlice rfl hT rfl rfl rfl rfl rfl rfl rfl rfl ?_; intro _)) | refine g_yd rfl rfl (Ys.yd (ys_str_eql hT rfl rfl rfl rfl)) ?_ | refine g_yd rfl rfl (Ys.yd (ys_str_neq hT rfl rfl rfl rfl)) ?_))
      refine gk_ret hT rfl rfl (.cell rfl mE rfl rfl (.tmp rfl .nil)) (fun w' hk => ?_)
      obtain ⟨e1, e2⟩ := findV_at hx he hp
      refine ⟨?_, hk.toBelow⟩
      show _ = Ending.returned (.tuple #[(findV V id).val, .bool (pos (V.map VolD.id) id).isSome])
      rw [e1, e2]
      rfl
    · (repeat (first | refine g_nil ?_ | refine g_pure true hT rfl rfl rfl sI ?_ | refine g_skip rfl rfl ?_ | refine g_skip0 rfl rfl ?_ | refine gk_region rfl ?_ | refine gk_cond_t rfl rfl ?_ | refine gk_cond_f rfl rfl ?_ | refine g_yd rfl rfl (yd_load_blk hT rfl rfl mE rfl rfl) ?_ | refine g_yd rfl rfl (yd_load_row hT rfl rfl mE rfl rfl) ?_ | refine g_yd rfl rfl (yd_load_row0 hT rfl rfl mE rfl rfl) ?_ | refine g_yd rfl rfl (yd_eql rfl rfl rfl rfl rfl (by kernel_rfl)) ?_ | refine g_yd rfl rfl (yd_neq rfl rfl rfl rfl rfl (by kernel_rfl)) ?_ | refine g_yd rfl rfl (yd_index hT rfl rfl rfl sI rfl) ?_ | refine g_yd rfl rfl (yd_slice_nil hT rfl rfl rfl rfl) ?_ | refine g_yd rfl rfl (yd_build_arr hT rfl rfl rfl rfl rfl rfl) ?_ | (refine g_mv rfl ?_; first | (refine mv_box rfl rfl rfl rfl ?_; intro _) | (refine mv_alloc rfl hT rfl rfl ?_; intro _) | refine mv_store hT rfl rfl rfl rfl rfl rfl sO rfl ?_ | (refine mv_buildSlice rfl hT rfl rfl rfl rfl rfl rfl rfl rfl ?_; intro _)) | refine g_yd rfl rfl (Ys.yd (ys_str_eql hT rfl rfl rfl rfl)) ?_ | refine g_yd rfl rfl (Ys.yd (ys_str_neq hT rfl rfl rfl rfl)) ?_))
      refine gk_again_sel rfl (k + 1, u) ⟨by omega, fun i hi => by
        by_cases e : i = k
        · subst e; rw [List.getElem?_map, hx]; exact fun h => he (Option.some.inj h)
        · exact hp i (by omega)⟩ (by dsimp only; omega) (by repeat (first | exact trivial | refine ⟨rfl, ?_⟩)) sA sS
  · (repeat' (first | (first | refine g_nil ?_ | refine g_pure true hT rfl rfl rfl sI ?_ | refine g_skip rfl rfl ?_ | refine g_skip0 rfl rfl ?_ | refine gk_region rfl ?_ | refine gk_cond_t rfl rfl ?_ | refine gk_cond_f rfl rfl ?_ | refine g_yd rfl rfl (yd_load_blk hT rfl rfl mE rfl rfl) ?_ | refine g_yd rfl rfl (yd_load_row hT rfl rfl mE rfl rfl) ?_ | refine g_yd rfl rfl (yd_load_row0 hT rfl rfl mE rfl rfl) ?_ | refine g_yd rfl rfl (yd_eql rfl rfl rfl rfl rfl (by kernel_rfl)) ?_ | refine g_yd rfl rfl (yd_neq rfl rfl rfl rfl rfl (by kernel_rfl)) ?_ | refine g_yd rfl rfl (yd_index hT rfl rfl rfl sI rfl) ?_ | refine g_yd rfl rfl (yd_slice_nil hT rfl rfl rfl rfl) ?_ | refine g_yd rfl rfl (yd_build_arr hT rfl rfl rfl rfl rfl rfl) ?_ | (refine g_mv rfl ?_; first | (refine mv_box rfl rfl rfl rfl ?_; intro _) | (refine mv_alloc rfl hT rfl rfl ?_; intro _) | refine mv_store hT rfl rfl rfl rfl rfl rfl sO rfl ?_ | (refine mv_buildSlice rfl hT rfl rfl rfl rfl rfl rfl rfl rfl ?_; intro _)) | refine g_yd rfl rfl (Ys.yd (ys_str_eql hT rfl rfl rfl rfl)) ?_ | refine g_yd rfl rfl (Ys.yd (ys_str_neq hT rfl rfl rfl rfl)) ?_) | ((first | refine g_split rfl rfl tE (fun _ => ?_) (fun _ => ?_) | refine gk_cond rfl rfl tE (fun _ => ?_) (fun _ => ?_)) <;> (try first | (exfalso; omega; done) | (rename_i hx; exact absurd rfl hx) | (rename_i hx; cases hx; done)))))
    refine gk_ret hT rfl rfl (.cell rfl mE rfl rfl (.tmp rfl .nil)) (fun w' hk => ?_)
    obtain ⟨e1, e2⟩ := findV_no (L := V) (id := id) (n := k) (by omega) hp
    refine ⟨?_, hk.toBelow⟩
    show _ = Ending.returned (.tuple #[(findV V id).val, .bool (pos (V.map VolD.id) id).isSome])
    rw [e1, e2]
    rfl
theorem vsize_some (c : CatD) (id : Int) (i : Nat) (x : VolD) (w : World) (hc : c.Ok) (hp : pos (c.V.map VolD.id) id = some i) (hx : c.V[i]? = some x) (h9 : x.L.length ≤ 1000) (hr : ∀ y, y ∈ x.L → 0 ≤ y.n ∧ y.n ≤ 32) (h : Rd1 w (catF c)) :
    Calls Try.prog 40 [c.val, .int .i64 id].toArray w fun e w' => e = .returned (.tuple #[.int .i64 (nowD x.L), .int .i64 0]) ∧ Below w.heap.size w w' := by
  have hf : ∀ w, Rd1 w (catF c) → Calls Try.prog 41 [c.val, .int .i64 id].toArray w fun e w' => e = .returned (.tuple #[.agg #[.int .i64 x.id, .int .u64 x.q, .slice x.s.A x.s.n x.s.c], .bool true]) ∧ Below w.heap.size w w' := fun w h => by
    have := pfind_any c id w hc h
    have e : findV c.V id = x := by
      unfold findV
      rw [hp]
      show c.V.getD i default = x
      rw [List.getD_eq_getElem?_getD, hx]
      rfl
    rw [e, hp] at this
    exact this
  have hxm := List.mem_of_getElem? hx
  have hxs : x.s.n = x.L.length := (hc.V x hxm).n
  refine g_enter0 T [] [] [catF c] Try.func40 rfl Try.ntmps40 rfl (Rds.cons h .nil).kn ?_
  refine gk_der [catF c] (φ := sl x.s.A 2 ME x.L) (Der.elem (F := VolD.f) d_V hxm) sS ?_
  (repeat' (first | (first | refine g_nil ?_ | refine g_pure true hT rfl rfl rfl sI ?_ | refine g_skip rfl rfl ?_ | refine g_skip0 rfl rfl ?_ | refine gk_region rfl ?_ | refine gk_cond_t rfl rfl ?_ | refine gk_cond_f rfl rfl ?_ | refine g_yd rfl rfl (yd_load_blk hT rfl rfl mE rfl rfl) ?_ | refine g_yd rfl rfl (yd_load_row hT rfl rfl mE rfl rfl) ?_ | refine g_yd rfl rfl (yd_load_row0 hT rfl rfl mE rfl rfl) ?_ | refine g_yd rfl rfl (yd_eql rfl rfl rfl rfl rfl (by kernel_rfl)) ?_ | refine g_yd rfl rfl (yd_neq rfl rfl rfl rfl rfl (by kernel_rfl)) ?_ | refine g_yd rfl rfl (yd_index hT rfl rfl rfl sI rfl) ?_ | refine g_yd rfl rfl (yd_slice_nil hT rfl rfl rfl rfl) ?_ | refine g_yd rfl rfl (yd_build_arr hT rfl rfl rfl rfl rfl rfl) ?_ | (refine g_mv rfl ?_; first | (refine mv_box rfl rfl rfl rfl ?_; intro _) | (refine mv_alloc rfl hT rfl rfl ?_; intro _) | refine mv_store hT rfl rfl rfl rfl rfl rfl sO rfl ?_ | (refine mv_buildSlice rfl hT rfl rfl rfl rfl rfl rfl rfl rfl ?_; intro _)) | refine g_yd rfl rfl (Ys.yd (ys_str_eql hT rfl rfl rfl rfl)) ?_ | refine g_yd rfl rfl (Ys.yd (ys_str_neq hT rfl rfl rfl rfl)) ?_) | (refine g_mv rfl ?_; first | refine mv_call_bel (fun w hk => hf w (hk.rR mE)) rfl rfl rfl rfl rfl (by kernel_rfl) ?_ | refine mv_call_bel (fun w hk => snow_any x.s.A x.s.n x.s.c x.L w hxs h9 hr (hk.rR (φ := sl x.s.A 2 ME x.L) mE)) rfl rfl rfl rfl rfl (by kernel_rfl) ?_) | ((first | refine g_split rfl rfl tE (fun _ => ?_) (fun _ => ?_) | refine gk_cond rfl rfl tE (fun _ => ?_) (fun _ => ?_)) <;> (try first | (exfalso; omega; done) | (rename_i hx; exact absurd rfl hx) | (rename_i hx; cases hx; done)))))
  refine gk_ret hT rfl rfl (.tmp rfl (.tmp rfl .nil)) (fun w' hk => ?_)
  exact ⟨rfl, hk.toBelow⟩
theorem z_rd {w : World} : Rd1 w (catF CatD.z) := Rd1.all fun φ hφ => by
  rcases List.mem_cons.1 hφ with rfl | hφ
  · exact rd_nil
  rcases List.mem_cons.1 hφ with rfl | hφ
  · exact Rd1.all fun x hx => by cases hx
  rcases List.mem_cons.1 hφ with rfl | hφ
  · exact rd_nil
  rcases List.mem_cons.1 hφ with rfl | hφ
  · exact Rd1.all fun x hx => by cases hx
  rcases List.mem_cons.1 hφ with rfl | hφ
  · exact rd_nil
  rcases List.mem_cons.1 hφ with rfl | hφ
  · exact Rd1.all fun x hx => by cases hx
  rcases List.mem_cons.1 hφ with rfl | hφ
  · exact rd_nil
  rcases List.mem_cons.1 hφ with rfl | hφ
  · exact rd_nil
  · cases hφ
theorem valive (w : World) : Calls Try.prog 14 [].toArray w fun e w' => e = .returned (.bool true) ∧ Below w.heap.size w w' := by
  have hcr : ∀ w, Calls Try.prog 7 [.agg #[.int .i64 0, .int .i64 0, .int .i64 0, .int .u64 0, .slice none 0 0, .slice none 0 0, .slice none 0 0, .slice none 0 0, .slice none 0 0], .int .i64 4, .int .u64 9].toArray w (RetC3 CatD.z (⟨1, 0, 0, 0, [(1, 9, [⟨9, 4⟩])], [], [], [], []⟩, 1, 0) w) := fun w => by
    have := vcreate_any CatD.z 4 9 w z_ok (by decide) z_rd
    rw [cre_new (by omega) (by simp)] at this
    exact this
  refine g_enter0 T [] [] [catF CatD.z] Try.func14 rfl Try.ntmps14 rfl (Rds.cons z_rd .nil).kn ?_
  (repeat (first | refine g_nil ?_ | refine g_pure true hT rfl rfl rfl sI ?_ | refine g_skip rfl rfl ?_ | refine g_skip0 rfl rfl ?_ | refine gk_region rfl ?_ | refine gk_cond_t rfl rfl ?_ | refine gk_cond_f rfl rfl ?_ | refine g_yd rfl rfl (yd_load_blk hT rfl rfl mE rfl rfl) ?_ | refine g_yd rfl rfl (yd_load_row hT rfl rfl mE rfl rfl) ?_ | refine g_yd rfl rfl (yd_load_row0 hT rfl rfl mE rfl rfl) ?_ | refine g_yd rfl rfl (yd_eql rfl rfl rfl rfl rfl (by kernel_rfl)) ?_ | refine g_yd rfl rfl (yd_neq rfl rfl rfl rfl rfl (by kernel_rfl)) ?_ | refine g_yd rfl rfl (yd_index hT rfl rfl rfl sI rfl) ?_ | refine g_yd rfl rfl (yd_slice_nil hT rfl rfl rfl rfl) ?_ | refine g_yd rfl rfl (yd_build_arr hT rfl rfl rfl rfl rfl rfl) ?_ | (refine g_mv rfl ?_; first | (refine mv_box rfl rfl rfl rfl ?_; intro _) | (refine mv_alloc rfl hT rfl rfl ?_; intro _) | refine mv_store hT rfl rfl rfl rfl rfl rfl sO rfl ?_ | (refine mv_buildSlice rfl hT rfl rfl rfl rfl rfl rfl rfl rfl ?_; intro _)) | refine g_yd rfl rfl (Ys.yd (ys_str_eql hT rfl rfl rfl rfl)) ?_ | refine g_yd rfl rfl (Ys.yd (ys_str_neq hT rfl rfl rfl rfl)) ?_))
  refine g_mv rfl ?_; refine mv_call_rs (fun w hk => hcr w) rfl rfl rfl rfl rfl (by kernel_rfl) sS (fun _ => rfl) (fun r hr hn => ?_)
  obtain ⟨c, n, e⟩ := r
  obtain ⟨hc, hp⟩ := hr
  replace hc : c.Ok := hc
  injection hp with hp1 hp2
  injection hp2 with hp2 hp3
  replace hp1 : c.p = _ := hp1
  replace hp2 : n = 1 := hp2
  replace hp3 : e = 0 := hp3
  subst hp2
  subst hp3
  have hnv : c.nv = 1 := congrArg CatP.nv hp1
  have hV : c.V.map VolD.d = [(1, 9, [⟨9, 4⟩])] := congrArg CatP.V hp1
  obtain ⟨x, hx⟩ : ∃ x, c.V = [x] := by
    have h1 := congrArg List.length hV
    rw [List.length_map] at h1
    exact List.length_eq_one_iff.1 h1
  have hxd : x.d = (1, 9, [⟨9, 4⟩]) := by
    rw [hx] at hV
    simpa using hV
  have hxi : x.id = 1 := congrArg Prod.fst hxd
  have hxL : x.L = [⟨9, 4⟩] := congrArg (fun p => p.2.2) hxd
  have hsz : ∀ w, Rd1 w (catF c) → Calls Try.prog 40 [c.val, .int .i64 1].toArray w fun e w' => e = .returned (.tuple #[.int .i64 4, .int .i64 0]) ∧ Below w.heap.size w w' := fun w h => by
    have := vsize_some c 1 0 x w hc (by rw [hx]; simp [pos, hxi]) (by rw [hx]; rfl) (by rw [hxL]; decide) (by rw [hxL]; intro y hy; obtain rfl := List.mem_singleton.1 hy; decide) h
    rw [hxL] at this
    exact this
  refine g_say 8 (.tuple #[.agg #[.int .i64 1, .int .i64 c.ng, .int .i64 c.nb, .int .u64 c.fl, .slice c.v.A c.v.n c.v.c, .slice c.g.A c.g.n c.g.c, .slice c.b.A c.b.n c.b.c, .slice c.k.A c.k.n c.k.c, .slice c.t.A c.t.n c.t.c], .int .i64 1, .int .i64 0]) rfl (by rw [← hnv]) ?_
  replace hsz : ∀ w, Rd1 w (catF c) → Calls Try.prog 40 [.agg #[.int .i64 1, .int .i64 c.ng, .int .i64 c.nb, .int .u64 c.fl, .slice c.v.A c.v.n c.v.c, .slice c.g.A c.g.n c.g.c, .slice c.b.A c.b.n c.b.c, .slice c.k.A c.k.n c.k.c, .slice c.t.A c.t.n c.t.c], .int .i64 1].toArray w fun e w' => e = .returned (.tuple #[.int .i64 4, .int .i64 0]) ∧ Below w.heap.size w w' := fun w h => by
    have := hsz w h
    unfold CatD.val at this
    rw [hnv] at this
    exact this
  (repeat' (first | (first | refine g_nil ?_ | refine g_pure true hT rfl rfl rfl sI ?_ | refine g_skip rfl rfl ?_ | refine g_skip0 rfl rfl ?_ | refine gk_region rfl ?_ | refine gk_cond_t rfl rfl ?_ | refine gk_cond_f rfl rfl ?_ | refine g_yd rfl rfl (yd_load_blk hT rfl rfl mE rfl rfl) ?_ | refine g_yd rfl rfl (yd_load_row hT rfl rfl mE rfl rfl) ?_ | refine g_yd rfl rfl (yd_load_row0 hT rfl rfl mE rfl rfl) ?_ | refine g_yd rfl rfl (yd_eql rfl rfl rfl rfl rfl (by kernel_rfl)) ?_ | refine g_yd rfl rfl (yd_neq rfl rfl rfl rfl rfl (by kernel_rfl)) ?_ | refine g_yd rfl rfl (yd_index hT rfl rfl rfl sI rfl) ?_ | refine g_yd rfl rfl (yd_slice_nil hT rfl rfl rfl rfl) ?_ | refine g_yd rfl rfl (yd_build_arr hT rfl rfl rfl rfl rfl rfl) ?_ | (refine g_mv rfl ?_; first | (refine mv_box rfl rfl rfl rfl ?_; intro _) | (refine mv_alloc rfl hT rfl rfl ?_; intro _) | refine mv_store hT rfl rfl rfl rfl rfl rfl sO rfl ?_ | (refine mv_buildSlice rfl hT rfl rfl rfl rfl rfl rfl rfl rfl ?_; intro _)) | refine g_yd rfl rfl (Ys.yd (ys_str_eql hT rfl rfl rfl rfl)) ?_ | refine g_yd rfl rfl (Ys.yd (ys_str_neq hT rfl rfl rfl rfl)) ?_) | (refine g_mv rfl ?_; first | refine mv_call_bel (fun w hk => hsz w (hk.rR mE)) rfl rfl rfl rfl rfl (by kernel_rfl) ?_) | ((first | refine g_split rfl rfl tE (fun _ => ?_) (fun _ => ?_) | refine gk_cond rfl rfl tE (fun _ => ?_) (fun _ => ?_)) <;> (try first | (exfalso; omega; done) | (rename_i hx; exact absurd rfl hx) | (rename_i hx; cases hx; done)))))
  refine gk_ret hT rfl rfl (.tmp rfl .nil) (fun w' hk => ?_)
  exact ⟨ret_bool (by simp [tB_eq]), hk.toBelow⟩
end Go.Proofs.Ytbcdcjiibalnnaa.Ct

