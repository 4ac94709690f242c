/- vols.Create. -/
import Derived.Test.YtbcdcjiibalnnaaCtJ
namespace Go.Proofs.Ytbcdcjiibalnnaa.Ct
open Go.RowKit Mem Gx
set_option linter.unusedVariables false
set_option linter.unusedSimpArgs false
set_option maxRecDepth 100000
set_option maxHeartbeats 400000
/-- A volume more; its number; its error. -/
def creP (c : CatD) (m q : Int) : CatP × Int × Int :=
  if m < 1 ∨ 32 < m then (CatD.z.p, 0, 10) else if 7 < c.V.length ∨ 65534 < c.nv then (CatD.z.p, 0, 32) else (⟨c.nv + 1, c.ng, c.nb, c.fl, c.V.map VolD.d ++ [(c.nv + 1, q, [⟨q, m⟩])], c.G.map GrpD.d, c.B.map BokD.d, c.K, c.T⟩, c.nv + 1, 0)
/-- A catalog, a number and an error are handed back. -/
abbrev RetC3 (c : CatD) (p : CatP × Int × Int) (w : World) : Ending → World → Prop := RetS (fun r : CatD × Int × Int => r.1.Ok ∧ (r.1.p, r.2) = p) (fun r => .tuple #[r.1.val, .int .i64 r.2.1, .int .i64 r.2.2]) (fun r => [catF r.1]) [catF c] w
theorem cre_bad {c : CatD} {m q : Int} (h : m < 1 ∨ 32 < m) : creP c m q = (CatD.z.p, 0, 10) := by unfold creP; rw [if_pos h]
theorem cre_many {c : CatD} {m q : Int} (h : ¬ (m < 1 ∨ 32 < m)) (h2 : 7 < c.V.length ∨ 65534 < c.nv) : creP c m q = (CatD.z.p, 0, 32) := by unfold creP; rw [if_neg h, if_pos h2]
theorem cre_new {c : CatD} {m q : Int} (h : ¬ (m < 1 ∨ 32 < m)) (h2 : ¬ (7 < c.V.length ∨ 65534 < c.nv)) : creP c m q = (⟨c.nv + 1, c.ng, c.nb, c.fl, c.V.map VolD.d ++ [(c.nv + 1, q, [⟨q, m⟩])], c.G.map GrpD.d, c.B.map BokD.d, c.K, c.T⟩, c.nv + 1, 0) := by unfold creP; rw [if_neg h, if_neg h2]
theorem set_nil {q m : Int} (h : ¬ (m < 1 ∨ 32 < m)) : setD [] q m = ([⟨q, m⟩], 0) := setD_new (by
  rintro (h1 | h1 | ⟨z, h1, _⟩)
  · exact h (.inl h1)
  · exact h (.inr h1)
  · cases h1) (by show (0 : Int) ≠ m; omega) (by simp)
theorem rd_nil {w : World} {α : Type} [Inhabited α] {A : Option Addr} {sz : Nat} {enc : α → Nat → Value} : Rd1 w (sl A sz enc ([] : List α)) := ⟨fun h => absurd h (Nat.lt_irrefl _), fun b hb => absurd hb.1 (Nat.lt_irrefl _)⟩
theorem all_snoc {α : Type} {P : α → Prop} {L : List α} {x : α} (h : ∀ y, y ∈ L → P y) (hx : P x) : ∀ y, y ∈ L ++ [x] → P y := fun y hy => by
  rcases List.mem_append.1 hy with h1 | h1
  · exact h y h1
  · obtain rfl := List.mem_singleton.1 h1
    exact hx
theorem vcreate_any (c : CatD) (m q : Int) (w : World) (hc : c.Ok) (h20 : c.V.length ≤ 20) (h : Rd1 w (catF c)) :
    Calls Try.prog 7 [c.val, .int .i64 m, .int .u64 q].toArray w (RetC3 c (creP c m q) w) := by
  obtain ⟨nv, ng, nb, fl, ⟨vA, vm, vc⟩, V, ⟨gA, gm, gc⟩, G, ⟨bA, bm, bc⟩, B, ⟨kA, km, kd⟩, K, ⟨tA, tm, tc⟩, M⟩ := c
  have hn : vm = V.length := hc.v.n
  replace h20 : V.length ≤ 20 := h20
  have hnv : -9223372036854775808 ≤ nv ∧ nv ≤ 9223372036854775807 := hc.nv
  by_cases hm : m < 1 ∨ 32 < m
  · have hset : ∀ w, Calls Try.prog 32 [.slice none 0 0, .int .u64 q, .int .i64 m].toArray w (Ret (fun s : SlV => s.Ok ([] : List MarkD).length) (fun s => .tuple #[.slice s.A s.n s.c, .int .i64 10]) (fun s => [sl s.A 2 ME []]) w) := fun w => by
      have := sset_any none 0 0 [] q m w rfl (Nat.zero_le _) (fun y hy => by cases hy) rd_nil
      rw [setD_bad (by rcases hm with h | h; exact .inl h; exact .inr (.inl h))] at this
      exact this
    rw [cre_bad hm]
    dsimp only [CatD.val]
    refine g_enter0 T [] [] [catF (⟨nv, ng, nb, fl, ⟨vA, vm, vc⟩, V, ⟨gA, gm, gc⟩, G, ⟨bA, bm, bc⟩, B, ⟨kA, km, kd⟩, K, ⟨tA, tm, tc⟩, M⟩ : CatD)] Try.func7 rfl Try.ntmps7 rfl (Rds.cons h .nil).kn ?_
    (repeat (first | refine g_nil ?_ | refine g_pure true hT rfl rfl rfl sI ?_ | refine g_skip rfl rfl ?_ | refine g_skip0 rfl rfl ?_ | refine gk_region rfl ?_ | refine gk_cond_t rfl rfl ?_ | refine gk_cond_f rfl rfl ?_ | refine g_yd rfl rfl (yd_load_blk hT rfl rfl mE rfl rfl) ?_ | refine g_yd rfl rfl (yd_load_row hT rfl rfl mE rfl rfl) ?_ | refine g_yd rfl rfl (yd_load_row0 hT rfl rfl mE rfl rfl) ?_ | refine g_yd rfl rfl (yd_eql rfl rfl rfl rfl rfl (by kernel_rfl)) ?_ | refine g_yd rfl rfl (yd_neq rfl rfl rfl rfl rfl (by kernel_rfl)) ?_ | refine g_yd rfl rfl (yd_index hT rfl rfl rfl sI rfl) ?_ | refine g_yd rfl rfl (yd_slice_nil hT rfl rfl rfl rfl) ?_ | refine g_yd rfl rfl (yd_build_arr hT rfl rfl rfl rfl rfl rfl) ?_ | (refine g_mv rfl ?_; first | (refine mv_box rfl rfl rfl rfl ?_; intro _) | (refine mv_alloc rfl hT rfl rfl ?_; intro _) | refine mv_store hT rfl rfl rfl rfl rfl rfl sO rfl ?_ | (refine mv_buildSlice rfl hT rfl rfl rfl rfl rfl rfl rfl rfl ?_; intro _)) | refine g_yd rfl rfl (Ys.yd (ys_str_eql hT rfl rfl rfl rfl)) ?_ | refine g_yd rfl rfl (Ys.yd (ys_str_neq hT rfl rfl rfl rfl)) ?_))
    refine g_mv rfl ?_; refine mv_call_rt (fun w hk => hset w) rfl rfl rfl rfl rfl (by kernel_rfl) (fun _ => rfl) (fun s hs => ?_)
    (repeat' (first | (first | refine g_nil ?_ | refine g_pure true hT rfl rfl rfl sI ?_ | refine g_skip rfl rfl ?_ | refine g_skip0 rfl rfl ?_ | refine gk_region rfl ?_ | refine gk_cond_t rfl rfl ?_ | refine gk_cond_f rfl rfl ?_ | refine g_yd rfl rfl (yd_load_blk hT rfl rfl mE rfl rfl) ?_ | refine g_yd rfl rfl (yd_load_row hT rfl rfl mE rfl rfl) ?_ | refine g_yd rfl rfl (yd_load_row0 hT rfl rfl mE rfl rfl) ?_ | refine g_yd rfl rfl (yd_eql rfl rfl rfl rfl rfl (by kernel_rfl)) ?_ | refine g_yd rfl rfl (yd_neq rfl rfl rfl rfl rfl (by kernel_rfl)) ?_ | refine g_yd rfl rfl (yd_index hT rfl rfl rfl sI rfl) ?_ | refine g_yd rfl rfl (yd_slice_nil hT rfl rfl rfl rfl) ?_ | refine g_yd rfl rfl (yd_build_arr hT rfl rfl rfl rfl rfl rfl) ?_ | (refine g_mv rfl ?_; first | (refine mv_box rfl rfl rfl rfl ?_; intro _) | (refine mv_alloc rfl hT rfl rfl ?_; intro _) | refine mv_store hT rfl rfl rfl rfl rfl rfl sO rfl ?_ | (refine mv_buildSlice rfl hT rfl rfl rfl rfl rfl rfl rfl rfl ?_; intro _)) | refine g_yd rfl rfl (Ys.yd (ys_str_eql hT rfl rfl rfl rfl)) ?_ | refine g_yd rfl rfl (Ys.yd (ys_str_neq hT rfl rfl rfl rfl)) ?_) | ((first | refine g_split rfl rfl tE (fun _ => ?_) (fun _ => ?_) | refine gk_cond rfl rfl tE (fun _ => ?_) (fun _ => ?_)) <;> (try first | (exfalso; omega; done) | (rename_i hx; exact absurd rfl hx) | (rename_i hx; cases hx; done)))))
    refine gk_ret hT rfl rfl (.cell (cs := [.int .i64 0, .int .i64 0, .int .i64 0, .int .u64 0, .slice none 0 0, .slice none 0 0, .slice none 0 0, .slice none 0 0, .slice none 0 0]) (Tg := 29) rfl mE rfl rfl (.tmp rfl (.tmp rfl .nil))) (fun w' hk => ?_)
    exact RetS.mk (CatD.z, 0, 10) ⟨z_ok, rfl⟩ rfl hk (.cons rs_z .nil)
  · have hset : ∀ w, Calls Try.prog 32 [.slice none 0 0, .int .u64 q, .int .i64 m].toArray w (Ret (fun s : SlV => s.Ok ([⟨q, m⟩] : List MarkD).length) (fun s => .tuple #[.slice s.A s.n s.c, .int .i64 0]) (fun s => [sl s.A 2 ME [⟨q, m⟩]]) w) := fun w => by
      have := sset_any none 0 0 [] q m w rfl (Nat.zero_le _) (fun y hy => by cases hy) rd_nil
      rw [set_nil hm] at this
      exact this
    by_cases h8 : 7 < V.length ∨ 65534 < nv
    · rw [cre_many hm h8]
      dsimp only [CatD.val]
      refine g_enter0 T [] [] [catF (⟨nv, ng, nb, fl, ⟨vA, vm, vc⟩, V, ⟨gA, gm, gc⟩, G, ⟨bA, bm, bc⟩, B, ⟨kA, km, kd⟩, K, ⟨tA, tm, tc⟩, M⟩ : CatD)] Try.func7 rfl Try.ntmps7 rfl (Rds.cons h .nil).kn ?_
      (repeat (first | refine g_nil ?_ | refine g_pure true hT rfl rfl rfl sI ?_ | refine g_skip rfl rfl ?_ | refine g_skip0 rfl rfl ?_ | refine gk_region rfl ?_ | refine gk_cond_t rfl rfl ?_ | refine gk_cond_f rfl rfl ?_ | refine g_yd rfl rfl (yd_load_blk hT rfl rfl mE rfl rfl) ?_ | refine g_yd rfl rfl (yd_load_row hT rfl rfl mE rfl rfl) ?_ | refine g_yd rfl rfl (yd_load_row0 hT rfl rfl mE rfl rfl) ?_ | refine g_yd rfl rfl (yd_eql rfl rfl rfl rfl rfl (by kernel_rfl)) ?_ | refine g_yd rfl rfl (yd_neq rfl rfl rfl rfl rfl (by kernel_rfl)) ?_ | refine g_yd rfl rfl (yd_index hT rfl rfl rfl sI rfl) ?_ | refine g_yd rfl rfl (yd_slice_nil hT rfl rfl rfl rfl) ?_ | refine g_yd rfl rfl (yd_build_arr hT rfl rfl rfl rfl rfl rfl) ?_ | (refine g_mv rfl ?_; first | (refine mv_box rfl rfl rfl rfl ?_; intro _) | (refine mv_alloc rfl hT rfl rfl ?_; intro _) | refine mv_store hT rfl rfl rfl rfl rfl rfl sO rfl ?_ | (refine mv_buildSlice rfl hT rfl rfl rfl rfl rfl rfl rfl rfl ?_; intro _)) | refine g_yd rfl rfl (Ys.yd (ys_str_eql hT rfl rfl rfl rfl)) ?_ | refine g_yd rfl rfl (Ys.yd (ys_str_neq hT rfl rfl rfl rfl)) ?_))
      refine g_mv rfl ?_; refine mv_call_rt (fun w hk => hset w) rfl rfl rfl rfl rfl (by kernel_rfl) (fun _ => rfl) (fun s hs => ?_)
      (repeat' (first | (first | refine g_nil ?_ | refine g_pure true hT rfl rfl rfl sI ?_ | refine g_skip rfl rfl ?_ | refine g_skip0 rfl rfl ?_ | refine gk_region rfl ?_ | refine gk_cond_t rfl rfl ?_ | refine gk_cond_f rfl rfl ?_ | refine g_yd rfl rfl (yd_load_blk hT rfl rfl mE rfl rfl) ?_ | refine g_yd rfl rfl (yd_load_row hT rfl rfl mE rfl rfl) ?_ | refine g_yd rfl rfl (yd_load_row0 hT rfl rfl mE rfl rfl) ?_ | refine g_yd rfl rfl (yd_eql rfl rfl rfl rfl rfl (by kernel_rfl)) ?_ | refine g_yd rfl rfl (yd_neq rfl rfl rfl rfl rfl (by kernel_rfl)) ?_ | refine g_yd rfl rfl (yd_index hT rfl rfl rfl sI rfl) ?_ | refine g_yd rfl rfl (yd_slice_nil hT rfl rfl rfl rfl) ?_ | refine g_yd rfl rfl (yd_build_arr hT rfl rfl rfl rfl rfl rfl) ?_ | (refine g_mv rfl ?_; first | (refine mv_box rfl rfl rfl rfl ?_; intro _) | (refine mv_alloc rfl hT rfl rfl ?_; intro _) | refine mv_store hT rfl rfl rfl rfl rfl rfl sO rfl ?_ | (refine mv_buildSlice rfl hT rfl rfl rfl rfl rfl rfl rfl rfl ?_; intro _)) | refine g_yd rfl rfl (Ys.yd (ys_str_eql hT rfl rfl rfl rfl)) ?_ | refine g_yd rfl rfl (Ys.yd (ys_str_neq hT rfl rfl rfl rfl)) ?_) | ((first | refine g_split rfl rfl tE (fun _ => ?_) (fun _ => ?_) | refine gk_cond rfl rfl tE (fun _ => ?_) (fun _ => ?_)) <;> (try first | (exfalso; omega; done) | (rename_i hx; exact absurd rfl hx) | (rename_i hx; cases hx; done)))))
      all_goals refine gk_ret hT rfl rfl (.cell (cs := [.int .i64 0, .int .i64 0, .int .i64 0, .int .u64 0, .slice none 0 0, .slice none 0 0, .slice none 0 0, .slice none 0 0, .slice none 0 0]) (Tg := 29) rfl mE rfl rfl (.tmp rfl (.tmp rfl .nil))) (fun w' hk => ?_)
      all_goals exact RetS.mk (CatD.z, 0, 32) ⟨z_ok, rfl⟩ rfl hk (.cons rs_z .nil)
    · rw [cre_new hm h8]
      dsimp only [CatD.val]
      refine g_enter0 T [] [] [catF (⟨nv, ng, nb, fl, ⟨vA, vm, vc⟩, V, ⟨gA, gm, gc⟩, G, ⟨bA, bm, bc⟩, B, ⟨kA, km, kd⟩, K, ⟨tA, tm, tc⟩, M⟩ : CatD)] Try.func7 rfl Try.ntmps7 rfl (Rds.cons h .nil).kn ?_
      refine gk_der [catF (⟨nv, ng, nb, fl, ⟨vA, vm, vc⟩, V, ⟨gA, gm, gc⟩, G, ⟨bA, bm, bc⟩, B, ⟨kA, km, kd⟩, K, ⟨tA, tm, tc⟩, M⟩ : CatD)] (φ := sl vA 3 VE V) d_v sS ?_
      (repeat (first | refine g_nil ?_ | refine g_pure true hT rfl rfl rfl sI ?_ | refine g_skip rfl rfl ?_ | refine g_skip0 rfl rfl ?_ | refine gk_region rfl ?_ | refine gk_cond_t rfl rfl ?_ | refine gk_cond_f rfl rfl ?_ | refine g_yd rfl rfl (yd_load_blk hT rfl rfl mE rfl rfl) ?_ | refine g_yd rfl rfl (yd_load_row hT rfl rfl mE rfl rfl) ?_ | refine g_yd rfl rfl (yd_load_row0 hT rfl rfl mE rfl rfl) ?_ | refine g_yd rfl rfl (yd_eql rfl rfl rfl rfl rfl (by kernel_rfl)) ?_ | refine g_yd rfl rfl (yd_neq rfl rfl rfl rfl rfl (by kernel_rfl)) ?_ | refine g_yd rfl rfl (yd_index hT rfl rfl rfl sI rfl) ?_ | refine g_yd rfl rfl (yd_slice_nil hT rfl rfl rfl rfl) ?_ | refine g_yd rfl rfl (yd_build_arr hT rfl rfl rfl rfl rfl rfl) ?_ | (refine g_mv rfl ?_; first | (refine mv_box rfl rfl rfl rfl ?_; intro _) | (refine mv_alloc rfl hT rfl rfl ?_; intro _) | refine mv_store hT rfl rfl rfl rfl rfl rfl sO rfl ?_ | (refine mv_buildSlice rfl hT rfl rfl rfl rfl rfl rfl rfl rfl ?_; intro _)) | refine g_yd rfl rfl (Ys.yd (ys_str_eql hT rfl rfl rfl rfl)) ?_ | refine g_yd rfl rfl (Ys.yd (ys_str_neq hT rfl rfl rfl rfl)) ?_))
      refine g_mv rfl ?_; refine mv_call_rt (fun w hk => hset w) rfl rfl rfl rfl rfl (by kernel_rfl) (fun _ => rfl) (fun s hs => ?_)
      (repeat' (first | (first | refine g_nil ?_ | refine g_pure true hT rfl rfl rfl sI ?_ | refine g_skip rfl rfl ?_ | refine g_skip0 rfl rfl ?_ | refine gk_region rfl ?_ | refine gk_cond_t rfl rfl ?_ | refine gk_cond_f rfl rfl ?_ | refine g_yd rfl rfl (yd_load_blk hT rfl rfl mE rfl rfl) ?_ | refine g_yd rfl rfl (yd_load_row hT rfl rfl mE rfl rfl) ?_ | refine g_yd rfl rfl (yd_load_row0 hT rfl rfl mE rfl rfl) ?_ | refine g_yd rfl rfl (yd_eql rfl rfl rfl rfl rfl (by kernel_rfl)) ?_ | refine g_yd rfl rfl (yd_neq rfl rfl rfl rfl rfl (by kernel_rfl)) ?_ | refine g_yd rfl rfl (yd_index hT rfl rfl rfl sI rfl) ?_ | refine g_yd rfl rfl (yd_slice_nil hT rfl rfl rfl rfl) ?_ | refine g_yd rfl rfl (yd_build_arr hT rfl rfl rfl rfl rfl rfl) ?_ | (refine g_mv rfl ?_; first | (refine mv_box rfl rfl rfl rfl ?_; intro _) | (refine mv_alloc rfl hT rfl rfl ?_; intro _) | refine mv_store hT rfl rfl rfl rfl rfl rfl sO rfl ?_ | (refine mv_buildSlice rfl hT rfl rfl rfl rfl rfl rfl rfl rfl ?_; intro _)) | refine g_yd rfl rfl (Ys.yd (ys_str_eql hT rfl rfl rfl rfl)) ?_ | refine g_yd rfl rfl (Ys.yd (ys_str_neq hT rfl rfl rfl rfl)) ?_) | ((first | refine g_split rfl rfl tE (fun _ => ?_) (fun _ => ?_) | refine gk_cond rfl rfl tE (fun _ => ?_) (fun _ => ?_)) <;> (try first | (exfalso; omega; done) | (rename_i hx; exact absurd rfl hx) | (rename_i hx; cases hx; done)))))
      rename_i g3 g6 _ _ _
      refine gk_any [] (Cut _ (fun v : Value => [(3, .pointer (some ⟨g3, 0, none⟩)), (6, .pointer (some ⟨g6, 0, none⟩))]) (fun v => [own 0 60 3 v VE (V ++ [⟨nv + 1, q, s, [⟨q, m⟩]⟩]), blk g3 [.int .i64 (nv + 1), .int .i64 ng, .int .i64 nb, .int .u64 fl, v, .slice gA gm gc, .slice bA bm bc, .slice kA km kd, .slice tA tm tc] 29, blk g6 [.int .i64 0, .int .i64 0, .int .i64 0, .int .u64 0, .slice none 0 0, .slice none 0 0, .slice none 0 0, .slice none 0 0, .slice none 0 0] 29, sl s.A 2 ME [⟨q, m⟩]]) (fun _ => [catF (⟨nv, ng, nb, fl, ⟨vA, vm, vc⟩, V, ⟨gA, gm, gc⟩, G, ⟨bA, bm, bc⟩, B, ⟨kA, km, kd⟩, K, ⟨tA, tm, tc⟩, M⟩ : CatD)])) rfl rfl (by kernel_rfl) ?_ (cut_k fun v => ?_)
      · skip
        refine gb_take 0 rfl (by decide +kernel) rfl rfl (ys_ev (nw := true) hT rfl sI) sF ?_
        refine gb_take 3 rfl (by decide +kernel) rfl rfl (ys_ev (nw := true) hT rfl sI) sF ?_
        refine gb_take 5 rfl (by decide +kernel) rfl rfl (ys_ev (nw := true) hT rfl sI) sF ?_
        refine gb_take 6 rfl (by decide +kernel) rfl rfl (ys_ev (nw := true) hT rfl sI) sF ?_
        refine gb_all (by decide +kernel) ?_
        refine gball_not (by decide +kernel) ?_
        refine gball_yes rfl rfl ?_ ?_
        · refine mv_yd rfl (yd_load_blk hT rfl rfl mE rfl rfl) ?_
          refine ⟨sF, ?_⟩
          refine gb_all (by decide +kernel) ?_
          refine gball_not (by decide +kernel) ?_
          refine gball_not (by decide +kernel) ?_
          refine gball_yes rfl rfl ?_ ?_
          · refine mv_call_rt (fun w hk => cloneV_own vA vm vc V w hn (by omega) (hk.pR (sl vA 3 VE V) mE)) rfl rfl rfl rfl rfl (by kernel_rfl) (fun _ => rfl) (fun v1 _ => ?_)
            refine ⟨sF, ?_⟩
            refine gb_only 4 (by decide +kernel) rfl rfl ?_
            refine mv_yd rfl (yd_load_blk hT rfl rfl mE rfl rfl) ?_
            refine ⟨sF, ?_⟩
            refine gb_take 7 rfl (by decide +kernel) rfl rfl (ys_ev (nw := true) hT rfl sI) sF ?_
            refine gb_only 8 (by decide +kernel) rfl rfl ?_
            (refine mv_buildSlice (len := 1) rfl hT rfl rfl rfl rfl rfl rfl rfl rfl ?_; intro g7)
            refine ⟨sF, ?_⟩
            refine gb_only 9 (by decide +kernel) rfl rfl ?_
            refine mv_append (L := V) rfl [(⟨nv + 1, q, s, [⟨q, m⟩]⟩ : VolD)] rfl rfl rfl rfl elt_V (by intro _; first | ((repeat (first | with_reducible exact Upd.here _ | with_reducible apply Upd.there)); done) | ((repeat (first | exact Upd.here _ | apply Upd.there)); done) | fail) (src_blk mE rfl) rfl oneV (by simp only [maxLen, List.length_cons, List.length_nil]; omega) (by simp only [List.length_cons, List.length_nil]; omega) (Nat.zero_le _) (fun v2 => ?_)
            refine ⟨sF, ?_⟩
            (refine gb_ownv v2 mE (fun A2 c2 hv2 _ _ _ => ?_); subst hv2)
            refine gb_take 10 rfl (by decide +kernel) rfl rfl (ys_ev (nw := true) hT rfl sI) sF ?_
            refine gb_only 11 (by decide +kernel) rfl rfl ?_
            first | (refine mv_box rfl rfl rfl rfl ?_; intro _) | (refine mv_alloc rfl hT rfl rfl ?_; intro _) | refine mv_store hT rfl rfl rfl rfl rfl rfl sO rfl ?_ | (refine mv_buildSlice rfl hT rfl rfl rfl rfl rfl rfl rfl rfl ?_; intro _)
            refine ⟨sF, ?_⟩
            refine gb_nil (by decide +kernel) ?_
            exact ⟨_, (by repeat (first | exact trivial | refine ⟨rfl, ?_⟩)), sA, sS⟩
          refine gball_not (by decide +kernel) ?_
          refine gball_yes rfl rfl ?_ ?_
          · refine mv_yd rfl (yd_load_blk hT rfl rfl mE rfl rfl) ?_
            refine ⟨sF, ?_⟩
            refine gb_take 7 rfl (by decide +kernel) rfl rfl (ys_ev (nw := true) hT rfl sI) sF ?_
            refine gb_all (by decide +kernel) ?_
            refine gball_not (by decide +kernel) ?_
            refine gball_not (by decide +kernel) ?_
            refine gball_yes rfl rfl ?_ ?_
            · refine mv_call_rt (fun w hk => cloneV_own vA vm vc V w hn (by omega) (hk.pR (sl vA 3 VE V) mE)) rfl rfl rfl rfl rfl (by kernel_rfl) (fun _ => rfl) (fun v1 _ => ?_)
              refine ⟨sF, ?_⟩
              refine gb_only 8 (by decide +kernel) rfl rfl ?_
              (refine mv_buildSlice (len := 1) rfl hT rfl rfl rfl rfl rfl rfl rfl rfl ?_; intro g7)
              refine ⟨sF, ?_⟩
              refine gb_only 9 (by decide +kernel) rfl rfl ?_
              refine mv_append (L := V) rfl [(⟨nv + 1, q, s, [⟨q, m⟩]⟩ : VolD)] rfl rfl rfl rfl elt_V (by intro _; first | ((repeat (first | with_reducible exact Upd.here _ | with_reducible apply Upd.there)); done) | ((repeat (first | exact Upd.here _ | apply Upd.there)); done) | fail) (src_blk mE rfl) rfl oneV (by simp only [maxLen, List.length_cons, List.length_nil]; omega) (by simp only [List.length_cons, List.length_nil]; omega) (Nat.zero_le _) (fun v2 => ?_)
              refine ⟨sF, ?_⟩
              (refine gb_ownv v2 mE (fun A2 c2 hv2 _ _ _ => ?_); subst hv2)
              refine gb_take 10 rfl (by decide +kernel) rfl rfl (ys_ev (nw := true) hT rfl sI) sF ?_
              refine gb_only 11 (by decide +kernel) rfl rfl ?_
              first | (refine mv_box rfl rfl rfl rfl ?_; intro _) | (refine mv_alloc rfl hT rfl rfl ?_; intro _) | refine mv_store hT rfl rfl rfl rfl rfl rfl sO rfl ?_ | (refine mv_buildSlice rfl hT rfl rfl rfl rfl rfl rfl rfl rfl ?_; intro _)
              refine ⟨sF, ?_⟩
              refine gb_nil (by decide +kernel) ?_
              exact ⟨_, (by repeat (first | exact trivial | refine ⟨rfl, ?_⟩)), sA, sS⟩
            refine gball_not (by decide +kernel) ?_
            refine gball_not (by decide +kernel) ?_
            refine gball_not (by decide +kernel) ?_
            refine gball_not (by decide +kernel) ?_
            refine gball_not (by decide +kernel) ?_
            refine gball_yes rfl rfl ?_ ?_
            · (refine mv_buildSlice (len := 1) rfl hT rfl rfl rfl rfl rfl rfl rfl rfl ?_; intro g7)
              refine ⟨sF, ?_⟩
              refine gb_only 2 (by decide +kernel) rfl rfl ?_
              refine mv_call_rt (fun w hk => cloneV_own vA vm vc V w hn (by omega) (hk.pR (sl vA 3 VE V) mE)) rfl rfl rfl rfl rfl (by kernel_rfl) (fun _ => rfl) (fun v1 _ => ?_)
              refine ⟨sF, ?_⟩
              refine gb_only 9 (by decide +kernel) rfl rfl ?_
              refine mv_append (L := V) rfl [(⟨nv + 1, q, s, [⟨q, m⟩]⟩ : VolD)] rfl rfl rfl rfl elt_V (by intro _; first | ((repeat (first | with_reducible exact Upd.here _ | with_reducible apply Upd.there)); done) | ((repeat (first | exact Upd.here _ | apply Upd.there)); done) | fail) (src_blk mE rfl) rfl oneV (by simp only [maxLen, List.length_cons, List.length_nil]; omega) (by simp only [List.length_cons, List.length_nil]; omega) (Nat.zero_le _) (fun v2 => ?_)
              refine ⟨sF, ?_⟩
              (refine gb_ownv v2 mE (fun A2 c2 hv2 _ _ _ => ?_); subst hv2)
              refine gb_take 10 rfl (by decide +kernel) rfl rfl (ys_ev (nw := true) hT rfl sI) sF ?_
              refine gb_only 11 (by decide +kernel) rfl rfl ?_
              first | (refine mv_box rfl rfl rfl rfl ?_; intro _) | (refine mv_alloc rfl hT rfl rfl ?_; intro _) | refine mv_store hT rfl rfl rfl rfl rfl rfl sO rfl ?_ | (refine mv_buildSlice rfl hT rfl rfl rfl rfl rfl rfl rfl rfl ?_; intro _)
              refine ⟨sF, ?_⟩
              refine gb_nil (by decide +kernel) ?_
              exact ⟨_, (by repeat (first | exact trivial | refine ⟨rfl, ?_⟩)), sA, sS⟩
            refine gball_not (by decide +kernel) ?_
            refine gball_not (by decide +kernel) ?_
            refine gball_not (by decide +kernel) ?_
            exact gball_end (by decide +kernel)
          refine gball_not (by decide +kernel) ?_
          refine gball_not (by decide +kernel) ?_
          refine gball_not (by decide +kernel) ?_
          refine gball_not (by decide +kernel) ?_
          refine gball_not (by decide +kernel) ?_
          refine gball_not (by decide +kernel) ?_
          refine gball_not (by decide +kernel) ?_
          exact gball_end (by decide +kernel)
        refine gball_not (by decide +kernel) ?_
        refine gball_not (by decide +kernel) ?_
        refine gball_yes rfl rfl ?_ ?_
        · refine mv_yd rfl (yd_load_blk hT rfl rfl mE rfl rfl) ?_
          refine ⟨sF, ?_⟩
          refine gb_take 7 rfl (by decide +kernel) rfl rfl (ys_ev (nw := true) hT rfl sI) sF ?_
          refine gb_all (by decide +kernel) ?_
          refine gball_not (by decide +kernel) ?_
          refine gball_yes rfl rfl ?_ ?_
          · refine mv_yd rfl (yd_load_blk hT rfl rfl mE rfl rfl) ?_
            refine ⟨sF, ?_⟩
            refine gb_all (by decide +kernel) ?_
            refine gball_not (by decide +kernel) ?_
            refine gball_not (by decide +kernel) ?_
            refine gball_yes rfl rfl ?_ ?_
            · refine mv_call_rt (fun w hk => cloneV_own vA vm vc V w hn (by omega) (hk.pR (sl vA 3 VE V) mE)) rfl rfl rfl rfl rfl (by kernel_rfl) (fun _ => rfl) (fun v1 _ => ?_)
              refine ⟨sF, ?_⟩
              refine gb_only 8 (by decide +kernel) rfl rfl ?_
              (refine mv_buildSlice (len := 1) rfl hT rfl rfl rfl rfl rfl rfl rfl rfl ?_; intro g7)
              refine ⟨sF, ?_⟩
              refine gb_only 9 (by decide +kernel) rfl rfl ?_
              refine mv_append (L := V) rfl [(⟨nv + 1, q, s, [⟨q, m⟩]⟩ : VolD)] rfl rfl rfl rfl elt_V (by intro _; first | ((repeat (first | with_reducible exact Upd.here _ | with_reducible apply Upd.there)); done) | ((repeat (first | exact Upd.here _ | apply Upd.there)); done) | fail) (src_blk mE rfl) rfl oneV (by simp only [maxLen, List.length_cons, List.length_nil]; omega) (by simp only [List.length_cons, List.length_nil]; omega) (Nat.zero_le _) (fun v2 => ?_)
              refine ⟨sF, ?_⟩
              (refine gb_ownv v2 mE (fun A2 c2 hv2 _ _ _ => ?_); subst hv2)
              refine gb_take 10 rfl (by decide +kernel) rfl rfl (ys_ev (nw := true) hT rfl sI) sF ?_
              refine gb_only 11 (by decide +kernel) rfl rfl ?_
              first | (refine mv_box rfl rfl rfl rfl ?_; intro _) | (refine mv_alloc rfl hT rfl rfl ?_; intro _) | refine mv_store hT rfl rfl rfl rfl rfl rfl sO rfl ?_ | (refine mv_buildSlice rfl hT rfl rfl rfl rfl rfl rfl rfl rfl ?_; intro _)
              refine ⟨sF, ?_⟩
              refine gb_nil (by decide +kernel) ?_
              exact ⟨_, (by repeat (first | exact trivial | refine ⟨rfl, ?_⟩)), sA, sS⟩
            refine gball_not (by decide +kernel) ?_
            refine gball_not (by decide +kernel) ?_
            refine gball_not (by decide +kernel) ?_
            refine gball_not (by decide +kernel) ?_
            refine gball_not (by decide +kernel) ?_
            refine gball_yes rfl rfl ?_ ?_
            · (refine mv_buildSlice (len := 1) rfl hT rfl rfl rfl rfl rfl rfl rfl rfl ?_; intro g7)
              refine ⟨sF, ?_⟩
              refine gb_only 2 (by decide +kernel) rfl rfl ?_
              refine mv_call_rt (fun w hk => cloneV_own vA vm vc V w hn (by omega) (hk.pR (sl vA 3 VE V) mE)) rfl rfl rfl rfl rfl (by kernel_rfl) (fun _ => rfl) (fun v1 _ => ?_)
              refine ⟨sF, ?_⟩
              refine gb_only 9 (by decide +kernel) rfl rfl ?_
              refine mv_append (L := V) rfl [(⟨nv + 1, q, s, [⟨q, m⟩]⟩ : VolD)] rfl rfl rfl rfl elt_V (by intro _; first | ((repeat (first | with_reducible exact Upd.here _ | with_reducible apply Upd.there)); done) | ((repeat (first | exact Upd.here _ | apply Upd.there)); done) | fail) (src_blk mE rfl) rfl oneV (by simp only [maxLen, List.length_cons, List.length_nil]; omega) (by simp only [List.length_cons, List.length_nil]; omega) (Nat.zero_le _) (fun v2 => ?_)
              refine ⟨sF, ?_⟩
              (refine gb_ownv v2 mE (fun A2 c2 hv2 _ _ _ => ?_); subst hv2)
              refine gb_take 10 rfl (by decide +kernel) rfl rfl (ys_ev (nw := true) hT rfl sI) sF ?_
              refine gb_only 11 (by decide +kernel) rfl rfl ?_
              first | (refine mv_box rfl rfl rfl rfl ?_; intro _) | (refine mv_alloc rfl hT rfl rfl ?_; intro _) | refine mv_store hT rfl rfl rfl rfl rfl rfl sO rfl ?_ | (refine mv_buildSlice rfl hT rfl rfl rfl rfl rfl rfl rfl rfl ?_; intro _)
              refine ⟨sF, ?_⟩
              refine gb_nil (by decide +kernel) ?_
              exact ⟨_, (by repeat (first | exact trivial | refine ⟨rfl, ?_⟩)), sA, sS⟩
            refine gball_not (by decide +kernel) ?_
            refine gball_not (by decide +kernel) ?_
            refine gball_not (by decide +kernel) ?_
            exact gball_end (by decide +kernel)
          refine gball_not (by decide +kernel) ?_
          refine gball_not (by decide +kernel) ?_
          refine gball_not (by decide +kernel) ?_
          refine gball_not (by decide +kernel) ?_
          refine gball_not (by decide +kernel) ?_
          refine gball_not (by decide +kernel) ?_
          refine gball_yes rfl rfl ?_ ?_
          · (refine mv_buildSlice (len := 1) rfl hT rfl rfl rfl rfl rfl rfl rfl rfl ?_; intro g7)
            refine ⟨sF, ?_⟩
            refine gb_only 1 (by decide +kernel) rfl rfl ?_
            refine mv_yd rfl (yd_load_blk hT rfl rfl mE rfl rfl) ?_
            refine ⟨sF, ?_⟩
            refine gb_only 2 (by decide +kernel) rfl rfl ?_
            refine mv_call_rt (fun w hk => cloneV_own vA vm vc V w hn (by omega) (hk.pR (sl vA 3 VE V) mE)) rfl rfl rfl rfl rfl (by kernel_rfl) (fun _ => rfl) (fun v1 _ => ?_)
            refine ⟨sF, ?_⟩
            refine gb_only 9 (by decide +kernel) rfl rfl ?_
            refine mv_append (L := V) rfl [(⟨nv + 1, q, s, [⟨q, m⟩]⟩ : VolD)] rfl rfl rfl rfl elt_V (by intro _; first | ((repeat (first | with_reducible exact Upd.here _ | with_reducible apply Upd.there)); done) | ((repeat (first | exact Upd.here _ | apply Upd.there)); done) | fail) (src_blk mE rfl) rfl oneV (by simp only [maxLen, List.length_cons, List.length_nil]; omega) (by simp only [List.length_cons, List.length_nil]; omega) (Nat.zero_le _) (fun v2 => ?_)
            refine ⟨sF, ?_⟩
            (refine gb_ownv v2 mE (fun A2 c2 hv2 _ _ _ => ?_); subst hv2)
            refine gb_take 10 rfl (by decide +kernel) rfl rfl (ys_ev (nw := true) hT rfl sI) sF ?_
            refine gb_only 11 (by decide +kernel) rfl rfl ?_
            first | (refine mv_box rfl rfl rfl rfl ?_; intro _) | (refine mv_alloc rfl hT rfl rfl ?_; intro _) | refine mv_store hT rfl rfl rfl rfl rfl rfl sO rfl ?_ | (refine mv_buildSlice rfl hT rfl rfl rfl rfl rfl rfl rfl rfl ?_; intro _)
            refine ⟨sF, ?_⟩
            refine gb_nil (by decide +kernel) ?_
            exact ⟨_, (by repeat (first | exact trivial | refine ⟨rfl, ?_⟩)), sA, sS⟩
          refine gball_not (by decide +kernel) ?_
          refine gball_not (by decide +kernel) ?_
          refine gball_not (by decide +kernel) ?_
          exact gball_end (by decide +kernel)
        refine gball_not (by decide +kernel) ?_
        refine gball_not (by decide +kernel) ?_
        refine gball_not (by decide +kernel) ?_
        refine gball_not (by decide +kernel) ?_
        refine gball_not (by decide +kernel) ?_
        refine gball_not (by decide +kernel) ?_
        refine gball_not (by decide +kernel) ?_
        exact gball_end (by decide +kernel)
      · refine gk_freeze _ (by intro _; first | ((repeat (first | with_reducible exact Upd.here _ | with_reducible apply Upd.there)); done) | ((repeat (first | exact Upd.here _ | apply Upd.there)); done) | fail) (fun A2 c2 hA2 hA21 hA22 hA23 => ?_); subst hA2
        refine gk_any [1] (Cut _ (fun _ : Unit => [(6, .pointer (some ⟨g6, 0, none⟩)), (7, .int .i64 (nv + 1)), (8, .int .i64 0)]) (fun _ => [sl A2 3 VE (V ++ [⟨nv + 1, q, s, [⟨q, m⟩]⟩]), blk g6 [.int .i64 (nv + 1), .int .i64 ng, .int .i64 nb, .int .u64 fl, .slice A2 (V ++ [(⟨nv + 1, q, s, [⟨q, m⟩]⟩ : VolD)]).length c2, .slice gA gm gc, .slice bA bm bc, .slice kA km kd, .slice tA tm tc] 29, sl s.A 2 ME [⟨q, m⟩]]) (fun _ => [catF (⟨nv, ng, nb, fl, ⟨vA, vm, vc⟩, V, ⟨gA, gm, gc⟩, G, ⟨bA, bm, bc⟩, B, ⟨kA, km, kd⟩, K, ⟨tA, tm, tc⟩, M⟩ : CatD)])) rfl rfl (by kernel_rfl) ?_ (cut_k fun _ => ?_)
        · skip
          refine gb_take 0 rfl (by decide +kernel) rfl rfl (by first | exact ys_blk hT rfl rfl mE rfl rfl | exact ys_row hT rfl rfl mE rfl rfl | exact ys_row0 hT rfl rfl mE rfl rfl) sF ?_
          refine gb_take 1 rfl (by decide +kernel) rfl rfl (ys_ev (nw := true) hT rfl sI) sF ?_
          refine gb_take 2 rfl (by decide +kernel) rfl rfl (by first | exact ys_blk hT rfl rfl mE rfl rfl | exact ys_row hT rfl rfl mE rfl rfl | exact ys_row0 hT rfl rfl mE rfl rfl) sF ?_
          refine gb_only 3 (by decide +kernel) rfl rfl ?_
          first | (refine mv_box rfl rfl rfl rfl ?_; intro _) | (refine mv_alloc rfl hT rfl rfl ?_; intro _) | refine mv_store hT rfl rfl rfl rfl rfl rfl sO rfl ?_ | (refine mv_buildSlice rfl hT rfl rfl rfl rfl rfl rfl rfl rfl ?_; intro _)
          refine ⟨sF, ?_⟩
          refine gb_take 4 rfl (by decide +kernel) rfl rfl (ys_ev (nw := true) hT rfl sI) sF ?_
          refine gb_take 5 rfl (by decide +kernel) rfl rfl (ys_ev (nw := true) hT rfl sI) sF ?_
          refine gb_nil (by decide +kernel) ?_
          exact ⟨(), (by repeat (first | exact trivial | refine ⟨rfl, ?_⟩)), sA, sS⟩
        · (repeat (first | refine g_nil ?_ | refine g_pure true hT rfl rfl rfl sI ?_ | refine g_skip rfl rfl ?_ | refine g_skip0 rfl rfl ?_ | refine gk_region rfl ?_ | refine gk_cond_t rfl rfl ?_ | refine gk_cond_f rfl rfl ?_ | refine g_yd rfl rfl (yd_load_blk hT rfl rfl mE rfl rfl) ?_ | refine g_yd rfl rfl (yd_load_row hT rfl rfl mE rfl rfl) ?_ | refine g_yd rfl rfl (yd_load_row0 hT rfl rfl mE rfl rfl) ?_ | refine g_yd rfl rfl (yd_eql rfl rfl rfl rfl rfl (by kernel_rfl)) ?_ | refine g_yd rfl rfl (yd_neq rfl rfl rfl rfl rfl (by kernel_rfl)) ?_ | refine g_yd rfl rfl (yd_index hT rfl rfl rfl sI rfl) ?_ | refine g_yd rfl rfl (yd_slice_nil hT rfl rfl rfl rfl) ?_ | refine g_yd rfl rfl (yd_build_arr hT rfl rfl rfl rfl rfl rfl) ?_ | (refine g_mv rfl ?_; first | (refine mv_box rfl rfl rfl rfl ?_; intro _) | (refine mv_alloc rfl hT rfl rfl ?_; intro _) | refine mv_store hT rfl rfl rfl rfl rfl rfl sO rfl ?_ | (refine mv_buildSlice rfl hT rfl rfl rfl rfl rfl rfl rfl rfl ?_; intro _)) | refine g_yd rfl rfl (Ys.yd (ys_str_eql hT rfl rfl rfl rfl)) ?_ | refine g_yd rfl rfl (Ys.yd (ys_str_neq hT rfl rfl rfl rfl)) ?_))
          refine gk_ret hT rfl rfl (.cell (cs := [.int .i64 (nv + 1), .int .i64 ng, .int .i64 nb, .int .u64 fl, .slice A2 (V ++ [(⟨nv + 1, q, s, [⟨q, m⟩]⟩ : VolD)]).length c2, .slice gA gm gc, .slice bA bm bc, .slice kA km kd, .slice tA tm tc]) (Tg := 29) rfl mE rfl rfl (.tmp rfl (.tmp rfl .nil))) (fun w' hk => ?_)
          exact RetS.mk ((⟨nv + 1, ng, nb, fl, ⟨A2, _, c2⟩, V ++ [⟨nv + 1, q, s, [⟨q, m⟩]⟩], ⟨gA, gm, gc⟩, G, ⟨bA, bm, bc⟩, B, ⟨kA, km, kd⟩, K, ⟨tA, tm, tc⟩, M⟩ : CatD), nv + 1, 0) ⟨⟨⟨rfl, hA21, hA22, hA23⟩, hc.g, hc.b, hc.k, hc.t, all_snoc hc.V hs, hc.G, hc.B, all_snoc hc.m (fun y hy => by obtain rfl := List.mem_singleton.1 hy; show 0 ≤ m; omega), by dsimp only; omega, hc.ng, hc.nb⟩, by rw [CatD.p, List.map_append]; rfl⟩ rfl hk (.cons (catF_rs (RS1.own hk mE) (RS1.all (all_snoc (fun x hx => part_rs hk mE (Der.elem d_V hx)) (RS1.own hk (φ := sl s.A 2 ME [⟨q, m⟩]) mE))) (part_rs hk mE d_g) (part_rs hk mE d_G) (part_rs hk mE d_b) (part_rs hk mE d_B) (part_rs hk mE d_k) (part_rs hk mE d_t)) .nil)
end Go.Proofs.Ytbcdcjiibalnnaa.Ct

