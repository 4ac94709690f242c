/- The fixed facts of groups. -/
import Derived.Test.YtbcdcjiibalnnaaGr6
import Derived.Test.YtbcdcjiibalnnaaGr7
import Derived.Test.YtbcdcjiibalnnaaCtM
namespace Go.Proofs.Ytbcdcjiibalnnaa.Ct
open Go.RowKit Mem Gx
set_option linter.unusedVariables false
set_option linter.unusedSimpArgs false
set_option maxRecDepth 100000
set_option maxHeartbeats 1000000
theorem catF_der {l : List Fact} {c : CatD} (h1 : Der l (sl c.v.A 3 VE c.V)) (h2 : Der l (allF c.V VolD.f)) (h3 : Der l (sl c.g.A 2 GE c.G)) (h4 : Der l (allF c.G GrpD.f)) (h5 : Der l (sl c.b.A 3 BE c.B)) (h6 : Der l (allF c.B BokD.f)) (h7 : Der l (sl c.k.A 1 (IE .u64) c.K)) (h8 : Der l (sl c.t.A 2 ME c.T)) : Der l (catF c) :=
  Der.all (L := c.fs) (F := id) fun φ hφ => by
    rcases List.mem_cons.1 hφ with rfl | hφ
    · exact h1
    rcases List.mem_cons.1 hφ with rfl | hφ
    · exact h2
    rcases List.mem_cons.1 hφ with rfl | hφ
    · exact h3
    rcases List.mem_cons.1 hφ with rfl | hφ
    · exact h4
    rcases List.mem_cons.1 hφ with rfl | hφ
    · exact h5
    rcases List.mem_cons.1 hφ with rfl | hφ
    · exact h6
    rcases List.mem_cons.1 hφ with rfl | hφ
    · exact h7
    rcases List.mem_cons.1 hφ with rfl | hφ
    · exact h8
    · cases hφ
theorem der_none {l : List Fact} {α : Type} [Inhabited α] {A : Option Addr} {sz : Nat} {enc : α → Nat → Value} : Der l (sl A sz enc ([] : List α)) := ⟨fun w hw h => absurd h (Nat.lt_irrefl _), fun b hb => absurd hb.1 (Nat.lt_irrefl _)⟩
theorem der_blk {α : Type} [Inhabited α] {g T : Nat} {cs : List Value} {sz : Nat} {enc : α → Nat → Value} {M : List α} (he : cs = flatF sz enc M) : Der [blk g cs T] (sl (some ⟨g, 0, none⟩) sz enc M) := ⟨fun w hw => sl_of_blk (hw _ (.head _)) he, fun b hb => by
  obtain ⟨_, a, ha, hab⟩ := hb
  injection ha with ha
  exact ⟨_, .head _, by rw [← hab, ← ha]; rfl⟩⟩
theorem one_of {α β : Type} {f : α → β} {L : List α} {y : β} (h : L.map f = [y]) : ∃ x, L = [x] ∧ f x = y := by
  have h1 := congrArg List.length h
  rw [List.length_map] at h1
  obtain ⟨x, hx⟩ := List.length_eq_one_iff.1 h1
  refine ⟨x, hx, ?_⟩
  rw [hx] at h
  simpa using h
theorem none_of {α β : Type} {f : α → β} {L : List α} (h : L.map f = []) : L = [] := by simpa using h
theorem galive (w : World) : Calls Try.prog 24 [].toArray w fun e w' => e = .returned (.bool true) ∧ Below w.heap.size w w' := by
  refine g_enter0 T [] [] [catF CatD.z] Try.func24 rfl Try.ntmps24 rfl (Rds.cons z_rd .nil).kn ?_
  have m1 : ∀ w, Rd1 w (catF CatD.z) → Calls Try.prog 18 [.agg #[.int .i64 0, .int .i64 0, .int .i64 0, .int .u64 0, .slice none 0 0, .slice none 0 0, .slice none 0 0, .slice none 0 0, .slice none 0 0], .int .i64 1, .int .u64 2].toArray w (RetC3 CatD.z (CatD.z.p, 0, 42) w) := fun w h => by
    have := mark_any CatD.z 1 2 w z_ok (by decide) (fun x hx => by cases hx) h
    rw [mark_none rfl] at this
    exact this
  (repeat (first | refine g_nil ?_ | refine g_pure true hT rfl rfl rfl sI ?_ | refine g_skip rfl rfl ?_ | refine g_skip0 rfl rfl ?_ | refine gk_region rfl ?_ | refine gk_cond_t rfl rfl ?_ | refine gk_cond_f rfl rfl ?_ | refine g_yd rfl rfl (yd_load_blk hT rfl rfl mE rfl rfl) ?_ | refine g_yd rfl rfl (yd_load_row hT rfl rfl mE rfl rfl) ?_ | refine g_yd rfl rfl (yd_load_row0 hT rfl rfl mE rfl rfl) ?_ | refine g_yd rfl rfl (yd_eql rfl rfl rfl rfl rfl (by kernel_rfl)) ?_ | refine g_yd rfl rfl (yd_neq rfl rfl rfl rfl rfl (by kernel_rfl)) ?_ | refine g_yd rfl rfl (yd_index hT rfl rfl rfl sI rfl) ?_ | refine g_yd rfl rfl (yd_slice_nil hT rfl rfl rfl rfl) ?_ | refine g_yd rfl rfl (yd_build_arr hT rfl rfl rfl rfl rfl rfl) ?_ | (refine g_mv rfl ?_; first | (refine mv_box rfl rfl rfl rfl ?_; intro _) | (refine mv_alloc rfl hT rfl rfl ?_; intro _) | refine mv_store hT rfl rfl rfl rfl rfl rfl sO rfl ?_ | (refine mv_buildSlice rfl hT rfl rfl rfl rfl rfl rfl rfl rfl ?_; intro _)) | refine g_yd rfl rfl (Ys.yd (ys_str_eql hT rfl rfl rfl rfl)) ?_ | refine g_yd rfl rfl (Ys.yd (ys_str_neq hT rfl rfl rfl rfl)) ?_))
  refine g_mv rfl ?_; refine mv_call_rs (fun w hk => m1 w (hk.rR mE)) rfl rfl rfl rfl rfl (by kernel_rfl) sS (fun _ => rfl) (fun r1 h1 n1 => ?_)
  obtain ⟨c1, i1, e1⟩ := r1
  obtain ⟨_, hp1⟩ := h1
  injection hp1 with _ hp1
  injection hp1 with q1 q2
  replace q1 : i1 = 0 := q1
  replace q2 : e1 = 42 := q2
  subst q1
  subst q2
  (repeat (first | refine g_nil ?_ | refine g_pure true hT rfl rfl rfl sI ?_ | refine g_skip rfl rfl ?_ | refine g_skip0 rfl rfl ?_ | refine gk_region rfl ?_ | refine gk_cond_t rfl rfl ?_ | refine gk_cond_f rfl rfl ?_ | refine g_yd rfl rfl (yd_load_blk hT rfl rfl mE rfl rfl) ?_ | refine g_yd rfl rfl (yd_load_row hT rfl rfl mE rfl rfl) ?_ | refine g_yd rfl rfl (yd_load_row0 hT rfl rfl mE rfl rfl) ?_ | refine g_yd rfl rfl (yd_eql rfl rfl rfl rfl rfl (by kernel_rfl)) ?_ | refine g_yd rfl rfl (yd_neq rfl rfl rfl rfl rfl (by kernel_rfl)) ?_ | refine g_yd rfl rfl (yd_index hT rfl rfl rfl sI rfl) ?_ | refine g_yd rfl rfl (yd_slice_nil hT rfl rfl rfl rfl) ?_ | refine g_yd rfl rfl (yd_build_arr hT rfl rfl rfl rfl rfl rfl) ?_ | (refine g_mv rfl ?_; first | (refine mv_box rfl rfl rfl rfl ?_; intro _) | (refine mv_alloc rfl hT rfl rfl ?_; intro _) | refine mv_store hT rfl rfl rfl rfl rfl rfl sO rfl ?_ | (refine mv_buildSlice rfl hT rfl rfl rfl rfl rfl rfl rfl rfl ?_; intro _)) | refine g_yd rfl rfl (Ys.yd (ys_str_eql hT rfl rfl rfl rfl)) ?_ | refine g_yd rfl rfl (Ys.yd (ys_str_neq hT rfl rfl rfl rfl)) ?_))
  rename_i g1 gv g4 gm
  refine g_share (φ := blk gv [.int .i64 3, .int .u64 0, .slice none 0 0] 60) (by repeat (first | with_reducible exact Sel.here | with_reducible apply Sel.there)) ?_
  refine g_share (φ := blk gm [.int .i64 3] 3) (by repeat (first | with_reducible exact Sel.here | with_reducible apply Sel.there)) ?_
  refine g_der [blk gv [.int .i64 3, .int .u64 0, .slice none 0 0] 60] (φ := sl (some ⟨gv, 0, none⟩) 3 VE [(⟨3, 0, ⟨none, 0, 0⟩, []⟩ : VolD)]) (der_blk rfl) sS ?_
  refine g_der [blk gm [.int .i64 3] 3] (φ := sl (some ⟨gm, 0, none⟩) 1 (IE .i64) [3]) (der_blk rfl) sS ?_
  have c0ok : (⟨0, 0, 0, 0, ⟨some ⟨gv, 0, none⟩, 1, 1⟩, [⟨3, 0, ⟨none, 0, 0⟩, []⟩], ⟨none, 0, 0⟩, [], ⟨none, 0, 0⟩, [], ⟨none, 0, 0⟩, [], ⟨none, 0, 0⟩, []⟩ : CatD).Ok :=
    ⟨ok_one, ok_nil, ok_nil, ok_nil, ok_nil, fun x hx => by obtain rfl := List.mem_singleton.1 hx; exact ok_nil, fun x hx => (by cases hx), fun x hx => (by cases hx), fun x hx => (by obtain rfl := List.mem_singleton.1 hx; intro y hy; cases hy), by dsimp only; omega, by dsimp only; omega, by dsimp only; omega⟩
  refine g_der [sl (some ⟨gv, 0, none⟩) 3 VE [(⟨3, 0, ⟨none, 0, 0⟩, []⟩ : VolD)]] (φ := catF (⟨0, 0, 0, 0, ⟨some ⟨gv, 0, none⟩, 1, 1⟩, [⟨3, 0, ⟨none, 0, 0⟩, []⟩], ⟨none, 0, 0⟩, [], ⟨none, 0, 0⟩, [], ⟨none, 0, 0⟩, [], ⟨none, 0, 0⟩, []⟩ : CatD))
    (catF_der (Der.mem (.head _)) (Der.all fun x hx => by obtain rfl := List.mem_singleton.1 hx; exact der_none) der_none (Der.all fun x hx => by cases hx) der_none (Der.all fun x hx => by cases hx) der_none der_none) sS ?_
  have m2 : ∀ w, Rd1 w (catF (⟨0, 0, 0, 0, ⟨some ⟨gv, 0, none⟩, 1, 1⟩, [⟨3, 0, ⟨none, 0, 0⟩, []⟩], ⟨none, 0, 0⟩, [], ⟨none, 0, 0⟩, [], ⟨none, 0, 0⟩, [], ⟨none, 0, 0⟩, []⟩ : CatD)) → Rd1 w (sl (some ⟨gm, 0, none⟩) 1 (IE .i64) [3]) →
      Calls Try.prog 16 [.agg #[.int .i64 0, .int .i64 0, .int .i64 0, .int .u64 0, .slice (some ⟨gv, 0, none⟩) 1 1, .slice none 0 0, .slice none 0 0, .slice none 0 0, .slice none 0 0], .slice (some ⟨gm, 0, none⟩) 1 1].toArray w (RetA (⟨0, 0, 0, 0, ⟨some ⟨gv, 0, none⟩, 1, 1⟩, [⟨3, 0, ⟨none, 0, 0⟩, []⟩], ⟨none, 0, 0⟩, [], ⟨none, 0, 0⟩, [], ⟨none, 0, 0⟩, [], ⟨none, 0, 0⟩, []⟩ : CatD) (some ⟨gm, 0, none⟩) [3] (⟨0, 1, 0, 0, [(3, 0, [])], [(1, [3])], [], [], []⟩, 1, 0) w) := fun w h h2 => by
    have := add_any (⟨0, 0, 0, 0, ⟨some ⟨gv, 0, none⟩, 1, 1⟩, [⟨3, 0, ⟨none, 0, 0⟩, []⟩], ⟨none, 0, 0⟩, [], ⟨none, 0, 0⟩, [], ⟨none, 0, 0⟩, [], ⟨none, 0, 0⟩, []⟩ : CatD) (some ⟨gm, 0, none⟩) 1 1 [3] w c0ok (Nat.zero_le _) ok_one (by decide) h h2
    rw [add_new (fun m hm => by obtain rfl := List.mem_singleton.1 hm; intro h; cases h) (by simp)] at this
    exact this
  refine g_mv rfl ?_; refine mv_call_rs (fun w hk => m2 w (hk.rR mE) (hk.rR mE)) rfl rfl rfl rfl rfl (by kernel_rfl) sS (fun _ => rfl) (fun r2 h2 n2 => ?_)
  obtain ⟨c2, i2, e2⟩ := r2
  obtain ⟨hc2, hp2⟩ := h2
  replace hc2 : c2.Ok := hc2
  injection hp2 with hp2 hq2
  injection hq2 with q1 q2
  replace hp2 : c2.p = _ := hp2
  replace q1 : i2 = 1 := q1
  replace q2 : e2 = 0 := q2
  subst q1
  subst q2
  obtain ⟨x, hx, hxd⟩ := one_of (congrArg CatP.G hp2 : c2.G.map GrpD.d = [(1, [3])])
  have hB2 := none_of (congrArg CatP.B hp2 : c2.B.map BokD.d = [])
  have hnb : c2.nb = 0 := congrArg CatP.nb hp2
  have hxi : x.id = 1 := congrArg Prod.fst hxd
  have hxL : x.L = [3] := congrArg Prod.snd hxd
  have m3 : ∀ w, Rd1 w (catF c2) → Calls Try.prog 18 [c2.val, .int .i64 1, .int .u64 9].toArray w (RetC3 c2 (⟨c2.nv, c2.ng, 0 + 1, c2.fl, c2.V.map VolD.d, c2.G.map GrpD.d, [] ++ [(0 + 1, 9, [3])], c2.K, c2.T⟩, 0 + 1, 0) w) := fun w h => by
    have := mark_any c2 1 9 w hc2 (by rw [hB2]; decide) (fun y hy => by rw [hx] at hy; obtain rfl := List.mem_singleton.1 hy; rw [hxL]; decide) h
    rw [mark_new (i := 0) (x := x) (by rw [hx]; simp [pos, hxi]) (by rw [hx]; rfl) (by rw [hB2, hnb]; simp), hB2, hnb, hxL] at this
    exact this
  (repeat (first | refine g_nil ?_ | refine g_pure true hT rfl rfl rfl sI ?_ | refine g_skip rfl rfl ?_ | refine g_skip0 rfl rfl ?_ | refine gk_region rfl ?_ | refine gk_cond_t rfl rfl ?_ | refine gk_cond_f rfl rfl ?_ | refine g_yd rfl rfl (yd_load_blk hT rfl rfl mE rfl rfl) ?_ | refine g_yd rfl rfl (yd_load_row hT rfl rfl mE rfl rfl) ?_ | refine g_yd rfl rfl (yd_load_row0 hT rfl rfl mE rfl rfl) ?_ | refine g_yd rfl rfl (yd_eql rfl rfl rfl rfl rfl (by kernel_rfl)) ?_ | refine g_yd rfl rfl (yd_neq rfl rfl rfl rfl rfl (by kernel_rfl)) ?_ | refine g_yd rfl rfl (yd_index hT rfl rfl rfl sI rfl) ?_ | refine g_yd rfl rfl (yd_slice_nil hT rfl rfl rfl rfl) ?_ | refine g_yd rfl rfl (yd_build_arr hT rfl rfl rfl rfl rfl rfl) ?_ | (refine g_mv rfl ?_; first | (refine mv_box rfl rfl rfl rfl ?_; intro _) | (refine mv_alloc rfl hT rfl rfl ?_; intro _) | refine mv_store hT rfl rfl rfl rfl rfl rfl sO rfl ?_ | (refine mv_buildSlice rfl hT rfl rfl rfl rfl rfl rfl rfl rfl ?_; intro _)) | refine g_yd rfl rfl (Ys.yd (ys_str_eql hT rfl rfl rfl rfl)) ?_ | refine g_yd rfl rfl (Ys.yd (ys_str_neq hT rfl rfl rfl rfl)) ?_))
  refine g_mv rfl ?_; refine mv_call_rs (fun w hk => m3 w (hk.rR mE)) rfl rfl rfl rfl rfl (by kernel_rfl) sS (fun _ => rfl) (fun r3 h3 n3 => ?_)
  obtain ⟨c3, i3, e3⟩ := r3
  obtain ⟨hc3, hp3⟩ := h3
  replace hc3 : c3.Ok := hc3
  injection hp3 with hp3 hq3
  injection hq3 with q1 q2
  replace hp3 : c3.p = _ := hp3
  replace q1 : i3 = 1 := q1
  replace q2 : e3 = 0 := q2
  subst q1
  subst q2
  obtain ⟨y, hy, hyd⟩ := one_of (congrArg CatP.B hp3 : c3.B.map BokD.d = [(0 + 1, 9, [3])])
  have hyi : y.id = 1 := congrArg Prod.fst hyd
  have hyq : y.q = 9 := congrArg (fun p => p.2.1) hyd
  have hyL : y.L = [3] := congrArg (fun p => p.2.2) hyd
  have m4 : ∀ w, Rd1 w (catF c3) → Calls Try.prog 25 [c3.val, .int .i64 1, .int .i64 3].toArray w fun e w' => e = .returned (.tuple #[.agg #[.int .i64 y.id, .int .u64 9, .slice y.s.A y.s.n y.s.c], .int .i64 0]) ∧ Below w.heap.size w w' := fun w h => by
    have := find_any c3 1 3 w hc3 h
    rw [fnd_some (i := 0) (x := y) (by rw [hy]; simp [pos, hyi]) (by rw [hy]; rfl), if_pos (tB_true (by rw [hyL]; exact .head _))] at this
    dsimp only [BokD.val] at this
    rw [hyq] at this
    exact this
  (repeat' (first | (first | refine g_nil ?_ | refine g_pure true hT rfl rfl rfl sI ?_ | refine g_skip rfl rfl ?_ | refine g_skip0 rfl rfl ?_ | refine gk_region rfl ?_ | refine gk_cond_t rfl rfl ?_ | refine gk_cond_f rfl rfl ?_ | refine g_yd rfl rfl (yd_load_blk hT rfl rfl mE rfl rfl) ?_ | refine g_yd rfl rfl (yd_load_row hT rfl rfl mE rfl rfl) ?_ | refine g_yd rfl rfl (yd_load_row0 hT rfl rfl mE rfl rfl) ?_ | refine g_yd rfl rfl (yd_eql rfl rfl rfl rfl rfl (by kernel_rfl)) ?_ | refine g_yd rfl rfl (yd_neq rfl rfl rfl rfl rfl (by kernel_rfl)) ?_ | refine g_yd rfl rfl (yd_index hT rfl rfl rfl sI rfl) ?_ | refine g_yd rfl rfl (yd_slice_nil hT rfl rfl rfl rfl) ?_ | refine g_yd rfl rfl (yd_build_arr hT rfl rfl rfl rfl rfl rfl) ?_ | (refine g_mv rfl ?_; first | (refine mv_box rfl rfl rfl rfl ?_; intro _) | (refine mv_alloc rfl hT rfl rfl ?_; intro _) | refine mv_store hT rfl rfl rfl rfl rfl rfl sO rfl ?_ | (refine mv_buildSlice rfl hT rfl rfl rfl rfl rfl rfl rfl rfl ?_; intro _)) | refine g_yd rfl rfl (Ys.yd (ys_str_eql hT rfl rfl rfl rfl)) ?_ | refine g_yd rfl rfl (Ys.yd (ys_str_neq hT rfl rfl rfl rfl)) ?_) | (refine g_mv rfl ?_; first | refine mv_call_bel (fun w hk => m4 w (hk.rR mE)) rfl rfl rfl rfl rfl (by kernel_rfl) ?_) | ((first | refine g_split rfl rfl tE (fun _ => ?_) (fun _ => ?_) | refine gk_cond rfl rfl tE (fun _ => ?_) (fun _ => ?_)) <;> (try first | (exfalso; omega; done) | (rename_i hx; exact absurd rfl hx) | (rename_i hx; cases hx; done)))))
  refine gk_ret hT rfl rfl (.tmp rfl .nil) (fun w' hk => ?_)
  exact ⟨ret_bool (by simp [tB_eq]), hk.toBelow⟩
end Go.Proofs.Ytbcdcjiibalnnaa.Ct

