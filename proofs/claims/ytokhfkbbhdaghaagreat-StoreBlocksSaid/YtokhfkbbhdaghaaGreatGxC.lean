/- The walk by reckoned steps: more. -/
import Derived.Test.YtokhfkbbhdaghaaGreatTab
namespace Go.Proofs.YtokhfkbbhdaghaaGreat.Gx
open Go.RowKit Mem
set_option linter.unusedVariables false
set_option linter.unusedSimpArgs false
section
variable {X : Cx} {f : Fr} {O R : List Fact} {ks k : List KI} {ops rest : List Oper} {o : Oper} {S : List Fact} {N : Fr → List Fact → List Fact → Prop}
/-- An element of an array at hand. -/
theorem yd_index_arr (hT : TabOk X.P X.T) {ty t n e s t' s' : Nat} {z z' : List Value} {d : TD} {x i : Operand} {cs : Array Value} {v : Value} {kk : IntKind} {jj : Int} (j : Nat) (ho : o.op = .index ty x i) (hx : look X.n f x = some (.agg cs)) (hi : look X.n f i = some (.int kk jj))
    (hty : tfind X.T ty = some ⟨t, .array n e 1, s, z⟩) (hte : tfind X.T e = some ⟨t', d, s', z'⟩) (ha : agg? d = false) (hj : jj = j) (hn : j < n) (hv : cs.toList[j]? = some v) : Yd X f O R o v := fun a w hr hk => by
  obtain ⟨ht, hk1⟩ := tfind_ok hT hty
  obtain ⟨hte1, hk2⟩ := tfind_ok hT hte
  simp only at ht hte1
  subst ht
  subst hte1
  subst hj
  obtain ⟨hu0, hes0⟩ := chk_array hk1.d
  have hu : X.P.underlying t = some (.array n t') := hu0
  have hes : szIs X.P t' 1 = true := hes0
  have h1 : (isAgg t').run X.P w = .ok (agg? d) w := run_isAgg hk2.d w
  rw [ha] at h1
  have hv' : cs[j]? = some v := by simpa using hv
  have hn' : (j : Int) < (n : Int) := by omega
  simp [execOp, ho, hr.look hx, hr.look hi, Instr.index, asIntOf, run_underlying hu, hn', run_sizeOf hes w, part, h1, hv']
  intro h; omega
end
/-- Two ways that lead to one place: 'refine join1 (p := ?G) (fun J => ?r) ?g'; at the end of each way: g_wk ..; exact J.out. (J is shut: else a tactic that looks for False takes it.) -/
structure Later (p : Prop) : Prop where
  out : p
/-- As many steps as can be reckoned at once: 'refine gG ?_' (up to a new block, whose number is to be named). -/
theorem gG {p q : Prop} (g : q) (h : Later q → p := by
    intro h
    (first | refine g_nil ?_ | refine g_pure true hT rfl rfl rfl sI ?_ | refine g_skip rfl rfl ?_ | refine g_skip0 rfl rfl ?_ | refine gk_region rfl ?_ | refine gk_cond_t rfl rfl ?_ | refine gk_cond_f rfl rfl ?_ | refine g_yd rfl rfl (yd_load_blk hT rfl rfl mE rfl rfl) ?_ | refine g_yd rfl rfl (yd_load_row hT rfl rfl mE rfl rfl) ?_ | refine g_yd rfl rfl (yd_load_row0 hT rfl rfl mE rfl rfl) ?_ | refine g_yd rfl rfl (yd_eql rfl rfl rfl rfl rfl (by kernel_rfl)) ?_ | refine g_yd rfl rfl (yd_neq rfl rfl rfl rfl rfl (by kernel_rfl)) ?_ | refine g_yd rfl rfl (yd_index hT rfl rfl rfl sI rfl) ?_ | refine g_yd rfl rfl (yd_slice_nil hT rfl rfl rfl rfl) ?_ | refine g_yd rfl rfl (yd_build_arr hT rfl rfl rfl rfl rfl rfl) ?_ | (refine g_mv rfl ?_; first | (refine mv_box rfl rfl rfl rfl ?_) | (refine mv_alloc rfl hT rfl rfl ?_) | refine mv_store hT rfl rfl rfl rfl rfl rfl sO rfl ?_ | (refine mv_buildSlice rfl hT rfl rfl rfl rfl rfl rfl rfl rfl ?_)) | refine g_yd rfl rfl (Ys.yd (ys_str_eql hT rfl rfl rfl rfl)) ?_ | refine g_yd rfl rfl (Ys.yd (ys_str_neq hT rfl rfl rfl rfl)) ?_)
    repeat (first | refine g_nil ?_ | refine g_pure true hT rfl rfl rfl sI ?_ | refine g_skip rfl rfl ?_ | refine g_skip0 rfl rfl ?_ | refine gk_region rfl ?_ | refine gk_cond_t rfl rfl ?_ | refine gk_cond_f rfl rfl ?_ | refine g_yd rfl rfl (yd_load_blk hT rfl rfl mE rfl rfl) ?_ | refine g_yd rfl rfl (yd_load_row hT rfl rfl mE rfl rfl) ?_ | refine g_yd rfl rfl (yd_load_row0 hT rfl rfl mE rfl rfl) ?_ | refine g_yd rfl rfl (yd_eql rfl rfl rfl rfl rfl (by kernel_rfl)) ?_ | refine g_yd rfl rfl (yd_neq rfl rfl rfl rfl rfl (by kernel_rfl)) ?_ | refine g_yd rfl rfl (yd_index hT rfl rfl rfl sI rfl) ?_ | refine g_yd rfl rfl (yd_slice_nil hT rfl rfl rfl rfl) ?_ | refine g_yd rfl rfl (yd_build_arr hT rfl rfl rfl rfl rfl rfl) ?_ | (refine g_mv rfl ?_; first | (refine mv_box rfl rfl rfl rfl ?_) | (refine mv_alloc rfl hT rfl rfl ?_) | refine mv_store hT rfl rfl rfl rfl rfl rfl sO rfl ?_ | (refine mv_buildSlice rfl hT rfl rfl rfl rfl rfl rfl rfl rfl ?_)) | refine g_yd rfl rfl (Ys.yd (ys_str_eql hT rfl rfl rfl rfl)) ?_ | refine g_yd rfl rfl (Ys.yd (ys_str_neq hT rfl rfl rfl rfl)) ?_)
    exact h.out) : p := h ⟨g⟩
/-- The same, without literals of slices. -/
theorem gG1 {p q : Prop} (g : q) (h : Later q → p := by
    intro h
    (first | refine g_nil ?_ | refine g_pure true hT rfl rfl rfl sI ?_ | refine g_skip rfl rfl ?_ | refine g_skip0 rfl rfl ?_ | refine gk_region rfl ?_ | refine gk_cond_t rfl rfl ?_ | refine gk_cond_f rfl rfl ?_ | refine g_yd rfl rfl (yd_load_blk hT rfl rfl mE rfl rfl) ?_ | refine g_yd rfl rfl (yd_load_row hT rfl rfl mE rfl rfl) ?_ | refine g_yd rfl rfl (yd_load_row0 hT rfl rfl mE rfl rfl) ?_ | refine g_yd rfl rfl (yd_eql rfl rfl rfl rfl rfl (by kernel_rfl)) ?_ | refine g_yd rfl rfl (yd_neq rfl rfl rfl rfl rfl (by kernel_rfl)) ?_ | refine g_yd rfl rfl (yd_index hT rfl rfl rfl sI rfl) ?_ | refine g_yd rfl rfl (yd_slice_nil hT rfl rfl rfl rfl) ?_ | refine g_yd rfl rfl (yd_build_arr hT rfl rfl rfl rfl rfl rfl) ?_ | (refine g_mv rfl ?_; first | (refine mv_box rfl rfl rfl rfl ?_) | (refine mv_alloc rfl hT rfl rfl ?_) | refine mv_store hT rfl rfl rfl rfl rfl rfl sO rfl ?_) | refine g_yd rfl rfl (Ys.yd (ys_str_eql hT rfl rfl rfl rfl)) ?_ | refine g_yd rfl rfl (Ys.yd (ys_str_neq hT rfl rfl rfl rfl)) ?_)
    repeat (first | refine g_nil ?_ | refine g_pure true hT rfl rfl rfl sI ?_ | refine g_skip rfl rfl ?_ | refine g_skip0 rfl rfl ?_ | refine gk_region rfl ?_ | refine gk_cond_t rfl rfl ?_ | refine gk_cond_f rfl rfl ?_ | refine g_yd rfl rfl (yd_load_blk hT rfl rfl mE rfl rfl) ?_ | refine g_yd rfl rfl (yd_load_row hT rfl rfl mE rfl rfl) ?_ | refine g_yd rfl rfl (yd_load_row0 hT rfl rfl mE rfl rfl) ?_ | refine g_yd rfl rfl (yd_eql rfl rfl rfl rfl rfl (by kernel_rfl)) ?_ | refine g_yd rfl rfl (yd_neq rfl rfl rfl rfl rfl (by kernel_rfl)) ?_ | refine g_yd rfl rfl (yd_index hT rfl rfl rfl sI rfl) ?_ | refine g_yd rfl rfl (yd_slice_nil hT rfl rfl rfl rfl) ?_ | refine g_yd rfl rfl (yd_build_arr hT rfl rfl rfl rfl rfl rfl) ?_ | (refine g_mv rfl ?_; first | (refine mv_box rfl rfl rfl rfl ?_) | (refine mv_alloc rfl hT rfl rfl ?_) | refine mv_store hT rfl rfl rfl rfl rfl rfl sO rfl ?_) | refine g_yd rfl rfl (Ys.yd (ys_str_eql hT rfl rfl rfl rfl)) ?_ | refine g_yd rfl rfl (Ys.yd (ys_str_neq hT rfl rfl rfl rfl)) ?_)
    exact h.out) : p := h ⟨g⟩
end Go.Proofs.YtokhfkbbhdaghaaGreat.Gx
