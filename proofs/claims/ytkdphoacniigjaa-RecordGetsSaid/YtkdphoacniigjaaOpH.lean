/- The law OpTells; an operation as an argument. -/
import Derived.Test.YtkdphoacniigjaaOpG
import Derived.Test.YtkdphoacniigjaaFlat2
namespace Go.Proofs.Ytkdphoacniigjaa.OpA
open Go.RowKit Mem Gx Sls Bytes
set_option linter.unusedVariables false
set_option linter.unusedSimpArgs false
set_option maxRecDepth 100000
set_option maxHeartbeats 4000000
theorem opTells_any (a b : OpD) (w : World) (ha : a.Ok) (hai : a.In w) (hb : b.Ok) (hbi : b.In w) : Calls Try.prog 5 [a.val, b.val].toArray w fun e w' => e = .returned (.bool true) ∧ Below w.heap.size w w' := by
  by_cases h1 : 300 < a.D.length ∨ 100 < a.M.length
  · have g1 := fun w => calls_b (tB_true h1) (great_any a w ha)
    refine g_enter0 T [] [] [] Try.func5 rfl Try.ntmps5 rfl (Kn.start _) ?_
    (repeat' (first | (first | refine g_nil ?_ | refine g_pure true hT rfl rfl rfl sI ?_ | refine g_skip rfl rfl ?_ | refine g_skip0 rfl rfl ?_ | refine gk_region rfl ?_ | refine gk_cond_t rfl rfl ?_ | refine gk_cond_f rfl rfl ?_ | refine g_yd rfl rfl (yd_load_blk hT rfl rfl mE rfl rfl) ?_ | refine g_yd rfl rfl (yd_load_row hT rfl rfl mE rfl rfl) ?_ | refine g_yd rfl rfl (yd_load_row0 hT rfl rfl mE rfl rfl) ?_ | refine g_yd rfl rfl (yd_eql rfl rfl rfl rfl rfl (by kernel_rfl)) ?_ | refine g_yd rfl rfl (yd_neq rfl rfl rfl rfl rfl (by kernel_rfl)) ?_ | refine g_yd rfl rfl (yd_index hT rfl rfl rfl sI rfl) ?_ | refine g_yd rfl rfl (yd_slice_nil hT rfl rfl rfl rfl) ?_ | refine g_yd rfl rfl (yd_build_arr hT rfl rfl rfl rfl rfl rfl) ?_ | (refine g_mv rfl ?_; first | (refine mv_box rfl rfl rfl rfl ?_; intro _) | (refine mv_alloc rfl hT rfl rfl ?_; intro _) | refine mv_store hT rfl rfl rfl rfl rfl rfl sO rfl ?_ | (refine mv_buildSlice rfl hT rfl rfl rfl rfl rfl rfl rfl rfl ?_; intro _)) | refine g_yd rfl rfl (Ys.yd (ys_str_eql hT rfl rfl rfl rfl)) ?_ | refine g_yd rfl rfl (Ys.yd (ys_str_neq hT rfl rfl rfl rfl)) ?_) | (refine g_mv rfl ?_; first | refine mv_call_bel (fun w hk => g1 w) rfl rfl rfl rfl rfl (by kernel_rfl) ?_) | ((first | refine g_split rfl rfl tE (fun _ => ?_) (fun _ => ?_) | refine gk_cond rfl rfl tE (fun _ => ?_) (fun _ => ?_)) <;> (try first | (exfalso; omega; done) | (rename_i hx; exact absurd rfl hx) | (rename_i hx; cases hx; done)))))
    refine gk_ret hT rfl rfl (.tmp rfl .nil) (fun w' hk => ?_)
    exact ⟨rfl, hk.toBelow⟩
  · by_cases h2 : 300 < b.D.length ∨ 100 < b.M.length
    · have g1 := fun w => calls_b (tB_false h1) (great_any a w ha)
      have g2 := fun w => calls_b (tB_true h2) (great_any b w hb)
      refine g_enter0 T [] [] [] Try.func5 rfl Try.ntmps5 rfl (Kn.start _) ?_
      (repeat' (first | (first | refine g_nil ?_ | refine g_pure true hT rfl rfl rfl sI ?_ | refine g_skip rfl rfl ?_ | refine g_skip0 rfl rfl ?_ | refine gk_region rfl ?_ | refine gk_cond_t rfl rfl ?_ | refine gk_cond_f rfl rfl ?_ | refine g_yd rfl rfl (yd_load_blk hT rfl rfl mE rfl rfl) ?_ | refine g_yd rfl rfl (yd_load_row hT rfl rfl mE rfl rfl) ?_ | refine g_yd rfl rfl (yd_load_row0 hT rfl rfl mE rfl rfl) ?_ | refine g_yd rfl rfl (yd_eql rfl rfl rfl rfl rfl (by kernel_rfl)) ?_ | refine g_yd rfl rfl (yd_neq rfl rfl rfl rfl rfl (by kernel_rfl)) ?_ | refine g_yd rfl rfl (yd_index hT rfl rfl rfl sI rfl) ?_ | refine g_yd rfl rfl (yd_slice_nil hT rfl rfl rfl rfl) ?_ | refine g_yd rfl rfl (yd_build_arr hT rfl rfl rfl rfl rfl rfl) ?_ | (refine g_mv rfl ?_; first | (refine mv_box rfl rfl rfl rfl ?_; intro _) | (refine mv_alloc rfl hT rfl rfl ?_; intro _) | refine mv_store hT rfl rfl rfl rfl rfl rfl sO rfl ?_ | (refine mv_buildSlice rfl hT rfl rfl rfl rfl rfl rfl rfl rfl ?_; intro _)) | refine g_yd rfl rfl (Ys.yd (ys_str_eql hT rfl rfl rfl rfl)) ?_ | refine g_yd rfl rfl (Ys.yd (ys_str_neq hT rfl rfl rfl rfl)) ?_) | (refine g_mv rfl ?_; first | refine mv_call_bel (fun w hk => g1 w) rfl rfl rfl rfl rfl (by kernel_rfl) ?_ | refine mv_call_bel (fun w hk => g2 w) rfl rfl rfl rfl rfl (by kernel_rfl) ?_) | ((first | refine g_split rfl rfl tE (fun _ => ?_) (fun _ => ?_) | refine gk_cond rfl rfl tE (fun _ => ?_) (fun _ => ?_)) <;> (try first | (exfalso; omega; done) | (rename_i hx; exact absurd rfl hx) | (rename_i hx; cases hx; done)))))
      refine gk_ret hT rfl rfl (.tmp rfl .nil) (fun w' hk => ?_)
      exact ⟨rfl, hk.toBelow⟩
    · refine tells_few a b w ha hai hb hbi (by omega) (tB (1 ≤ a.k) && tB (a.k ≤ 14)) (tB (1 ≤ a.k)) (tB (a.k ≤ 14)) rfl ?_ rfl rfl
      simp [tB_eq]
/-- What is known of an operation that is handed in. -/
structure OpD.Bd (o : OpD) : Prop where
  bp : 0 ≤ o.p ∧ o.p ≤ 18446744073709551615
  bk : -9223372036854775808 ≤ o.k ∧ o.k ≤ 9223372036854775807
  bv : -9223372036854775808 ≤ o.v ∧ o.v ≤ 9223372036854775807
  bi : -9223372036854775808 ≤ o.i ∧ o.i ≤ 9223372036854775807
  bb : -9223372036854775808 ≤ o.b ∧ o.b ≤ 9223372036854775807
  bc : -9223372036854775808 ≤ o.c ∧ o.c ≤ 9223372036854775807
  bD : IsB o.D
theorem op_leaves {H : Type} {enc : TypeId × Value → H} {W : World} {V : Nat → Value} {l : List TypeId} (o : Nat) (hl : l = [3, 3, 3, 3, 3, 36, 22, 37]) (hV : ∀ (j : Nat) (tj : TypeId), l[j]? = some tj → Leaf enc Try.prog W tj (V (o + j))) :
    ∃ p : OpD, [V o, V (o + 1), V (o + 2), V (o + 3), V (o + 4), V (o + 5), V (o + 6), V (o + 7)] = p.cells ∧ p.Ok ∧ p.In W ∧ p.Bd := by
  subst hl
  obtain ⟨a0, e0, w0⟩ := leaf_int Try.underlying3 (hV 0 _ rfl)
  obtain ⟨a1, e1, w1⟩ := leaf_int Try.underlying3 (hV 1 _ rfl)
  obtain ⟨a2, e2, w2⟩ := leaf_int Try.underlying3 (hV 2 _ rfl)
  obtain ⟨a3, e3, w3⟩ := leaf_int Try.underlying3 (hV 3 _ rfl)
  obtain ⟨a4, e4, w4⟩ := leaf_int Try.underlying3 (hV 4 _ rfl)
  obtain ⟨a5, e5, w5⟩ := leaf_int Try.underlying36 (hV 5 _ rfl)
  obtain ⟨A, n, c, D, e6, k1, k2, k3, k4, k5, k6⟩ := leaf_ints Try.underlying22 Try.underlying5 (by kernel_rfl) (hV 6 _ rfl)
  obtain ⟨B, m, c', M, e7, q1, q2, q3, q4, q5, q6⟩ := leaf_ints Try.underlying37 Try.underlying3 (by kernel_rfl) (hV 7 _ rfl)
  refine ⟨⟨a0, a1, a2, a3, a4, a5, ⟨A, n, c⟩, D, ⟨B, m, c'⟩, M⟩, ?_, ⟨⟨k1, k3, k4, k5⟩, ⟨q1, q3, q4, q5⟩⟩, ⟨k2, q2⟩, ⟨u64_bd w5, i64_bd w0, i64_bd w1, i64_bd w2, i64_bd w3, i64_bd w4, fun x hx => ?_⟩⟩
  · rw [show V o = .int .i64 a0 from e0, e1, e2, e3, e4, e5, e6, e7]; rfl
  · have := k6 x hx
    simp [Lit.wf, IntKind.min, IntKind.max, IntKind.signed, IntKind.bits] at this
    omega
theorem op_of {H : Type} {enc : TypeId × Value → H} {W : World} {base : Nat} {v : Value} {d : DataW H} {p : List MemPlace} (hv : Value.okWide Try.prog W .any base 39 v) (h : DataW.Trod enc Try.prog W 0 (fun _ => true) true 39 v d p) :
    ∃ o : OpD, v = o.val ∧ o.Ok ∧ o.In W ∧ o.Bd := by
  have hl : leaves Try.prog 8 39 = some [3, 3, 3, 3, 3, 36, 22, 37] := by decide +kernel
  obtain ⟨V, rfl, hV⟩ := open_flat hl (by kernel_rfl) (by kernel_rfl) hv h
  obtain ⟨o, e, h1, h2, h3⟩ := op_leaves (V := V) 0 rfl (fun j tj hj => by rw [Nat.zero_add]; exact hV j tj hj)
  refine ⟨o, ?_, h1, h2, h3⟩
  have e' : (List.range 8).map V = o.cells := by rw [← e]; rfl
  show Value.agg ((List.range 8).map V).toArray = _
  rw [e']
  rfl
end Go.Proofs.Ytkdphoacniigjaa.OpA
