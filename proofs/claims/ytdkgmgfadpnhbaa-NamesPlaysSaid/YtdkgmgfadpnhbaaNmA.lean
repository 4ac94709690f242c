/- Law 55: alive. -/
import Derived.Test.YtdkgmgfadpnhbaaNm5
namespace Go.Proofs.Ytdkgmgfadpnhbaa.Nm
open Go.RowKit Mem Gx
set_option linter.unusedVariables false
set_option linter.unusedSimpArgs false
set_option maxRecDepth 100000
set_option maxHeartbeats 1000000
theorem nalive_any (w : World) : Calls Try.prog 29 #[] w fun e w' => e = .returned (.bool true) ∧ Below w.heap.size w w' := by
  have hR : RightP [100, 98] := ⟨by decide, fun i x h => by
    rcases i with _ | _ | i
    · injection h with h; subst h; exact .inl (by decide)
    · injection h with h; subst h; exact .inl (by decide)
    · simp at h⟩
  have hB : ∀ x ∈ ([100, 98] : List Int), 0 ≤ x ∧ x ≤ 255 := by decide
  refine g_enter0 T [] [] [] Try.func29 rfl Try.ntmps29 rfl (Kn.start _) ?_
  (repeat (refine gG ?_; try intro _))
  rename_i t
  refine g_pack (ntL t ⟨none, [], []⟩) [] sA ?_
  refine g_mv rfl (mv_call_mod (φ := ntF t ⟨none, [], []⟩) (ψ := fun T' : NTab => ntF t T') (fun w1 hk => by exact nset_ok t ⟨none, [], []⟩ [] 1 [100, 98] w1 hB (by decide) (by decide) (by decide) hR (by decide) (fun y hy => by cases hy) nti0 (hk.rO (φ := ntF t ⟨none, [], []⟩) mE)) rfl rfl rfl rfl rfl (by kernel_rfl) (by intro _; first | ((repeat (first | with_reducible exact Upd.here _ | with_reducible apply Upd.there)); done) | ((repeat (first | exact Upd.here _ | apply Upd.there)); done) | fail) (fun T' hT' => ?_))
  (repeat' (first | (refine gG ?_; try intro _) | ((first | refine g_split rfl rfl tE (fun _ => ?_) (fun _ => ?_) | refine gk_cond rfl rfl tE (fun _ => ?_) (fun _ => ?_)) <;> (try first | (exfalso; omega; done) | (rename_i hx; exact absurd rfl hx) | (rename_i hx; cases hx; done)))))
  refine g_mv rfl ?_; refine mv_call_bel (fun w hk => nset_twice t T' _ 2 [100, 98] ⟨1, strOfNums [100, 98]⟩ w hB (by decide) (by decide) (by decide) hR (by simp) rfl (by decide) hT' (hk.rO (φ := ntF t T') mE)) rfl rfl rfl rfl rfl (by kernel_rfl) ?_
  (repeat (refine gG ?_; try intro _))
  refine g_say 12 (.bool true) rfl (congrArg Value.bool (tB_true rfl)) ?_
  (repeat (refine gG ?_; try intro _))
  refine gk_ret hT rfl rfl (.tmp rfl .nil) (fun w' hk => ?_)
  exact ⟨rfl, hk.toBelow⟩
end Go.Proofs.Ytdkgmgfadpnhbaa.Nm

