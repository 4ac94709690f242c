/- op.Right. -/
import Derived.Test.YteajefmnbalofaaOpA
namespace Go.Proofs.Yteajefmnbalofaa.OpA
open Go.RowKit Mem Gx
set_option linter.unusedVariables false
set_option linter.unusedSimpArgs false
set_option maxRecDepth 100000
set_option maxHeartbeats 2000000
noncomputable def rightB (k v i b c : Int) (dl : Nat) (mB : Bool) : Bool :=
  if k = 1 then countB c else if k = 2 ∨ k = 10 ∨ k = 11 ∨ k = 13 then idB v else if k = 3 then idB v && countB c
  else if k = 4 then idB v && placeB b && tB (1 ≤ dl ∧ dl ≤ 64) else if k = 5 then idB v && placeB b && countB c
  else if k = 6 then mB else if k = 7 ∨ k = 8 ∨ k = 9 then idB i else if k = 12 then idB v && idB i else if k = 15 ∨ k = 16 then idB v && placeB b
  else tB (k = 14 ∨ k = 17 ∨ k = 18 ∨ k = 19)
theorem right_any (k v i b c p : Int) (A B : Option Addr) (m n cd cm : Nat) (M : List Int) (w : World) (hn : n = M.length) (hn9 : n ≤ 9223372036854775807) (hs : Sl w B 1 (IE .i64) M) :
    Calls Try.prog 73 [opV k v i b c p (.slice A m cd) (.slice B n cm)].toArray w fun e w' => e = .returned (.bool (rightB k v i b c m (memB M))) ∧ Below w.heap.size w w' := by
  refine g_enter0 T [] [] [sl B 1 (IE .i64) M] Try.func73 rfl Try.ntmps73 rfl ((Kn.start w).argR hs (by decide) (fun _ h => by cases h)) ?_
  (repeat' (first | (refine gG ?_; try intro _) | (refine g_mv rfl ?_; first | refine mv_call_bel (fun w hk => count_any _ w) rfl rfl rfl rfl rfl (by kernel_rfl) ?_ | refine mv_call_bel (fun w hk => id_any _ w) rfl rfl rfl rfl rfl (by kernel_rfl) ?_ | refine mv_call_bel (fun w hk => place_any _ w) rfl rfl rfl rfl rfl (by kernel_rfl) ?_ | refine mv_call_bel (fun w hk => members_any _ _ _ M w hn hn9 (hk.pR _ mE)) rfl rfl rfl rfl rfl (by kernel_rfl) ?_) | ((first | refine g_split rfl rfl tE (fun _ => ?_) (fun _ => ?_) | refine gk_cond rfl rfl tE (fun _ => ?_) (fun _ => ?_)) <;> (try first | (exfalso; omega; done) | (rename_i hx; exact absurd rfl hx) | (rename_i hx; cases hx; done)))))
  all_goals (refine gk_ret hT rfl rfl (.tmp rfl .nil) (fun w' hk => ?_); refine ⟨ret_bool ?_, hk.toBelow⟩; (simp [rightB, idB, placeB, countB, tB_eq, *] <;> omega))
end Go.Proofs.Yteajefmnbalofaa.OpA
