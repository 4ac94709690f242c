/- slices.Clone at bytes. -/
import Derived.Test.YtokhfkbbhdaghaaGreatGxY
namespace Go.Proofs.YtokhfkbbhdaghaaGreat.Dk
open Go.RowKit Mem Gx
set_option linter.unusedVariables false
set_option linter.unusedSimpArgs false
set_option maxRecDepth 100000
set_option maxHeartbeats 2000000
theorem elt_B : Elt Tryz.prog 23 5 1 1 := Elt.mk' (z := .int .u8 0) Tryz.underlying23 (by kernel_rfl) rfl (by decide)
theorem clone_B (A : Option Addr) (n c : Nat) (L : List Int) (w : World) (hn : n = L.length) (hb : n ≤ 100000000) (hs : Sl w A 1 (IE .u8) L) :
    Calls Tryz.prog 20 [.slice A n c].toArray w (Ret (fun s : SlV => s.Ok L.length) SlV.v (fun s => [sl s.A 1 (IE .u8) L]) w) := by
  rcases A with _ | a
  · have hL : L = [] := by
      rcases Nat.eq_zero_or_pos L.length with h | h
      · exact List.length_eq_zero_iff.1 h
      · obtain ⟨b, off, e, _⟩ := hs h; cases e
    subst hL
    refine g_enter0 T [] [] [] Tryz.func20 rfl Tryz.ntmps20 rfl (Kn.start _) ?_
    (repeat (refine gG ?_; try intro _))
    refine gk_nilsl none 1 (IE .u8) ?_
    refine gk_ret hT rfl rfl (.tmp rfl .nil) (fun w' hk => ?_)
    exact Ret.mk ⟨none, 0, 0⟩ ⟨rfl, Nat.le_refl _, Nat.zero_le _, fun _ => rfl⟩ rfl hk sA
  · refine g_enter0 T [] [] [sl (some a) 1 (IE .u8) L] Tryz.func20 rfl Tryz.ntmps20 rfl ((Kn.start w).argR hs (by decide) (fun _ h => by cases h)) ?_
    (repeat (refine gG1 ?_; try intro _))
    refine g_mv rfl (mv_empty 1 (IE .u8) rfl hT rfl rfl rfl rfl rfl (fun g => ?_))
    (repeat (refine gG1 ?_; try intro _))
    refine g_mv rfl (mv_append (L := []) rfl L rfl rfl rfl rfl elt_B (by intro _; first | ((repeat (first | with_reducible exact Upd.here _ | with_reducible apply Upd.there)); done) | ((repeat (first | exact Upd.here _ | apply Upd.there)); done) | fail) (src_R mE) hn (by intro x j; rfl) (by simp [maxLen]; omega) (by simp; omega) (Nat.zero_le _) (fun v => ?_))
    (repeat (refine gG1 ?_; try intro _))
    refine gk_freeze _ (by intro _; first | ((repeat (first | with_reducible exact Upd.here _ | with_reducible apply Upd.there)); done) | ((repeat (first | exact Upd.here _ | apply Upd.there)); done) | fail) (fun A2 c2 hA2 hA21 hA22 hA23 => ?_); subst hA2
    refine gk_ret hT rfl rfl (.tmp rfl .nil) (fun w' hk => ?_)
    exact Ret.mk ⟨A2, _, c2⟩ ⟨by simp, hA21, hA22, hA23⟩ rfl hk sA
end Go.Proofs.YtokhfkbbhdaghaaGreat.Dk
