/- The law SuperLater. -/
import Derived.Test.YtkdphoacniigjaaSuper10
namespace Go.Proofs.Ytkdphoacniigjaa.Super
open Go.RowKit Mem Bytes Fix Reader Gx
set_option linter.unusedVariables false
set_option linter.unusedSimpArgs false
set_option maxRecDepth 100000
set_option maxHeartbeats 2000000
/-- The next life. -/
def upS (S : Nat → Int) : Nat → Int
  | 0 => S 0 + 1
  | 1 => 7
  | n + 2 => S (n + 2)
theorem up_bd {S : Nat → Int} (hb : BdS S) (h : S 0 < 4611686018427387904) : BdS (upS S) := by
  obtain ⟨h0, h1, h2, h3, h4, h5, h6, h9, h10, h11, h12⟩ := hb
  exact ⟨⟨by show 0 ≤ S 0 + 1; omega, by show S 0 + 1 ≤ _; omega⟩, ⟨by show (0 : Int) ≤ 7; omega, by show (7 : Int) ≤ _; omega⟩, h2, h3, h4, h5, h6, h9, h10, h11, h12⟩
theorem up_right {S : Nat → Int} (hb : BdS S) (h : RightS S) : RightS (upS S) := by
  obtain ⟨h0, h1⟩ := hb
  obtain ⟨_, h2⟩ := h
  exact ⟨by show S 0 + 1 ≠ 0; omega, h2⟩
theorem pick_sec {Z : Nat → Int} {L L' : List Int} (hZ : BdS Z ∧ RightS Z) (A A' : Option Addr) (m c m' c' : Nat) (w : World) (hm : m = L.length) (hc : m ≤ c) (h : BS w A L) (hB : IsB L) (hm9 : m ≤ 100000) (hm' : m' = L'.length) (hc' : m' ≤ c') (h' : BS w A' L') (hB' : IsB L') (hm9' : m' ≤ 100000)
    (hp : pickS (supR (Page.ofR 1 (Page.getS L))) (supR (Page.ofR 1 (Page.getS L'))) = (chV (bdy Z 13), 0)) :
    Calls Try.prog 36 [.slice A m c, .slice A' m' c'].toArray w fun e w' => e = .returned (.tuple #[SV Z, .int .i64 0]) ∧ Below w.heap.size w w' := by
  refine (spick_any A A' m c m' c' L L' w hm hc h hB hm9 hm' hc' h' hB' hm9').mono ?_
  intro e w' h1
  rw [hp] at h1
  have h2 := supRes_out _ _ h1
  rw [sv_ch hZ.1 hZ.2] at h2
  exact h2
theorem pickS_l {f g : Nat → Int} (h0 : f 0 % 2 = 0) (h : g 0 < f 0) : pickS (f, 0) (g, 0) = (f, 0) := by
  unfold pickS; dsimp only; rw [if_pos ⟨⟨rfl, h0⟩, .inr h⟩]
theorem pickS_r {f g : Nat → Int} (h1 : g 0 % 2 = 1) (h : ¬ g 0 < f 0) : pickS (f, 0) (g, 0) = (g, 0) := by
  unfold pickS; dsimp only; rw [if_neg (fun h' => h'.2.elim (fun h => h ⟨rfl, h1⟩) h), if_pos ⟨rfl, h1⟩]
theorem pickS_first {f g : Nat → Int} (h0 : f 0 % 2 = 0) : pickS (f, 0) (g, 21) = (f, 0) := by
  unfold pickS; dsimp only; rw [if_pos ⟨⟨rfl, h0⟩, .inl (fun h => absurd h.1 (by decide))⟩]
theorem pickS_second {f g : Nat → Int} (h0 : g 0 % 2 = 1) : pickS (f, 21) (g, 0) = (g, 0) := by
  unfold pickS; dsimp only; rw [if_neg (fun h => absurd h.1.1 (by decide)), if_pos ⟨rfl, h0⟩]
/-- Pick of two sectors of lives. -/
theorem pick_l {S T : Nat → Int} (hS : BdS S ∧ RightS S) (hT' : BdS T ∧ RightS T) (h0 : S 0 % 2 = 0) (h : T 0 < S 0) :
    pickS (supR (Page.ofR 1 (Page.getS (Page.page 1 (bdy S 13))))) (supR (Page.ofR 1 (Page.getS (Page.page 1 (bdy T 13))))) = (chV (bdy S 13), 0) := by
  rw [sup_page hS.1 hS.2, sup_page hT'.1 hT'.2]
  have e1 := ch_bdy hS.1 hS.2 0 (by omega)
  have e2 := ch_bdy hT'.1 hT'.2 0 (by omega)
  generalize chV (bdy S 13) = f at *
  generalize chV (bdy T 13) = g at *
  exact pickS_l (by omega) (by omega)
theorem pick_r {S T : Nat → Int} (hS : BdS S ∧ RightS S) (hT' : BdS T ∧ RightS T) (h0 : T 0 % 2 = 1) (h : ¬ T 0 < S 0) :
    pickS (supR (Page.ofR 1 (Page.getS (Page.page 1 (bdy S 13))))) (supR (Page.ofR 1 (Page.getS (Page.page 1 (bdy T 13))))) = (chV (bdy T 13), 0) := by
  rw [sup_page hS.1 hS.2, sup_page hT'.1 hT'.2]
  have e1 := ch_bdy hS.1 hS.2 0 (by omega)
  have e2 := ch_bdy hT'.1 hT'.2 0 (by omega)
  generalize chV (bdy S 13) = f at *
  generalize chV (bdy T 13) = g at *
  exact pickS_r (by omega) (by omega)
theorem pick_first {S : Nat → Int} (hS : BdS S ∧ RightS S) (h0 : S 0 % 2 = 0) :
    pickS (supR (Page.ofR 1 (Page.getS (Page.page 1 (bdy S 13))))) (supR (Page.ofR 1 (Page.getS Z128))) = (chV (bdy S 13), 0) := by
  rw [sup_page hS.1 hS.2, supR_z]
  have e1 := ch_bdy hS.1 hS.2 0 (by omega)
  generalize chV (bdy S 13) = f at *
  exact pickS_first (by omega)
theorem pick_second {S : Nat → Int} (hS : BdS S ∧ RightS S) (h0 : S 0 % 2 = 1) :
    pickS (supR (Page.ofR 1 (Page.getS Z128))) (supR (Page.ofR 1 (Page.getS (Page.page 1 (bdy S 13))))) = (chV (bdy S 13), 0) := by
  rw [sup_page hS.1 hS.2, supR_z]
  have e1 := ch_bdy hS.1 hS.2 0 (by omega)
  generalize chV (bdy S 13) = f at *
  exact pickS_second (by omega)
theorem superLater_no (S : Nat → Int) (wh : Bool) (w : World) (hb : BdS S) (h : ¬ RightS S ∨ 4611686018427387904 ≤ S 0) : Calls Try.prog 9 [SV S, .bool wh].toArray w fun e w' => e = .returned (.bool true) ∧ Below w.heap.size w w' := by
  by_cases hr : RightS S
  · have r2 := fun (w : World) => rright_S S w hb true ⟨fun _ => hr, fun _ => rfl⟩
    have h : 4611686018427387904 ≤ S 0 := h.resolve_left (fun h => h hr)
    refine g_enter0 T [] [] [] Try.func9 rfl Try.ntmps9 rfl (Kn.start _) ?_
    repeat' (first | (first | refine g_nil ?_ | refine g_pure true hT rfl rfl rfl (by first | exact trivial | omega | (simp only [inR]; omega)) ?_ | refine g_skip rfl rfl ?_ | refine g_skip0 rfl rfl ?_ | refine gk_region rfl ?_ | refine gk_cond_t rfl rfl ?_ | refine gk_cond_f rfl rfl ?_ | refine g_yd rfl rfl (yd_load_blk hT rfl rfl (by first | ((repeat (first | with_reducible exact List.mem_cons_self | with_reducible refine List.mem_cons_of_mem _ ?_)); done) | (repeat (first | exact List.Mem.head _ | apply List.Mem.tail))) rfl rfl) ?_ | refine g_yd rfl rfl (yd_load_row hT rfl rfl (by first | ((repeat (first | with_reducible exact List.mem_cons_self | with_reducible refine List.mem_cons_of_mem _ ?_)); done) | (repeat (first | exact List.Mem.head _ | apply List.Mem.tail))) rfl rfl) ?_ | refine g_yd rfl rfl (yd_load_row0 hT rfl rfl (by first | ((repeat (first | with_reducible exact List.mem_cons_self | with_reducible refine List.mem_cons_of_mem _ ?_)); done) | (repeat (first | exact List.Mem.head _ | apply List.Mem.tail))) rfl rfl) ?_ | refine g_yd rfl rfl (yd_eql rfl rfl rfl rfl rfl (by kernel_rfl)) ?_ | refine g_yd rfl rfl (yd_neq rfl rfl rfl rfl rfl (by kernel_rfl)) ?_ | refine g_yd rfl rfl (yd_index hT rfl rfl rfl (by first | exact trivial | omega | (simp only [inR]; omega)) rfl) ?_ | (refine g_mv rfl ?_; first | (refine mv_box rfl rfl rfl rfl ?_; intro _) | (refine mv_alloc rfl hT rfl rfl ?_; intro _) | refine mv_store hT rfl rfl rfl rfl rfl rfl (by first | ((repeat (first | ((with_reducible refine StO.here ?_); rfl) | with_reducible apply StO.there)); done) | (repeat (first | exact StO.here rfl | apply StO.there))) rfl ?_ | (refine mv_buildSlice rfl hT rfl rfl rfl rfl rfl rfl rfl rfl ?_; intro _))) | (refine g_mv rfl ?_; first | refine mv_call_bel (fun w hk => r2 w) rfl rfl rfl rfl rfl (by kernel_rfl) ?_) | ((first | refine g_split rfl rfl (by first | exact tells_tB _ | exact tells_not (tells_tB _)) (fun _ => ?_) (fun _ => ?_) | refine gk_cond rfl rfl (by first | exact tells_tB _ | exact tells_not (tells_tB _)) (fun _ => ?_) (fun _ => ?_)) <;> (try first | (exfalso; omega; done) | (rename_i hx; exact absurd rfl hx) | (rename_i hx; cases hx; done))))
    all_goals (refine gk_ret hT rfl rfl (.tmp rfl .nil) (fun w' hk => ?_); exact ⟨rfl, hk.toBelow⟩)
  · have r2 := fun (w : World) => rright_S S w hb false ⟨fun h => (by cases h), fun h' => absurd h' hr⟩
    refine g_enter0 T [] [] [] Try.func9 rfl Try.ntmps9 rfl (Kn.start _) ?_
    repeat' (first | (first | refine g_nil ?_ | refine g_pure true hT rfl rfl rfl (by first | exact trivial | omega | (simp only [inR]; omega)) ?_ | refine g_skip rfl rfl ?_ | refine g_skip0 rfl rfl ?_ | refine gk_region rfl ?_ | refine gk_cond_t rfl rfl ?_ | refine gk_cond_f rfl rfl ?_ | refine g_yd rfl rfl (yd_load_blk hT rfl rfl (by first | ((repeat (first | with_reducible exact List.mem_cons_self | with_reducible refine List.mem_cons_of_mem _ ?_)); done) | (repeat (first | exact List.Mem.head _ | apply List.Mem.tail))) rfl rfl) ?_ | refine g_yd rfl rfl (yd_load_row hT rfl rfl (by first | ((repeat (first | with_reducible exact List.mem_cons_self | with_reducible refine List.mem_cons_of_mem _ ?_)); done) | (repeat (first | exact List.Mem.head _ | apply List.Mem.tail))) rfl rfl) ?_ | refine g_yd rfl rfl (yd_load_row0 hT rfl rfl (by first | ((repeat (first | with_reducible exact List.mem_cons_self | with_reducible refine List.mem_cons_of_mem _ ?_)); done) | (repeat (first | exact List.Mem.head _ | apply List.Mem.tail))) rfl rfl) ?_ | refine g_yd rfl rfl (yd_eql rfl rfl rfl rfl rfl (by kernel_rfl)) ?_ | refine g_yd rfl rfl (yd_neq rfl rfl rfl rfl rfl (by kernel_rfl)) ?_ | refine g_yd rfl rfl (yd_index hT rfl rfl rfl (by first | exact trivial | omega | (simp only [inR]; omega)) rfl) ?_ | (refine g_mv rfl ?_; first | (refine mv_box rfl rfl rfl rfl ?_; intro _) | (refine mv_alloc rfl hT rfl rfl ?_; intro _) | refine mv_store hT rfl rfl rfl rfl rfl rfl (by first | ((repeat (first | ((with_reducible refine StO.here ?_); rfl) | with_reducible apply StO.there)); done) | (repeat (first | exact StO.here rfl | apply StO.there))) rfl ?_ | (refine mv_buildSlice rfl hT rfl rfl rfl rfl rfl rfl rfl rfl ?_; intro _))) | (refine g_mv rfl ?_; first | refine mv_call_bel (fun w hk => r2 w) rfl rfl rfl rfl rfl (by kernel_rfl) ?_) | ((first | refine g_split rfl rfl (by first | exact tells_tB _ | exact tells_not (tells_tB _)) (fun _ => ?_) (fun _ => ?_) | refine gk_cond rfl rfl (by first | exact tells_tB _ | exact tells_not (tells_tB _)) (fun _ => ?_) (fun _ => ?_)) <;> (try first | (exfalso; omega; done) | (rename_i hx; exact absurd rfl hx) | (rename_i hx; cases hx; done))))
    all_goals (refine gk_ret hT rfl rfl (.tmp rfl .nil) (fun w' hk => ?_); exact ⟨rfl, hk.toBelow⟩)
end Go.Proofs.Ytkdphoacniigjaa.Super
