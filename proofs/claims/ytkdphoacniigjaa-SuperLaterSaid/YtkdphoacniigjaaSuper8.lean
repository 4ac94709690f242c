/- alive; the laws of superblocks. -/
import Derived.Test.YtkdphoacniigjaaSuper7
namespace Go.Proofs.Ytkdphoacniigjaa.Super
open Go.RowKit Mem Bytes Fix Reader Gx
set_option linter.unusedVariables false
set_option linter.unusedSimpArgs false
set_option maxRecDepth 100000
set_option maxHeartbeats 2000000
def Z128 : List Int := List.replicate 128 0
def zS : Nat → Int := fun _ => 0
theorem supR_z : supR (Page.ofR 1 (Page.getS Z128)) = (zS, 21) := by
  have h : Page.getS Z128 = (0, [], 21) := Page.getS_bad (k := 0) (n := 0) (by decide) (by decide) (by decide) (.inl (by omega))
  rw [h]
  unfold Page.ofR
  rw [if_pos (by simp)]
  unfold supR
  rw [if_pos (by simp)]
  rfl
theorem pick_z : pickS (zS, 21) (zS, 21) = (zS, 60) := by
  unfold pickS
  rw [if_neg (by simp), if_neg (by simp)]
  rfl
theorem z_isB : IsB Z128 := IsB.replicate 128
theorem zpick (A A' : Option Addr) (w : World) (h : BS w A Z128) (h' : BS w A' Z128) :
    Calls Try.prog 36 [.slice A 128 128, .slice A' 128 128].toArray w fun e w' => e = .returned (.tuple #[SV zS, .int .i64 60]) ∧ Below w.heap.size w w' := by
  refine (spick_any A A' 128 128 128 128 Z128 Z128 w (by decide) (by omega) h z_isB (by omega) (by decide) (by omega) h' z_isB (by omega)).mono ?_
  intro e w' h1
  rw [supR_z, pick_z] at h1
  exact supRes_out _ _ h1
def S0 : Nat → Int := fun i => if i = 0 then 1 else if i = 7 then 30 else if i = 8 then 4 else 0
theorem bd0 : BdS S0 := by unfold BdS S0; simp
theorem right0 : RightS S0 := by unfold RightS RightP RingP S0; simp
theorem salive (w : World) : Calls Try.prog 38 [].toArray w fun e w' => e = .returned (.bool true) ∧ Below w.heap.size w w' := by
  refine g_enter0 T [] [] [] Try.func38 rfl Try.ntmps38 rfl (Kn.start _) ?_
  repeat (first | refine g_nil ?_ | refine g_pure true hT rfl rfl rfl (by first | exact trivial | omega | (simp only [inR]; omega)) ?_ | refine g_skip rfl rfl ?_ | refine g_skip0 rfl rfl ?_ | refine gk_region rfl ?_ | refine gk_cond_t rfl rfl ?_ | refine gk_cond_f rfl rfl ?_ | refine g_yd rfl rfl (yd_load_blk hT rfl rfl (by repeat (first | exact List.Mem.head _ | apply List.Mem.tail)) rfl rfl) ?_ | refine g_yd rfl rfl (yd_load_row hT rfl rfl (by repeat (first | exact List.Mem.head _ | apply List.Mem.tail)) rfl rfl) ?_ | refine g_yd rfl rfl (yd_load_row0 hT rfl rfl (by repeat (first | exact List.Mem.head _ | apply List.Mem.tail)) rfl rfl) ?_ | refine g_yd rfl rfl (yd_eql rfl rfl rfl rfl rfl (by kernel_rfl)) ?_ | refine g_yd rfl rfl (yd_neq rfl rfl rfl rfl rfl (by kernel_rfl)) ?_ | refine g_yd rfl rfl (yd_index hT rfl rfl rfl (by first | exact trivial | omega | (simp only [inR]; omega)) rfl) ?_ | (refine g_mv rfl ?_; first | (refine mv_box rfl rfl rfl rfl ?_; intro _) | (refine mv_alloc rfl hT rfl rfl ?_; intro _) | refine mv_store hT rfl rfl rfl rfl rfl rfl (by repeat (first | exact StO.here rfl | apply StO.there)) rfl ?_ | (refine mv_buildSlice rfl hT rfl rfl rfl rfl rfl rfl rfl rfl ?_; intro _)))
  refine gk_any [] (Cut _ (fun _ : Unit => [(0, .bool false), (2, .int .i64 60)]) (fun _ => []) (fun _ => [])) rfl rfl (by kernel_rfl) ?_ (cut_k fun _ => ?_)
  · skip
    refine gb_all (by decide +kernel) ?_
    refine gball_yes rfl rfl ?_ ?_
    · (refine mv_make rfl hT 128 1 rfl rfl rfl rfl rfl rfl rfl (by kernel_rfl) (by omega) (by omega) rfl rfl ?_; intro _)
      refine ⟨(by repeat (first | exact subF_nil | refine subF_cons (by first | exact .inl (by repeat (first | exact List.Mem.head _ | apply List.Mem.tail)) | exact .inr (by repeat (first | exact List.Mem.head _ | apply List.Mem.tail))) ?_)), ?_⟩
      refine gb_all (by decide +kernel) ?_
      refine gball_not (by decide +kernel) ?_
      refine gball_yes rfl rfl ?_ ?_
      · (refine mv_make rfl hT 128 1 rfl rfl rfl rfl rfl rfl rfl (by kernel_rfl) (by omega) (by omega) rfl rfl ?_; intro _)
        refine ⟨(by repeat (first | exact subF_nil | refine subF_cons (by first | exact .inl (by repeat (first | exact List.Mem.head _ | apply List.Mem.tail)) | exact .inr (by repeat (first | exact List.Mem.head _ | apply List.Mem.tail))) ?_)), ?_⟩
        refine gb_all (by decide +kernel) ?_
        refine gball_not (by decide +kernel) ?_
        refine gball_not (by decide +kernel) ?_
        refine gball_yes rfl rfl ?_ ?_
        · refine mv_call_bel (fun w hk => zpick _ _ w ((src_blk (by repeat (first | exact List.Mem.head _ | apply List.Mem.tail)) (by kernel_rfl)) w hk) ((src_blk (by repeat (first | exact List.Mem.head _ | apply List.Mem.tail)) (by kernel_rfl)) w hk)) rfl rfl rfl rfl rfl (by kernel_rfl) ?_
          refine ⟨(by repeat (first | exact subF_nil | refine subF_cons (by first | exact .inl (by repeat (first | exact List.Mem.head _ | apply List.Mem.tail)) | exact .inr (by repeat (first | exact List.Mem.head _ | apply List.Mem.tail))) ?_)), ?_⟩
          refine gb_take 3 rfl (by decide +kernel) rfl rfl (ys_ev (nw := true) hT rfl (by first | exact trivial | omega | (simp only [inR]; omega))) (by repeat (first | exact subF_nil | refine subF_cons (by first | exact .inl (by repeat (first | exact List.Mem.head _ | apply List.Mem.tail)) | exact .inr (by repeat (first | exact List.Mem.head _ | apply List.Mem.tail))) ?_)) ?_
          refine gb_take 4 rfl (by decide +kernel) rfl rfl (ys_ev (nw := true) hT rfl (by first | exact trivial | omega | (simp only [inR]; omega))) (by repeat (first | exact subF_nil | refine subF_cons (by first | exact .inl (by repeat (first | exact List.Mem.head _ | apply List.Mem.tail)) | exact .inr (by repeat (first | exact List.Mem.head _ | apply List.Mem.tail))) ?_)) ?_
          refine gb_take 5 rfl (by decide +kernel) rfl rfl (ys_ev (nw := true) hT rfl (by first | exact trivial | omega | (simp only [inR]; omega))) (by repeat (first | exact subF_nil | refine subF_cons (by first | exact .inl (by repeat (first | exact List.Mem.head _ | apply List.Mem.tail)) | exact .inr (by repeat (first | exact List.Mem.head _ | apply List.Mem.tail))) ?_)) ?_
          refine gb_all (by decide +kernel) ?_
          refine gball_not (by decide +kernel) ?_
          refine gball_not (by decide +kernel) ?_
          refine gball_not (by decide +kernel) ?_
          refine gball_not (by decide +kernel) ?_
          refine gball_not (by decide +kernel) ?_
          refine gball_not (by decide +kernel) ?_
          refine gball_yes rfl rfl ?_ ?_
          · first | (refine mv_box rfl rfl rfl rfl ?_; intro _) | (refine mv_alloc rfl hT rfl rfl ?_; intro _) | refine mv_store hT rfl rfl rfl rfl rfl rfl (by repeat (first | exact StO.here rfl | apply StO.there)) rfl ?_ | (refine mv_buildSlice rfl hT rfl rfl rfl rfl rfl rfl rfl rfl ?_; intro _)
            refine ⟨(by repeat (first | exact subF_nil | refine subF_cons (by first | exact .inl (by repeat (first | exact List.Mem.head _ | apply List.Mem.tail)) | exact .inr (by repeat (first | exact List.Mem.head _ | apply List.Mem.tail))) ?_)), ?_⟩
            refine gb_all (by decide +kernel) ?_
            refine gball_not (by decide +kernel) ?_
            refine gball_not (by decide +kernel) ?_
            refine gball_not (by decide +kernel) ?_
            refine gball_not (by decide +kernel) ?_
            refine gball_not (by decide +kernel) ?_
            refine gball_not (by decide +kernel) ?_
            refine gball_not (by decide +kernel) ?_
            refine gball_yes rfl rfl ?_ ?_
            · first | (refine mv_box rfl rfl rfl rfl ?_; intro _) | (refine mv_alloc rfl hT rfl rfl ?_; intro _) | refine mv_store hT rfl rfl rfl rfl rfl rfl (by repeat (first | exact StO.here rfl | apply StO.there)) rfl ?_ | (refine mv_buildSlice rfl hT rfl rfl rfl rfl rfl rfl rfl rfl ?_; intro _)
              refine ⟨(by repeat (first | exact subF_nil | refine subF_cons (by first | exact .inl (by repeat (first | exact List.Mem.head _ | apply List.Mem.tail)) | exact .inr (by repeat (first | exact List.Mem.head _ | apply List.Mem.tail))) ?_)), ?_⟩
              refine gb_take 8 rfl (by decide +kernel) rfl rfl (ys_ev (nw := true) hT rfl (by first | exact trivial | omega | (simp only [inR]; omega))) (by repeat (first | exact subF_nil | refine subF_cons (by first | exact .inl (by repeat (first | exact List.Mem.head _ | apply List.Mem.tail)) | exact .inr (by repeat (first | exact List.Mem.head _ | apply List.Mem.tail))) ?_)) ?_
              refine gb_nil (by decide +kernel) ?_
              exact ⟨(), ⟨rfl, rfl, trivial⟩, .nil, List.nil_subset _⟩
            refine gball_not (by decide +kernel) ?_
            exact gball_end (by decide +kernel)
          refine gball_not (by decide +kernel) ?_
          refine gball_not (by decide +kernel) ?_
          exact gball_end (by decide +kernel)
        refine gball_not (by decide +kernel) ?_
        refine gball_not (by decide +kernel) ?_
        refine gball_not (by decide +kernel) ?_
        refine gball_yes rfl rfl ?_ ?_
        · first | (refine mv_box rfl rfl rfl rfl ?_; intro _) | (refine mv_alloc rfl hT rfl rfl ?_; intro _) | refine mv_store hT rfl rfl rfl rfl rfl rfl (by repeat (first | exact StO.here rfl | apply StO.there)) rfl ?_ | (refine mv_buildSlice rfl hT rfl rfl rfl rfl rfl rfl rfl rfl ?_; intro _)
          refine ⟨(by repeat (first | exact subF_nil | refine subF_cons (by first | exact .inl (by repeat (first | exact List.Mem.head _ | apply List.Mem.tail)) | exact .inr (by repeat (first | exact List.Mem.head _ | apply List.Mem.tail))) ?_)), ?_⟩
          refine gb_all (by decide +kernel) ?_
          refine gball_not (by decide +kernel) ?_
          refine gball_not (by decide +kernel) ?_
          refine gball_yes rfl rfl ?_ ?_
          · refine mv_call_bel (fun w hk => zpick _ _ w ((src_blk (by repeat (first | exact List.Mem.head _ | apply List.Mem.tail)) (by kernel_rfl)) w hk) ((src_blk (by repeat (first | exact List.Mem.head _ | apply List.Mem.tail)) (by kernel_rfl)) w hk)) rfl rfl rfl rfl rfl (by kernel_rfl) ?_
            refine ⟨(by repeat (first | exact subF_nil | refine subF_cons (by first | exact .inl (by repeat (first | exact List.Mem.head _ | apply List.Mem.tail)) | exact .inr (by repeat (first | exact List.Mem.head _ | apply List.Mem.tail))) ?_)), ?_⟩
            refine gb_take 3 rfl (by decide +kernel) rfl rfl (ys_ev (nw := true) hT rfl (by first | exact trivial | omega | (simp only [inR]; omega))) (by repeat (first | exact subF_nil | refine subF_cons (by first | exact .inl (by repeat (first | exact List.Mem.head _ | apply List.Mem.tail)) | exact .inr (by repeat (first | exact List.Mem.head _ | apply List.Mem.tail))) ?_)) ?_
            refine gb_take 4 rfl (by decide +kernel) rfl rfl (ys_ev (nw := true) hT rfl (by first | exact trivial | omega | (simp only [inR]; omega))) (by repeat (first | exact subF_nil | refine subF_cons (by first | exact .inl (by repeat (first | exact List.Mem.head _ | apply List.Mem.tail)) | exact .inr (by repeat (first | exact List.Mem.head _ | apply List.Mem.tail))) ?_)) ?_
            refine gb_take 5 rfl (by decide +kernel) rfl rfl (ys_ev (nw := true) hT rfl (by first | exact trivial | omega | (simp only [inR]; omega))) (by repeat (first | exact subF_nil | refine subF_cons (by first | exact .inl (by repeat (first | exact List.Mem.head _ | apply List.Mem.tail)) | exact .inr (by repeat (first | exact List.Mem.head _ | apply List.Mem.tail))) ?_)) ?_
            refine gb_all (by decide +kernel) ?_
            refine gball_not (by decide +kernel) ?_
            refine gball_not (by decide +kernel) ?_
            refine gball_not (by decide +kernel) ?_
            refine gball_not (by decide +kernel) ?_
            refine gball_not (by decide +kernel) ?_
            refine gball_not (by decide +kernel) ?_
            refine gball_not (by decide +kernel) ?_
            refine gball_yes rfl rfl ?_ ?_
            · first | (refine mv_box rfl rfl rfl rfl ?_; intro _) | (refine mv_alloc rfl hT rfl rfl ?_; intro _) | refine mv_store hT rfl rfl rfl rfl rfl rfl (by repeat (first | exact StO.here rfl | apply StO.there)) rfl ?_ | (refine mv_buildSlice rfl hT rfl rfl rfl rfl rfl rfl rfl rfl ?_; intro _)
              refine ⟨(by repeat (first | exact subF_nil | refine subF_cons (by first | exact .inl (by repeat (first | exact List.Mem.head _ | apply List.Mem.tail)) | exact .inr (by repeat (first | exact List.Mem.head _ | apply List.Mem.tail))) ?_)), ?_⟩
              refine gb_take 8 rfl (by decide +kernel) rfl rfl (ys_ev (nw := true) hT rfl (by first | exact trivial | omega | (simp only [inR]; omega))) (by repeat (first | exact subF_nil | refine subF_cons (by first | exact .inl (by repeat (first | exact List.Mem.head _ | apply List.Mem.tail)) | exact .inr (by repeat (first | exact List.Mem.head _ | apply List.Mem.tail))) ?_)) ?_
              refine gb_nil (by decide +kernel) ?_
              exact ⟨(), ⟨rfl, rfl, trivial⟩, .nil, List.nil_subset _⟩
            refine gball_not (by decide +kernel) ?_
            exact gball_end (by decide +kernel)
          refine gball_not (by decide +kernel) ?_
          refine gball_not (by decide +kernel) ?_
          refine gball_not (by decide +kernel) ?_
          refine gball_not (by decide +kernel) ?_
          refine gball_not (by decide +kernel) ?_
          refine gball_not (by decide +kernel) ?_
          exact gball_end (by decide +kernel)
        refine gball_not (by decide +kernel) ?_
        refine gball_not (by decide +kernel) ?_
        exact gball_end (by decide +kernel)
      refine gball_not (by decide +kernel) ?_
      refine gball_not (by decide +kernel) ?_
      refine gball_not (by decide +kernel) ?_
      refine gball_not (by decide +kernel) ?_
      refine gball_yes rfl rfl ?_ ?_
      · first | (refine mv_box rfl rfl rfl rfl ?_; intro _) | (refine mv_alloc rfl hT rfl rfl ?_; intro _) | refine mv_store hT rfl rfl rfl rfl rfl rfl (by repeat (first | exact StO.here rfl | apply StO.there)) rfl ?_ | (refine mv_buildSlice rfl hT rfl rfl rfl rfl rfl rfl rfl rfl ?_; intro _)
        refine ⟨(by repeat (first | exact subF_nil | refine subF_cons (by first | exact .inl (by repeat (first | exact List.Mem.head _ | apply List.Mem.tail)) | exact .inr (by repeat (first | exact List.Mem.head _ | apply List.Mem.tail))) ?_)), ?_⟩
        refine gb_all (by decide +kernel) ?_
        refine gball_not (by decide +kernel) ?_
        refine gball_yes rfl rfl ?_ ?_
        · (refine mv_make rfl hT 128 1 rfl rfl rfl rfl rfl rfl rfl (by kernel_rfl) (by omega) (by omega) rfl rfl ?_; intro _)
          refine ⟨(by repeat (first | exact subF_nil | refine subF_cons (by first | exact .inl (by repeat (first | exact List.Mem.head _ | apply List.Mem.tail)) | exact .inr (by repeat (first | exact List.Mem.head _ | apply List.Mem.tail))) ?_)), ?_⟩
          refine gb_all (by decide +kernel) ?_
          refine gball_not (by decide +kernel) ?_
          refine gball_not (by decide +kernel) ?_
          refine gball_yes rfl rfl ?_ ?_
          · refine mv_call_bel (fun w hk => zpick _ _ w ((src_blk (by repeat (first | exact List.Mem.head _ | apply List.Mem.tail)) (by kernel_rfl)) w hk) ((src_blk (by repeat (first | exact List.Mem.head _ | apply List.Mem.tail)) (by kernel_rfl)) w hk)) rfl rfl rfl rfl rfl (by kernel_rfl) ?_
            refine ⟨(by repeat (first | exact subF_nil | refine subF_cons (by first | exact .inl (by repeat (first | exact List.Mem.head _ | apply List.Mem.tail)) | exact .inr (by repeat (first | exact List.Mem.head _ | apply List.Mem.tail))) ?_)), ?_⟩
            refine gb_take 3 rfl (by decide +kernel) rfl rfl (ys_ev (nw := true) hT rfl (by first | exact trivial | omega | (simp only [inR]; omega))) (by repeat (first | exact subF_nil | refine subF_cons (by first | exact .inl (by repeat (first | exact List.Mem.head _ | apply List.Mem.tail)) | exact .inr (by repeat (first | exact List.Mem.head _ | apply List.Mem.tail))) ?_)) ?_
            refine gb_take 4 rfl (by decide +kernel) rfl rfl (ys_ev (nw := true) hT rfl (by first | exact trivial | omega | (simp only [inR]; omega))) (by repeat (first | exact subF_nil | refine subF_cons (by first | exact .inl (by repeat (first | exact List.Mem.head _ | apply List.Mem.tail)) | exact .inr (by repeat (first | exact List.Mem.head _ | apply List.Mem.tail))) ?_)) ?_
            refine gb_take 5 rfl (by decide +kernel) rfl rfl (ys_ev (nw := true) hT rfl (by first | exact trivial | omega | (simp only [inR]; omega))) (by repeat (first | exact subF_nil | refine subF_cons (by first | exact .inl (by repeat (first | exact List.Mem.head _ | apply List.Mem.tail)) | exact .inr (by repeat (first | exact List.Mem.head _ | apply List.Mem.tail))) ?_)) ?_
            refine gb_all (by decide +kernel) ?_
            refine gball_not (by decide +kernel) ?_
            refine gball_not (by decide +kernel) ?_
            refine gball_not (by decide +kernel) ?_
            refine gball_not (by decide +kernel) ?_
            refine gball_not (by decide +kernel) ?_
            refine gball_not (by decide +kernel) ?_
            refine gball_not (by decide +kernel) ?_
            refine gball_yes rfl rfl ?_ ?_
            · first | (refine mv_box rfl rfl rfl rfl ?_; intro _) | (refine mv_alloc rfl hT rfl rfl ?_; intro _) | refine mv_store hT rfl rfl rfl rfl rfl rfl (by repeat (first | exact StO.here rfl | apply StO.there)) rfl ?_ | (refine mv_buildSlice rfl hT rfl rfl rfl rfl rfl rfl rfl rfl ?_; intro _)
              refine ⟨(by repeat (first | exact subF_nil | refine subF_cons (by first | exact .inl (by repeat (first | exact List.Mem.head _ | apply List.Mem.tail)) | exact .inr (by repeat (first | exact List.Mem.head _ | apply List.Mem.tail))) ?_)), ?_⟩
              refine gb_take 8 rfl (by decide +kernel) rfl rfl (ys_ev (nw := true) hT rfl (by first | exact trivial | omega | (simp only [inR]; omega))) (by repeat (first | exact subF_nil | refine subF_cons (by first | exact .inl (by repeat (first | exact List.Mem.head _ | apply List.Mem.tail)) | exact .inr (by repeat (first | exact List.Mem.head _ | apply List.Mem.tail))) ?_)) ?_
              refine gb_nil (by decide +kernel) ?_
              exact ⟨(), ⟨rfl, rfl, trivial⟩, .nil, List.nil_subset _⟩
            refine gball_not (by decide +kernel) ?_
            exact gball_end (by decide +kernel)
          refine gball_not (by decide +kernel) ?_
          refine gball_not (by decide +kernel) ?_
          refine gball_not (by decide +kernel) ?_
          refine gball_not (by decide +kernel) ?_
          refine gball_not (by decide +kernel) ?_
          refine gball_not (by decide +kernel) ?_
          exact gball_end (by decide +kernel)
        refine gball_not (by decide +kernel) ?_
        refine gball_not (by decide +kernel) ?_
        refine gball_not (by decide +kernel) ?_
        refine gball_not (by decide +kernel) ?_
        refine gball_not (by decide +kernel) ?_
        refine gball_not (by decide +kernel) ?_
        refine gball_not (by decide +kernel) ?_
        exact gball_end (by decide +kernel)
      refine gball_not (by decide +kernel) ?_
      refine gball_not (by decide +kernel) ?_
      exact gball_end (by decide +kernel)
    refine gball_yes rfl rfl ?_ ?_
    · (refine mv_make rfl hT 128 1 rfl rfl rfl rfl rfl rfl rfl (by kernel_rfl) (by omega) (by omega) rfl rfl ?_; intro _)
      refine ⟨(by repeat (first | exact subF_nil | refine subF_cons (by first | exact .inl (by repeat (first | exact List.Mem.head _ | apply List.Mem.tail)) | exact .inr (by repeat (first | exact List.Mem.head _ | apply List.Mem.tail))) ?_)), ?_⟩
      refine gb_all (by decide +kernel) ?_
      refine gball_yes rfl rfl ?_ ?_
      · (refine mv_make rfl hT 128 1 rfl rfl rfl rfl rfl rfl rfl (by kernel_rfl) (by omega) (by omega) rfl rfl ?_; intro _)
        refine ⟨(by repeat (first | exact subF_nil | refine subF_cons (by first | exact .inl (by repeat (first | exact List.Mem.head _ | apply List.Mem.tail)) | exact .inr (by repeat (first | exact List.Mem.head _ | apply List.Mem.tail))) ?_)), ?_⟩
        refine gb_all (by decide +kernel) ?_
        refine gball_not (by decide +kernel) ?_
        refine gball_not (by decide +kernel) ?_
        refine gball_yes rfl rfl ?_ ?_
        · refine mv_call_bel (fun w hk => zpick _ _ w ((src_blk (by repeat (first | exact List.Mem.head _ | apply List.Mem.tail)) (by kernel_rfl)) w hk) ((src_blk (by repeat (first | exact List.Mem.head _ | apply List.Mem.tail)) (by kernel_rfl)) w hk)) rfl rfl rfl rfl rfl (by kernel_rfl) ?_
          refine ⟨(by repeat (first | exact subF_nil | refine subF_cons (by first | exact .inl (by repeat (first | exact List.Mem.head _ | apply List.Mem.tail)) | exact .inr (by repeat (first | exact List.Mem.head _ | apply List.Mem.tail))) ?_)), ?_⟩
          refine gb_take 3 rfl (by decide +kernel) rfl rfl (ys_ev (nw := true) hT rfl (by first | exact trivial | omega | (simp only [inR]; omega))) (by repeat (first | exact subF_nil | refine subF_cons (by first | exact .inl (by repeat (first | exact List.Mem.head _ | apply List.Mem.tail)) | exact .inr (by repeat (first | exact List.Mem.head _ | apply List.Mem.tail))) ?_)) ?_
          refine gb_take 4 rfl (by decide +kernel) rfl rfl (ys_ev (nw := true) hT rfl (by first | exact trivial | omega | (simp only [inR]; omega))) (by repeat (first | exact subF_nil | refine subF_cons (by first | exact .inl (by repeat (first | exact List.Mem.head _ | apply List.Mem.tail)) | exact .inr (by repeat (first | exact List.Mem.head _ | apply List.Mem.tail))) ?_)) ?_
          refine gb_take 5 rfl (by decide +kernel) rfl rfl (ys_ev (nw := true) hT rfl (by first | exact trivial | omega | (simp only [inR]; omega))) (by repeat (first | exact subF_nil | refine subF_cons (by first | exact .inl (by repeat (first | exact List.Mem.head _ | apply List.Mem.tail)) | exact .inr (by repeat (first | exact List.Mem.head _ | apply List.Mem.tail))) ?_)) ?_
          refine gb_all (by decide +kernel) ?_
          refine gball_not (by decide +kernel) ?_
          refine gball_not (by decide +kernel) ?_
          refine gball_not (by decide +kernel) ?_
          refine gball_not (by decide +kernel) ?_
          refine gball_not (by decide +kernel) ?_
          refine gball_not (by decide +kernel) ?_
          refine gball_yes rfl rfl ?_ ?_
          · first | (refine mv_box rfl rfl rfl rfl ?_; intro _) | (refine mv_alloc rfl hT rfl rfl ?_; intro _) | refine mv_store hT rfl rfl rfl rfl rfl rfl (by repeat (first | exact StO.here rfl | apply StO.there)) rfl ?_ | (refine mv_buildSlice rfl hT rfl rfl rfl rfl rfl rfl rfl rfl ?_; intro _)
            refine ⟨(by repeat (first | exact subF_nil | refine subF_cons (by first | exact .inl (by repeat (first | exact List.Mem.head _ | apply List.Mem.tail)) | exact .inr (by repeat (first | exact List.Mem.head _ | apply List.Mem.tail))) ?_)), ?_⟩
            refine gb_all (by decide +kernel) ?_
            refine gball_not (by decide +kernel) ?_
            refine gball_not (by decide +kernel) ?_
            refine gball_not (by decide +kernel) ?_
            refine gball_not (by decide +kernel) ?_
            refine gball_not (by decide +kernel) ?_
            refine gball_not (by decide +kernel) ?_
            refine gball_not (by decide +kernel) ?_
            refine gball_yes rfl rfl ?_ ?_
            · first | (refine mv_box rfl rfl rfl rfl ?_; intro _) | (refine mv_alloc rfl hT rfl rfl ?_; intro _) | refine mv_store hT rfl rfl rfl rfl rfl rfl (by repeat (first | exact StO.here rfl | apply StO.there)) rfl ?_ | (refine mv_buildSlice rfl hT rfl rfl rfl rfl rfl rfl rfl rfl ?_; intro _)
              refine ⟨(by repeat (first | exact subF_nil | refine subF_cons (by first | exact .inl (by repeat (first | exact List.Mem.head _ | apply List.Mem.tail)) | exact .inr (by repeat (first | exact List.Mem.head _ | apply List.Mem.tail))) ?_)), ?_⟩
              refine gb_take 8 rfl (by decide +kernel) rfl rfl (ys_ev (nw := true) hT rfl (by first | exact trivial | omega | (simp only [inR]; omega))) (by repeat (first | exact subF_nil | refine subF_cons (by first | exact .inl (by repeat (first | exact List.Mem.head _ | apply List.Mem.tail)) | exact .inr (by repeat (first | exact List.Mem.head _ | apply List.Mem.tail))) ?_)) ?_
              refine gb_nil (by decide +kernel) ?_
              exact ⟨(), ⟨rfl, rfl, trivial⟩, .nil, List.nil_subset _⟩
            refine gball_not (by decide +kernel) ?_
            exact gball_end (by decide +kernel)
          refine gball_not (by decide +kernel) ?_
          refine gball_not (by decide +kernel) ?_
          exact gball_end (by decide +kernel)
        refine gball_not (by decide +kernel) ?_
        refine gball_not (by decide +kernel) ?_
        refine gball_not (by decide +kernel) ?_
        refine gball_yes rfl rfl ?_ ?_
        · first | (refine mv_box rfl rfl rfl rfl ?_; intro _) | (refine mv_alloc rfl hT rfl rfl ?_; intro _) | refine mv_store hT rfl rfl rfl rfl rfl rfl (by repeat (first | exact StO.here rfl | apply StO.there)) rfl ?_ | (refine mv_buildSlice rfl hT rfl rfl rfl rfl rfl rfl rfl rfl ?_; intro _)
          refine ⟨(by repeat (first | exact subF_nil | refine subF_cons (by first | exact .inl (by repeat (first | exact List.Mem.head _ | apply List.Mem.tail)) | exact .inr (by repeat (first | exact List.Mem.head _ | apply List.Mem.tail))) ?_)), ?_⟩
          refine gb_all (by decide +kernel) ?_
          refine gball_not (by decide +kernel) ?_
          refine gball_not (by decide +kernel) ?_
          refine gball_yes rfl rfl ?_ ?_
          · refine mv_call_bel (fun w hk => zpick _ _ w ((src_blk (by repeat (first | exact List.Mem.head _ | apply List.Mem.tail)) (by kernel_rfl)) w hk) ((src_blk (by repeat (first | exact List.Mem.head _ | apply List.Mem.tail)) (by kernel_rfl)) w hk)) rfl rfl rfl rfl rfl (by kernel_rfl) ?_
            refine ⟨(by repeat (first | exact subF_nil | refine subF_cons (by first | exact .inl (by repeat (first | exact List.Mem.head _ | apply List.Mem.tail)) | exact .inr (by repeat (first | exact List.Mem.head _ | apply List.Mem.tail))) ?_)), ?_⟩
            refine gb_take 3 rfl (by decide +kernel) rfl rfl (ys_ev (nw := true) hT rfl (by first | exact trivial | omega | (simp only [inR]; omega))) (by repeat (first | exact subF_nil | refine subF_cons (by first | exact .inl (by repeat (first | exact List.Mem.head _ | apply List.Mem.tail)) | exact .inr (by repeat (first | exact List.Mem.head _ | apply List.Mem.tail))) ?_)) ?_
            refine gb_take 4 rfl (by decide +kernel) rfl rfl (ys_ev (nw := true) hT rfl (by first | exact trivial | omega | (simp only [inR]; omega))) (by repeat (first | exact subF_nil | refine subF_cons (by first | exact .inl (by repeat (first | exact List.Mem.head _ | apply List.Mem.tail)) | exact .inr (by repeat (first | exact List.Mem.head _ | apply List.Mem.tail))) ?_)) ?_
            refine gb_take 5 rfl (by decide +kernel) rfl rfl (ys_ev (nw := true) hT rfl (by first | exact trivial | omega | (simp only [inR]; omega))) (by repeat (first | exact subF_nil | refine subF_cons (by first | exact .inl (by repeat (first | exact List.Mem.head _ | apply List.Mem.tail)) | exact .inr (by repeat (first | exact List.Mem.head _ | apply List.Mem.tail))) ?_)) ?_
            refine gb_all (by decide +kernel) ?_
            refine gball_not (by decide +kernel) ?_
            refine gball_not (by decide +kernel) ?_
            refine gball_not (by decide +kernel) ?_
            refine gball_not (by decide +kernel) ?_
            refine gball_not (by decide +kernel) ?_
            refine gball_not (by decide +kernel) ?_
            refine gball_not (by decide +kernel) ?_
            refine gball_yes rfl rfl ?_ ?_
            · first | (refine mv_box rfl rfl rfl rfl ?_; intro _) | (refine mv_alloc rfl hT rfl rfl ?_; intro _) | refine mv_store hT rfl rfl rfl rfl rfl rfl (by repeat (first | exact StO.here rfl | apply StO.there)) rfl ?_ | (refine mv_buildSlice rfl hT rfl rfl rfl rfl rfl rfl rfl rfl ?_; intro _)
              refine ⟨(by repeat (first | exact subF_nil | refine subF_cons (by first | exact .inl (by repeat (first | exact List.Mem.head _ | apply List.Mem.tail)) | exact .inr (by repeat (first | exact List.Mem.head _ | apply List.Mem.tail))) ?_)), ?_⟩
              refine gb_take 8 rfl (by decide +kernel) rfl rfl (ys_ev (nw := true) hT rfl (by first | exact trivial | omega | (simp only [inR]; omega))) (by repeat (first | exact subF_nil | refine subF_cons (by first | exact .inl (by repeat (first | exact List.Mem.head _ | apply List.Mem.tail)) | exact .inr (by repeat (first | exact List.Mem.head _ | apply List.Mem.tail))) ?_)) ?_
              refine gb_nil (by decide +kernel) ?_
              exact ⟨(), ⟨rfl, rfl, trivial⟩, .nil, List.nil_subset _⟩
            refine gball_not (by decide +kernel) ?_
            exact gball_end (by decide +kernel)
          refine gball_not (by decide +kernel) ?_
          refine gball_not (by decide +kernel) ?_
          refine gball_not (by decide +kernel) ?_
          refine gball_not (by decide +kernel) ?_
          refine gball_not (by decide +kernel) ?_
          refine gball_not (by decide +kernel) ?_
          exact gball_end (by decide +kernel)
        refine gball_not (by decide +kernel) ?_
        refine gball_not (by decide +kernel) ?_
        exact gball_end (by decide +kernel)
      refine gball_not (by decide +kernel) ?_
      refine gball_not (by decide +kernel) ?_
      refine gball_not (by decide +kernel) ?_
      refine gball_not (by decide +kernel) ?_
      refine gball_not (by decide +kernel) ?_
      refine gball_yes rfl rfl ?_ ?_
      · first | (refine mv_box rfl rfl rfl rfl ?_; intro _) | (refine mv_alloc rfl hT rfl rfl ?_; intro _) | refine mv_store hT rfl rfl rfl rfl rfl rfl (by repeat (first | exact StO.here rfl | apply StO.there)) rfl ?_ | (refine mv_buildSlice rfl hT rfl rfl rfl rfl rfl rfl rfl rfl ?_; intro _)
        refine ⟨(by repeat (first | exact subF_nil | refine subF_cons (by first | exact .inl (by repeat (first | exact List.Mem.head _ | apply List.Mem.tail)) | exact .inr (by repeat (first | exact List.Mem.head _ | apply List.Mem.tail))) ?_)), ?_⟩
        refine gb_all (by decide +kernel) ?_
        refine gball_yes rfl rfl ?_ ?_
        · (refine mv_make rfl hT 128 1 rfl rfl rfl rfl rfl rfl rfl (by kernel_rfl) (by omega) (by omega) rfl rfl ?_; intro _)
          refine ⟨(by repeat (first | exact subF_nil | refine subF_cons (by first | exact .inl (by repeat (first | exact List.Mem.head _ | apply List.Mem.tail)) | exact .inr (by repeat (first | exact List.Mem.head _ | apply List.Mem.tail))) ?_)), ?_⟩
          refine gb_all (by decide +kernel) ?_
          refine gball_not (by decide +kernel) ?_
          refine gball_not (by decide +kernel) ?_
          refine gball_yes rfl rfl ?_ ?_
          · refine mv_call_bel (fun w hk => zpick _ _ w ((src_blk (by repeat (first | exact List.Mem.head _ | apply List.Mem.tail)) (by kernel_rfl)) w hk) ((src_blk (by repeat (first | exact List.Mem.head _ | apply List.Mem.tail)) (by kernel_rfl)) w hk)) rfl rfl rfl rfl rfl (by kernel_rfl) ?_
            refine ⟨(by repeat (first | exact subF_nil | refine subF_cons (by first | exact .inl (by repeat (first | exact List.Mem.head _ | apply List.Mem.tail)) | exact .inr (by repeat (first | exact List.Mem.head _ | apply List.Mem.tail))) ?_)), ?_⟩
            refine gb_take 3 rfl (by decide +kernel) rfl rfl (ys_ev (nw := true) hT rfl (by first | exact trivial | omega | (simp only [inR]; omega))) (by repeat (first | exact subF_nil | refine subF_cons (by first | exact .inl (by repeat (first | exact List.Mem.head _ | apply List.Mem.tail)) | exact .inr (by repeat (first | exact List.Mem.head _ | apply List.Mem.tail))) ?_)) ?_
            refine gb_take 4 rfl (by decide +kernel) rfl rfl (ys_ev (nw := true) hT rfl (by first | exact trivial | omega | (simp only [inR]; omega))) (by repeat (first | exact subF_nil | refine subF_cons (by first | exact .inl (by repeat (first | exact List.Mem.head _ | apply List.Mem.tail)) | exact .inr (by repeat (first | exact List.Mem.head _ | apply List.Mem.tail))) ?_)) ?_
            refine gb_take 5 rfl (by decide +kernel) rfl rfl (ys_ev (nw := true) hT rfl (by first | exact trivial | omega | (simp only [inR]; omega))) (by repeat (first | exact subF_nil | refine subF_cons (by first | exact .inl (by repeat (first | exact List.Mem.head _ | apply List.Mem.tail)) | exact .inr (by repeat (first | exact List.Mem.head _ | apply List.Mem.tail))) ?_)) ?_
            refine gb_all (by decide +kernel) ?_
            refine gball_not (by decide +kernel) ?_
            refine gball_not (by decide +kernel) ?_
            refine gball_not (by decide +kernel) ?_
            refine gball_not (by decide +kernel) ?_
            refine gball_not (by decide +kernel) ?_
            refine gball_not (by decide +kernel) ?_
            refine gball_not (by decide +kernel) ?_
            refine gball_yes rfl rfl ?_ ?_
            · first | (refine mv_box rfl rfl rfl rfl ?_; intro _) | (refine mv_alloc rfl hT rfl rfl ?_; intro _) | refine mv_store hT rfl rfl rfl rfl rfl rfl (by repeat (first | exact StO.here rfl | apply StO.there)) rfl ?_ | (refine mv_buildSlice rfl hT rfl rfl rfl rfl rfl rfl rfl rfl ?_; intro _)
              refine ⟨(by repeat (first | exact subF_nil | refine subF_cons (by first | exact .inl (by repeat (first | exact List.Mem.head _ | apply List.Mem.tail)) | exact .inr (by repeat (first | exact List.Mem.head _ | apply List.Mem.tail))) ?_)), ?_⟩
              refine gb_take 8 rfl (by decide +kernel) rfl rfl (ys_ev (nw := true) hT rfl (by first | exact trivial | omega | (simp only [inR]; omega))) (by repeat (first | exact subF_nil | refine subF_cons (by first | exact .inl (by repeat (first | exact List.Mem.head _ | apply List.Mem.tail)) | exact .inr (by repeat (first | exact List.Mem.head _ | apply List.Mem.tail))) ?_)) ?_
              refine gb_nil (by decide +kernel) ?_
              exact ⟨(), ⟨rfl, rfl, trivial⟩, .nil, List.nil_subset _⟩
            refine gball_not (by decide +kernel) ?_
            exact gball_end (by decide +kernel)
          refine gball_not (by decide +kernel) ?_
          refine gball_not (by decide +kernel) ?_
          refine gball_not (by decide +kernel) ?_
          refine gball_not (by decide +kernel) ?_
          refine gball_not (by decide +kernel) ?_
          refine gball_not (by decide +kernel) ?_
          exact gball_end (by decide +kernel)
        refine gball_not (by decide +kernel) ?_
        refine gball_not (by decide +kernel) ?_
        refine gball_not (by decide +kernel) ?_
        refine gball_not (by decide +kernel) ?_
        refine gball_not (by decide +kernel) ?_
        refine gball_not (by decide +kernel) ?_
        refine gball_not (by decide +kernel) ?_
        refine gball_not (by decide +kernel) ?_
        exact gball_end (by decide +kernel)
      refine gball_not (by decide +kernel) ?_
      refine gball_not (by decide +kernel) ?_
      exact gball_end (by decide +kernel)
    refine gball_not (by decide +kernel) ?_
    refine gball_not (by decide +kernel) ?_
    refine gball_not (by decide +kernel) ?_
    refine gball_not (by decide +kernel) ?_
    refine gball_yes rfl rfl ?_ ?_
    · first | (refine mv_box rfl rfl rfl rfl ?_; intro _) | (refine mv_alloc rfl hT rfl rfl ?_; intro _) | refine mv_store hT rfl rfl rfl rfl rfl rfl (by repeat (first | exact StO.here rfl | apply StO.there)) rfl ?_ | (refine mv_buildSlice rfl hT rfl rfl rfl rfl rfl rfl rfl rfl ?_; intro _)
      refine ⟨(by repeat (first | exact subF_nil | refine subF_cons (by first | exact .inl (by repeat (first | exact List.Mem.head _ | apply List.Mem.tail)) | exact .inr (by repeat (first | exact List.Mem.head _ | apply List.Mem.tail))) ?_)), ?_⟩
      refine gb_all (by decide +kernel) ?_
      refine gball_yes rfl rfl ?_ ?_
      · (refine mv_make rfl hT 128 1 rfl rfl rfl rfl rfl rfl rfl (by kernel_rfl) (by omega) (by omega) rfl rfl ?_; intro _)
        refine ⟨(by repeat (first | exact subF_nil | refine subF_cons (by first | exact .inl (by repeat (first | exact List.Mem.head _ | apply List.Mem.tail)) | exact .inr (by repeat (first | exact List.Mem.head _ | apply List.Mem.tail))) ?_)), ?_⟩
        refine gb_all (by decide +kernel) ?_
        refine gball_not (by decide +kernel) ?_
        refine gball_yes rfl rfl ?_ ?_
        · (refine mv_make rfl hT 128 1 rfl rfl rfl rfl rfl rfl rfl (by kernel_rfl) (by omega) (by omega) rfl rfl ?_; intro _)
          refine ⟨(by repeat (first | exact subF_nil | refine subF_cons (by first | exact .inl (by repeat (first | exact List.Mem.head _ | apply List.Mem.tail)) | exact .inr (by repeat (first | exact List.Mem.head _ | apply List.Mem.tail))) ?_)), ?_⟩
          refine gb_all (by decide +kernel) ?_
          refine gball_not (by decide +kernel) ?_
          refine gball_not (by decide +kernel) ?_
          refine gball_yes rfl rfl ?_ ?_
          · refine mv_call_bel (fun w hk => zpick _ _ w ((src_blk (by repeat (first | exact List.Mem.head _ | apply List.Mem.tail)) (by kernel_rfl)) w hk) ((src_blk (by repeat (first | exact List.Mem.head _ | apply List.Mem.tail)) (by kernel_rfl)) w hk)) rfl rfl rfl rfl rfl (by kernel_rfl) ?_
            refine ⟨(by repeat (first | exact subF_nil | refine subF_cons (by first | exact .inl (by repeat (first | exact List.Mem.head _ | apply List.Mem.tail)) | exact .inr (by repeat (first | exact List.Mem.head _ | apply List.Mem.tail))) ?_)), ?_⟩
            refine gb_take 3 rfl (by decide +kernel) rfl rfl (ys_ev (nw := true) hT rfl (by first | exact trivial | omega | (simp only [inR]; omega))) (by repeat (first | exact subF_nil | refine subF_cons (by first | exact .inl (by repeat (first | exact List.Mem.head _ | apply List.Mem.tail)) | exact .inr (by repeat (first | exact List.Mem.head _ | apply List.Mem.tail))) ?_)) ?_
            refine gb_take 4 rfl (by decide +kernel) rfl rfl (ys_ev (nw := true) hT rfl (by first | exact trivial | omega | (simp only [inR]; omega))) (by repeat (first | exact subF_nil | refine subF_cons (by first | exact .inl (by repeat (first | exact List.Mem.head _ | apply List.Mem.tail)) | exact .inr (by repeat (first | exact List.Mem.head _ | apply List.Mem.tail))) ?_)) ?_
            refine gb_take 5 rfl (by decide +kernel) rfl rfl (ys_ev (nw := true) hT rfl (by first | exact trivial | omega | (simp only [inR]; omega))) (by repeat (first | exact subF_nil | refine subF_cons (by first | exact .inl (by repeat (first | exact List.Mem.head _ | apply List.Mem.tail)) | exact .inr (by repeat (first | exact List.Mem.head _ | apply List.Mem.tail))) ?_)) ?_
            refine gb_all (by decide +kernel) ?_
            refine gball_not (by decide +kernel) ?_
            refine gball_not (by decide +kernel) ?_
            refine gball_not (by decide +kernel) ?_
            refine gball_not (by decide +kernel) ?_
            refine gball_not (by decide +kernel) ?_
            refine gball_not (by decide +kernel) ?_
            refine gball_not (by decide +kernel) ?_
            refine gball_yes rfl rfl ?_ ?_
            · first | (refine mv_box rfl rfl rfl rfl ?_; intro _) | (refine mv_alloc rfl hT rfl rfl ?_; intro _) | refine mv_store hT rfl rfl rfl rfl rfl rfl (by repeat (first | exact StO.here rfl | apply StO.there)) rfl ?_ | (refine mv_buildSlice rfl hT rfl rfl rfl rfl rfl rfl rfl rfl ?_; intro _)
              refine ⟨(by repeat (first | exact subF_nil | refine subF_cons (by first | exact .inl (by repeat (first | exact List.Mem.head _ | apply List.Mem.tail)) | exact .inr (by repeat (first | exact List.Mem.head _ | apply List.Mem.tail))) ?_)), ?_⟩
              refine gb_take 8 rfl (by decide +kernel) rfl rfl (ys_ev (nw := true) hT rfl (by first | exact trivial | omega | (simp only [inR]; omega))) (by repeat (first | exact subF_nil | refine subF_cons (by first | exact .inl (by repeat (first | exact List.Mem.head _ | apply List.Mem.tail)) | exact .inr (by repeat (first | exact List.Mem.head _ | apply List.Mem.tail))) ?_)) ?_
              refine gb_nil (by decide +kernel) ?_
              exact ⟨(), ⟨rfl, rfl, trivial⟩, .nil, List.nil_subset _⟩
            refine gball_not (by decide +kernel) ?_
            exact gball_end (by decide +kernel)
          refine gball_not (by decide +kernel) ?_
          refine gball_not (by decide +kernel) ?_
          refine gball_not (by decide +kernel) ?_
          refine gball_not (by decide +kernel) ?_
          refine gball_not (by decide +kernel) ?_
          refine gball_not (by decide +kernel) ?_
          exact gball_end (by decide +kernel)
        refine gball_not (by decide +kernel) ?_
        refine gball_not (by decide +kernel) ?_
        refine gball_not (by decide +kernel) ?_
        refine gball_not (by decide +kernel) ?_
        refine gball_not (by decide +kernel) ?_
        refine gball_not (by decide +kernel) ?_
        refine gball_not (by decide +kernel) ?_
        exact gball_end (by decide +kernel)
      refine gball_yes rfl rfl ?_ ?_
      · (refine mv_make rfl hT 128 1 rfl rfl rfl rfl rfl rfl rfl (by kernel_rfl) (by omega) (by omega) rfl rfl ?_; intro _)
        refine ⟨(by repeat (first | exact subF_nil | refine subF_cons (by first | exact .inl (by repeat (first | exact List.Mem.head _ | apply List.Mem.tail)) | exact .inr (by repeat (first | exact List.Mem.head _ | apply List.Mem.tail))) ?_)), ?_⟩
        refine gb_all (by decide +kernel) ?_
        refine gball_yes rfl rfl ?_ ?_
        · (refine mv_make rfl hT 128 1 rfl rfl rfl rfl rfl rfl rfl (by kernel_rfl) (by omega) (by omega) rfl rfl ?_; intro _)
          refine ⟨(by repeat (first | exact subF_nil | refine subF_cons (by first | exact .inl (by repeat (first | exact List.Mem.head _ | apply List.Mem.tail)) | exact .inr (by repeat (first | exact List.Mem.head _ | apply List.Mem.tail))) ?_)), ?_⟩
          refine gb_all (by decide +kernel) ?_
          refine gball_not (by decide +kernel) ?_
          refine gball_not (by decide +kernel) ?_
          refine gball_yes rfl rfl ?_ ?_
          · refine mv_call_bel (fun w hk => zpick _ _ w ((src_blk (by repeat (first | exact List.Mem.head _ | apply List.Mem.tail)) (by kernel_rfl)) w hk) ((src_blk (by repeat (first | exact List.Mem.head _ | apply List.Mem.tail)) (by kernel_rfl)) w hk)) rfl rfl rfl rfl rfl (by kernel_rfl) ?_
            refine ⟨(by repeat (first | exact subF_nil | refine subF_cons (by first | exact .inl (by repeat (first | exact List.Mem.head _ | apply List.Mem.tail)) | exact .inr (by repeat (first | exact List.Mem.head _ | apply List.Mem.tail))) ?_)), ?_⟩
            refine gb_take 3 rfl (by decide +kernel) rfl rfl (ys_ev (nw := true) hT rfl (by first | exact trivial | omega | (simp only [inR]; omega))) (by repeat (first | exact subF_nil | refine subF_cons (by first | exact .inl (by repeat (first | exact List.Mem.head _ | apply List.Mem.tail)) | exact .inr (by repeat (first | exact List.Mem.head _ | apply List.Mem.tail))) ?_)) ?_
            refine gb_take 4 rfl (by decide +kernel) rfl rfl (ys_ev (nw := true) hT rfl (by first | exact trivial | omega | (simp only [inR]; omega))) (by repeat (first | exact subF_nil | refine subF_cons (by first | exact .inl (by repeat (first | exact List.Mem.head _ | apply List.Mem.tail)) | exact .inr (by repeat (first | exact List.Mem.head _ | apply List.Mem.tail))) ?_)) ?_
            refine gb_take 5 rfl (by decide +kernel) rfl rfl (ys_ev (nw := true) hT rfl (by first | exact trivial | omega | (simp only [inR]; omega))) (by repeat (first | exact subF_nil | refine subF_cons (by first | exact .inl (by repeat (first | exact List.Mem.head _ | apply List.Mem.tail)) | exact .inr (by repeat (first | exact List.Mem.head _ | apply List.Mem.tail))) ?_)) ?_
            refine gb_all (by decide +kernel) ?_
            refine gball_not (by decide +kernel) ?_
            refine gball_not (by decide +kernel) ?_
            refine gball_not (by decide +kernel) ?_
            refine gball_not (by decide +kernel) ?_
            refine gball_not (by decide +kernel) ?_
            refine gball_not (by decide +kernel) ?_
            refine gball_not (by decide +kernel) ?_
            refine gball_yes rfl rfl ?_ ?_
            · first | (refine mv_box rfl rfl rfl rfl ?_; intro _) | (refine mv_alloc rfl hT rfl rfl ?_; intro _) | refine mv_store hT rfl rfl rfl rfl rfl rfl (by repeat (first | exact StO.here rfl | apply StO.there)) rfl ?_ | (refine mv_buildSlice rfl hT rfl rfl rfl rfl rfl rfl rfl rfl ?_; intro _)
              refine ⟨(by repeat (first | exact subF_nil | refine subF_cons (by first | exact .inl (by repeat (first | exact List.Mem.head _ | apply List.Mem.tail)) | exact .inr (by repeat (first | exact List.Mem.head _ | apply List.Mem.tail))) ?_)), ?_⟩
              refine gb_take 8 rfl (by decide +kernel) rfl rfl (ys_ev (nw := true) hT rfl (by first | exact trivial | omega | (simp only [inR]; omega))) (by repeat (first | exact subF_nil | refine subF_cons (by first | exact .inl (by repeat (first | exact List.Mem.head _ | apply List.Mem.tail)) | exact .inr (by repeat (first | exact List.Mem.head _ | apply List.Mem.tail))) ?_)) ?_
              refine gb_nil (by decide +kernel) ?_
              exact ⟨(), ⟨rfl, rfl, trivial⟩, .nil, List.nil_subset _⟩
            refine gball_not (by decide +kernel) ?_
            exact gball_end (by decide +kernel)
          refine gball_not (by decide +kernel) ?_
          refine gball_not (by decide +kernel) ?_
          refine gball_not (by decide +kernel) ?_
          refine gball_not (by decide +kernel) ?_
          refine gball_not (by decide +kernel) ?_
          refine gball_not (by decide +kernel) ?_
          exact gball_end (by decide +kernel)
        refine gball_not (by decide +kernel) ?_
        refine gball_not (by decide +kernel) ?_
        refine gball_not (by decide +kernel) ?_
        refine gball_not (by decide +kernel) ?_
        refine gball_not (by decide +kernel) ?_
        refine gball_not (by decide +kernel) ?_
        refine gball_not (by decide +kernel) ?_
        refine gball_not (by decide +kernel) ?_
        exact gball_end (by decide +kernel)
      refine gball_not (by decide +kernel) ?_
      refine gball_not (by decide +kernel) ?_
      refine gball_not (by decide +kernel) ?_
      refine gball_not (by decide +kernel) ?_
      refine gball_not (by decide +kernel) ?_
      refine gball_not (by decide +kernel) ?_
      refine gball_not (by decide +kernel) ?_
      exact gball_end (by decide +kernel)
    refine gball_not (by decide +kernel) ?_
    refine gball_not (by decide +kernel) ?_
    exact gball_end (by decide +kernel)
  · repeat (first | refine g_nil ?_ | refine g_pure true hT rfl rfl rfl (by first | exact trivial | omega | (simp only [inR]; omega)) ?_ | refine g_skip rfl rfl ?_ | refine g_skip0 rfl rfl ?_ | refine gk_region rfl ?_ | refine gk_cond_t rfl rfl ?_ | refine gk_cond_f rfl rfl ?_ | refine g_yd rfl rfl (yd_load_blk hT rfl rfl (by repeat (first | exact List.Mem.head _ | apply List.Mem.tail)) rfl rfl) ?_ | refine g_yd rfl rfl (yd_load_row hT rfl rfl (by repeat (first | exact List.Mem.head _ | apply List.Mem.tail)) rfl rfl) ?_ | refine g_yd rfl rfl (yd_load_row0 hT rfl rfl (by repeat (first | exact List.Mem.head _ | apply List.Mem.tail)) rfl rfl) ?_ | refine g_yd rfl rfl (yd_eql rfl rfl rfl rfl rfl (by kernel_rfl)) ?_ | refine g_yd rfl rfl (yd_neq rfl rfl rfl rfl rfl (by kernel_rfl)) ?_ | refine g_yd rfl rfl (yd_index hT rfl rfl rfl (by first | exact trivial | omega | (simp only [inR]; omega)) rfl) ?_ | (refine g_mv rfl ?_; first | (refine mv_box rfl rfl rfl rfl ?_; intro _) | (refine mv_alloc rfl hT rfl rfl ?_; intro _) | refine mv_store hT rfl rfl rfl rfl rfl rfl (by repeat (first | exact StO.here rfl | apply StO.there)) rfl ?_ | (refine mv_buildSlice rfl hT rfl rfl rfl rfl rfl rfl rfl rfl ?_; intro _)))
    refine g_mv rfl ?_; refine mv_call_new (fun w hk => RetSl.of (F := fun v => .tuple #[v, .int .i64 0]) (sput_yes S0 w bd0 right0)) (by decide) rfl rfl rfl rfl rfl (by kernel_rfl) (fun A n c hn hc hA => ?_)
    repeat (first | refine g_nil ?_ | refine g_pure true hT rfl rfl rfl (by first | exact trivial | omega | (simp only [inR]; omega)) ?_ | refine g_skip rfl rfl ?_ | refine g_skip0 rfl rfl ?_ | refine gk_region rfl ?_ | refine gk_cond_t rfl rfl ?_ | refine gk_cond_f rfl rfl ?_ | refine g_yd rfl rfl (yd_load_blk hT rfl rfl (by repeat (first | exact List.Mem.head _ | apply List.Mem.tail)) rfl rfl) ?_ | refine g_yd rfl rfl (yd_load_row hT rfl rfl (by repeat (first | exact List.Mem.head _ | apply List.Mem.tail)) rfl rfl) ?_ | refine g_yd rfl rfl (yd_load_row0 hT rfl rfl (by repeat (first | exact List.Mem.head _ | apply List.Mem.tail)) rfl rfl) ?_ | refine g_yd rfl rfl (yd_eql rfl rfl rfl rfl rfl (by kernel_rfl)) ?_ | refine g_yd rfl rfl (yd_neq rfl rfl rfl rfl rfl (by kernel_rfl)) ?_ | refine g_yd rfl rfl (yd_index hT rfl rfl rfl (by first | exact trivial | omega | (simp only [inR]; omega)) rfl) ?_ | (refine g_mv rfl ?_; first | (refine mv_box rfl rfl rfl rfl ?_; intro _) | (refine mv_alloc rfl hT rfl rfl ?_; intro _) | refine mv_store hT rfl rfl rfl rfl rfl rfl (by repeat (first | exact StO.here rfl | apply StO.there)) rfl ?_ | (refine mv_buildSlice rfl hT rfl rfl rfl rfl rfl rfl rfl rfl ?_; intro _)))
    refine g_mv rfl ?_; refine mv_call_bel (fun w hk => sget_put bd0 right0 A n c w hn hc (hk.pO (sl A 1 (IE .u8) (Page.page 1 (bdy S0 13))) (by repeat (first | exact List.Mem.head _ | apply List.Mem.tail)))) rfl rfl rfl rfl rfl (by kernel_rfl) ?_
    repeat' (first | (first | refine g_nil ?_ | refine g_pure true hT rfl rfl rfl (by first | exact trivial | omega | (simp only [inR]; omega)) ?_ | refine g_skip rfl rfl ?_ | refine g_skip0 rfl rfl ?_ | refine gk_region rfl ?_ | refine gk_cond_t rfl rfl ?_ | refine gk_cond_f rfl rfl ?_ | refine g_yd rfl rfl (yd_load_blk hT rfl rfl (by repeat (first | exact List.Mem.head _ | apply List.Mem.tail)) rfl rfl) ?_ | refine g_yd rfl rfl (yd_load_row hT rfl rfl (by repeat (first | exact List.Mem.head _ | apply List.Mem.tail)) rfl rfl) ?_ | refine g_yd rfl rfl (yd_load_row0 hT rfl rfl (by repeat (first | exact List.Mem.head _ | apply List.Mem.tail)) rfl rfl) ?_ | refine g_yd rfl rfl (yd_eql rfl rfl rfl rfl rfl (by kernel_rfl)) ?_ | refine g_yd rfl rfl (yd_neq rfl rfl rfl rfl rfl (by kernel_rfl)) ?_ | refine g_yd rfl rfl (yd_index hT rfl rfl rfl (by first | exact trivial | omega | (simp only [inR]; omega)) rfl) ?_ | (refine g_mv rfl ?_; first | (refine mv_box rfl rfl rfl rfl ?_; intro _) | (refine mv_alloc rfl hT rfl rfl ?_; intro _) | refine mv_store hT rfl rfl rfl rfl rfl rfl (by repeat (first | exact StO.here rfl | apply StO.there)) rfl ?_ | (refine mv_buildSlice rfl hT rfl rfl rfl rfl rfl rfl rfl rfl ?_; intro _))) | ((first | refine g_split rfl rfl (by first | exact tells_tB _ | exact tells_not (tells_tB _)) (fun _ => ?_) (fun _ => ?_) | refine gk_cond rfl rfl (by first | exact tells_tB _ | exact tells_not (tells_tB _)) (fun _ => ?_) (fun _ => ?_)) <;> (try first | (exfalso; omega; done) | (rename_i hx; exact absurd rfl hx) | (rename_i hx; cases hx; done))))
    all_goals (refine gk_ret hT rfl rfl (.tmp rfl .nil) (fun w' hk => ?_); refine ⟨?_, hk.toBelow⟩)
    all_goals exact ret_bool (by rw [tB_true ⟨rfl, rfl, rfl, rfl, rfl, rfl, rfl, rfl, rfl, rfl, rfl, rfl, rfl, trivial⟩])
end Go.Proofs.Ytkdphoacniigjaa.Super
