/- slices.Compact (uint64). -/
import Derived.Test.YtgpfedmfbkhhcaaSoW1
import Derived.Test.YtgpfedmfbkhhcaaDd
namespace Go.Proofs.Ytgpfedmfbkhhcaa.SoW
open Go.RowKit Mem Gx Hp Pq Dd
set_option linter.unusedVariables false
set_option linter.unusedSimpArgs false
set_option maxRecDepth 100000
set_option maxHeartbeats 1000000
theorem zero_E : ∃ u, (∀ w, (zeroValue 31).run Try.prog w = .ok u w) ∧ u.cells.size = 1 ∧ ∀ v ∈ u.cells, v.oneCell' = true := ⟨(.int .u64 0), fun w => rfl, rfl, fun v h => by simp [Value.cells] at h; subst h; rfl⟩
theorem comp_any (g n c : Nat) (L : List El) (w : World) (hn : L.length = n) (h9 : n ≤ 1000000) (h : Rd1 w (rF g n c L)) :
    Calls Try.prog 76 [.slice (some ⟨g, 0, none⟩) n c].toArray w (RetM (rF g n c L) (fun _ : Unit => True) (fun _ => .slice (some ⟨g, 0, none⟩) (dd L).length c) (fun _ => rF g (dd L).length c (dd L)) w) := by
  have hnc : n ≤ c := by
    obtain ⟨A', c', hv, h1, _⟩ := own_rdv h
    injection hv with e1 e2 e3
    omega
  refine g_enter0 T (finE (rF g n c L) w) [rF g n c L] [] Try.func76 rfl Try.ntmps76 rfl (Kn.startM h (fun b hb => (finE_mem h.2 b).2 hb) (fun ψ hψ => by cases hψ)) ?_
  by_cases h2 : n < 2
  · have e : dd L = L := dd_small (by omega)
    (repeat' (first | (refine gG ?_; try intro _) | ((first | refine g_split rfl rfl tE (fun _ => ?_) (fun _ => ?_) | refine gk_cond rfl rfl tE (fun _ => ?_) (fun _ => ?_)) <;> (try first | (exfalso; omega; done) | (rename_i hx; exact absurd rfl hx) | (rename_i hx; cases hx; done)))))
    refine gk_ret hT rfl rfl (.tmp rfl .nil) (fun w' hk => ?_)
    exact RetM.mk () trivial (by rw [e, hn]; rfl) hk (fun b hb => (finE_mem h.2 b).1 hb) (by rw [e, hn]; exact mE)
  · (repeat' (first | (refine gG ?_; try intro _) | ((first | refine g_split rfl rfl tE (fun _ => ?_) (fun _ => ?_) | refine gk_cond rfl rfl tE (fun _ => ?_) (fun _ => ?_)) <;> (try first | (exfalso; omega; done) | (rename_i hx; exact absurd rfl hx) | (rename_i hx; cases hx; done)))))
    refine gk_loop_sel (fun (q : Nat × Unit) => match q with | (k, z) => (1 ≤ k ∧ k ≤ n ∧ ∀ i x, 1 ≤ i → i < k → L[i]? = some x → L[i - 1]? ≠ some x)) (fun (q : Nat × Unit) => match q with | (k, z) => [(0, .slice (some ⟨g, 0, none⟩) n c), (3, (.int .i64 (k : Int)))]) (fun (q : Nat × Unit) => match q with | (k, z) => [rF g n c L]) (fun (q : Nat × Unit) => match q with | (k, z) => []) (fun (q : Nat × Unit) => match q with | (k, z) => n - k) (1, ()) rfl ⟨Nat.le_refl _, by omega, fun i x h1 h2 => by omega⟩ (by repeat (first | exact trivial | refine ⟨rfl, ?_⟩)) sA sS ?_
    rintro ⟨k, z⟩ hI
    replace hI : (1 ≤ k ∧ k ≤ n ∧ ∀ i x, 1 ≤ i → i < k → L[i]? = some x → L[i - 1]? ≠ some x) := hI
    change GK _ _ [(0, .slice (some ⟨g, 0, none⟩) n c), (3, (.int .i64 (k : Int)))] [rF g n c L] []
    obtain ⟨k1, k2, hne⟩ := hI
    by_cases hk : k < n
    · (repeat' (first | (refine gG ?_; try intro _) | ((first | refine g_split rfl rfl tE (fun _ => ?_) (fun _ => ?_) | refine gk_cond rfl rfl tE (fun _ => ?_) (fun _ => ?_)) <;> (try first | (exfalso; omega; done) | (rename_i hx; exact absurd rfl hx) | (rename_i hx; cases hx; done)))))
      obtain ⟨x, hx⟩ : ∃ x, L[k]? = some x := ⟨_, List.getElem?_eq_getElem (by omega)⟩
      obtain ⟨y, hy⟩ : ∃ y, L[k - 1]? = some y := ⟨_, List.getElem?_eq_getElem (by omega)⟩
      by_cases e : x = y
      · skip
        refine gk_any [0] (Cut _ (fun _ : Unit => [(0, .slice (some ⟨g, 0, none⟩) n c), (3, (.int .i64 (k : Int))), (25, .bool true)]) (fun _ => [rF g n c L]) (fun _ => [])) rfl rfl (by kernel_rfl) ?_ (cut_k fun _ => ?_)
        · skip
          refine gb_take 0 rfl (by decide +kernel) rfl rfl (ys_ev (nw := true) hT rfl sI) sF ?_
          refine gb_take 1 rfl (by decide +kernel) rfl rfl (ys_ev (nw := true) hT rfl sI) sF ?_
          refine gb_take 2 rfl (by decide +kernel) rfl rfl (ys_ev (nw := true) hT rfl sI) sF ?_
          refine gb_take 3 rfl (by decide +kernel) rfl rfl (ys_load_el (S := [own 0 31 1 (.slice (some ⟨g, 0, none⟩) n c) E (L)]) (o0 := 0) (sz := 1) (enc := E) (L := L) hT (k) x 0 rfl rfl rfl (by first | rfl | omega) hx (at_own mE) rfl rfl) sF ?_
          refine gb_take 4 rfl (by decide +kernel) rfl rfl (ys_ev (nw := true) hT rfl sI) sF ?_
          refine gb_take 5 rfl (by decide +kernel) rfl rfl (ys_ev (nw := true) hT rfl sI) sF ?_
          refine gb_take 6 rfl (by decide +kernel) rfl rfl (ys_ev (nw := true) hT rfl sI) sF ?_
          refine gb_take 7 rfl (by decide +kernel) rfl rfl (ys_ev (nw := true) hT rfl sI) sF ?_
          refine gb_take 8 rfl (by decide +kernel) rfl rfl (ys_load_el (S := [own 0 31 1 (.slice (some ⟨g, 0, none⟩) n c) E (L)]) (o0 := 0) (sz := 1) (enc := E) (L := L) hT (k - 1) y 0 rfl rfl rfl (by first | rfl | omega) hy (at_own mE) rfl rfl) sF ?_
          refine gb_take 9 rfl (by decide +kernel) rfl rfl (ys_ev (nw := true) hT rfl sI) sF ?_
          try (refine gb_say 25 (.bool true) rfl (congrArg Value.bool (tB_true e)) ?_)
          refine gb_nil (by decide +kernel) ?_
          exact ⟨(), (by repeat (first | exact trivial | refine ⟨rfl, ?_⟩)), sA, sS⟩
        · (repeat (refine gG ?_; try intro _))
          refine g_yd rfl rfl (Ys.yd (ys_slice_l hT k rfl rfl rfl rfl rfl (by omega))) ?_
          refine g_say 28 (.slice (some ⟨g, k * 1, none⟩) (n - k) (c - k)) rfl (by rw [shA_at (by omega)]) ?_
          (repeat (refine gG ?_; try intro _))
          refine gk_loop_sel (fun (q : Nat × Nat × (List El)) => match q with | (m, j, M) => (m + 1 ≤ k + j ∧ 1 ≤ j ∧ k + j ≤ n ∧ M.length = n ∧ M.take m = ddN L (k + j) ∧ M.drop (k + j - 1) = L.drop (k + j - 1))) (fun (q : Nat × Nat × (List El)) => match q with | (m, j, M) => [(0, .slice (some ⟨g, 0, none⟩) n c), (3, (.int .i64 (m : Int))), (4, .slice (some ⟨g, k * 1, none⟩) (n - k) (c - k)), (5, (.int .i64 (j : Int)))]) (fun (q : Nat × Nat × (List El)) => match q with | (m, j, M) => [rF g n c M]) (fun (q : Nat × Nat × (List El)) => match q with | (m, j, M) => []) (fun (q : Nat × Nat × (List El)) => match q with | (m, j, M) => n - (k + j)) (k, 1, L) rfl ⟨by omega, by omega, by omega, hn, (by rw [ddN_skip hx (by omega) (by rw [hy, e]), ddN_all hne (by omega)]), rfl⟩ (by repeat (first | exact trivial | refine ⟨rfl, ?_⟩)) sA sS ?_
          rintro ⟨m, j, M⟩ hI
          replace hI : (m + 1 ≤ k + j ∧ 1 ≤ j ∧ k + j ≤ n ∧ M.length = n ∧ M.take m = ddN L (k + j) ∧ M.drop (k + j - 1) = L.drop (k + j - 1)) := hI
          change GK _ _ [(0, .slice (some ⟨g, 0, none⟩) n c), (3, (.int .i64 (m : Int))), (4, .slice (some ⟨g, k * 1, none⟩) (n - k) (c - k)), (5, (.int .i64 (j : Int)))] [rF g n c M] []
          clear hx hy e
          obtain ⟨m1, j1, kj, hM, hM1, hM2⟩ := hI
          have hat : ∀ i, k + j - 1 ≤ i → M[i]? = L[i]? := fun i hi => by
            have h3 := congrArg (fun l => l[i - (k + j - 1)]?) hM2
            simp only [List.getElem?_drop] at h3
            rwa [show k + j - 1 + (i - (k + j - 1)) = i by omega] at h3
          by_cases hkj : k + j < n
          · (repeat' (first | (refine gG ?_; try intro _) | ((first | refine g_split rfl rfl tE (fun _ => ?_) (fun _ => ?_) | refine gk_cond rfl rfl tE (fun _ => ?_) (fun _ => ?_)) <;> (try first | (exfalso; omega; done) | (rename_i hx; exact absurd rfl hx) | (rename_i hx; cases hx; done)))))
            obtain ⟨x, hx⟩ : ∃ x, M[k + j]? = some x := ⟨_, List.getElem?_eq_getElem (by omega)⟩
            obtain ⟨y, hy⟩ : ∃ y, M[k + j - 1]? = some y := ⟨_, List.getElem?_eq_getElem (by omega)⟩
            have hxL := (hat (k + j) (by omega)).symm.trans hx
            have hyL := (hat (k + j - 1) (by omega)).symm.trans hy
            have hdr : M.drop (k + (j + 1) - 1) = L.drop (k + (j + 1) - 1) := by
              have h3 := congrArg (List.drop 1) hM2
              rwa [List.drop_drop, List.drop_drop, show k + j - 1 + 1 = k + (j + 1) - 1 by omega] at h3
            by_cases e : x = y
            · skip
              refine gk_any [0] (Cut _ (fun _ : Unit => [(0, .slice (some ⟨g, 0, none⟩) n c), (3, (.int .i64 (m : Int))), (4, .slice (some ⟨g, k * 1, none⟩) (n - k) (c - k)), (5, (.int .i64 (j : Int))), (44, .bool false)]) (fun _ => [rF g n c M]) (fun _ => [])) rfl rfl (by kernel_rfl) ?_ (cut_k fun _ => ?_)
              · skip
                refine gb_take 0 rfl (by decide +kernel) rfl rfl (ys_ev (nw := true) hT rfl sI) sF ?_
                refine gb_take 1 rfl (by decide +kernel) rfl rfl (ys_ev (nw := true) hT rfl sI) sF ?_
                refine gb_take 2 rfl (by decide +kernel) rfl rfl (ys_ev (nw := true) hT rfl sI) sF ?_
                refine gb_take 3 rfl (by decide +kernel) rfl rfl (ys_load_el (S := [own 0 31 1 (.slice (some ⟨g, 0, none⟩) n c) E (M)]) (o0 := 0) (sz := 1) (enc := E) (L := M) hT (k + j) x 0 rfl rfl rfl (by first | rfl | omega) hx (at_own mE) rfl rfl) sF ?_
                refine gb_take 4 rfl (by decide +kernel) rfl rfl (ys_ev (nw := true) hT rfl sI) sF ?_
                refine gb_take 5 rfl (by decide +kernel) rfl rfl (ys_ev (nw := true) hT rfl sI) sF ?_
                refine gb_take 6 rfl (by decide +kernel) rfl rfl (ys_ev (nw := true) hT rfl sI) sF ?_
                refine gb_take 7 rfl (by decide +kernel) rfl rfl (ys_ev (nw := true) hT rfl sI) sF ?_
                refine gb_take 8 rfl (by decide +kernel) rfl rfl (ys_load_el (S := [own 0 31 1 (.slice (some ⟨g, 0, none⟩) n c) E (M)]) (o0 := 0) (sz := 1) (enc := E) (L := M) hT (k + j - 1) y 0 rfl rfl rfl (by first | rfl | omega) hy (at_own mE) rfl rfl) sF ?_
                refine gb_take 9 rfl (by decide +kernel) rfl rfl (ys_ev (nw := true) hT rfl sI) sF ?_
                try (refine gb_say 44 (.bool false) rfl (congrArg Value.bool (tB_false (fun h => h e))) ?_)
                refine gb_nil (by decide +kernel) ?_
                exact ⟨(), (by repeat (first | exact trivial | refine ⟨rfl, ?_⟩)), sA, sS⟩
              · (repeat (refine gG ?_; try intro _))
                refine gk_say 5 (.int .i64 ((j + 1 : Nat) : Int)) rfl (by first | (congr 1; done) | (congr 1; omega)) ?_
                refine gk_again_sel rfl (m, j + 1, M) ⟨by omega, by omega, (by show k + (j + 1) ≤ n; omega), hM, (by rw [hM1]; exact (ddN_skip hxL (by omega) (by rw [hyL, e])).symm), hdr⟩ (by dsimp only; omega) (by repeat (first | exact trivial | refine ⟨rfl, ?_⟩)) sA sS
            · skip
              refine gk_any [0] (Cut _ (fun _ : Unit => [(0, .slice (some ⟨g, 0, none⟩) n c), (3, (.int .i64 (m : Int))), (4, .slice (some ⟨g, k * 1, none⟩) (n - k) (c - k)), (5, (.int .i64 (j : Int))), (44, .bool true)]) (fun _ => [rF g n c M]) (fun _ => [])) rfl rfl (by kernel_rfl) ?_ (cut_k fun _ => ?_)
              · skip
                refine gb_take 0 rfl (by decide +kernel) rfl rfl (ys_ev (nw := true) hT rfl sI) sF ?_
                refine gb_take 1 rfl (by decide +kernel) rfl rfl (ys_ev (nw := true) hT rfl sI) sF ?_
                refine gb_take 2 rfl (by decide +kernel) rfl rfl (ys_ev (nw := true) hT rfl sI) sF ?_
                refine gb_take 3 rfl (by decide +kernel) rfl rfl (ys_load_el (S := [own 0 31 1 (.slice (some ⟨g, 0, none⟩) n c) E (M)]) (o0 := 0) (sz := 1) (enc := E) (L := M) hT (k + j) x 0 rfl rfl rfl (by first | rfl | omega) hx (at_own mE) rfl rfl) sF ?_
                refine gb_take 4 rfl (by decide +kernel) rfl rfl (ys_ev (nw := true) hT rfl sI) sF ?_
                refine gb_take 5 rfl (by decide +kernel) rfl rfl (ys_ev (nw := true) hT rfl sI) sF ?_
                refine gb_take 6 rfl (by decide +kernel) rfl rfl (ys_ev (nw := true) hT rfl sI) sF ?_
                refine gb_take 7 rfl (by decide +kernel) rfl rfl (ys_ev (nw := true) hT rfl sI) sF ?_
                refine gb_take 8 rfl (by decide +kernel) rfl rfl (ys_load_el (S := [own 0 31 1 (.slice (some ⟨g, 0, none⟩) n c) E (M)]) (o0 := 0) (sz := 1) (enc := E) (L := M) hT (k + j - 1) y 0 rfl rfl rfl (by first | rfl | omega) hy (at_own mE) rfl rfl) sF ?_
                refine gb_take 9 rfl (by decide +kernel) rfl rfl (ys_ev (nw := true) hT rfl sI) sF ?_
                try (refine gb_say 44 (.bool true) rfl (congrArg Value.bool (tB_true e)) ?_)
                refine gb_nil (by decide +kernel) ?_
                exact ⟨(), (by repeat (first | exact trivial | refine ⟨rfl, ?_⟩)), sA, sS⟩
              · (repeat (refine gG ?_; try intro _))
                obtain ⟨u, hu⟩ : ∃ u, M[m]? = some u := ⟨_, List.getElem?_eq_getElem (by omega)⟩
                refine g_yd rfl rfl ((ys_load_el (S := [own 0 31 1 (.slice (some ⟨g, 0, none⟩) n c) E (M)]) (o0 := 0) (sz := 1) (enc := E) (L := M) hT (k + j) x 0 rfl rfl rfl (by first | rfl | omega) hx (at_own mE) rfl rfl).ydS sF) ?_
                (repeat (refine gG ?_; try intro _))
                refine g_mv rfl (mv_store_own (α := El) (g := g) (n := n) (c := c) (base := 0) (e := 31) (sz := 1) (enc := E) (L := M) hT m 0 u x rfl rfl (by first | rfl | omega) rfl rfl rfl rfl hu (by decide) (fun b h1 h2 => absurd h1 (by omega)) rfl (by first | ((repeat (first | with_reducible exact Upd.here _ | with_reducible apply Upd.there)); done) | ((repeat (first | exact Upd.here _ | apply Upd.there)); done) | fail) rfl ?_)
                (repeat (refine gG ?_; try intro _))
                refine gk_say 3 (.int .i64 ((m + 1 : Nat) : Int)) rfl (by first | (congr 1; done) | (congr 1; omega)) ?_
                refine gk_say 5 (.int .i64 ((j + 1 : Nat) : Int)) rfl (by first | (congr 1; done) | (congr 1; omega)) ?_
                refine gk_again_sel rfl (m + 1, j + 1, M.set m x) ⟨by omega, by omega, (by show k + (j + 1) ≤ n; omega), (by rw [List.length_set]; exact hM), (by rw [List.take_set, show ddN L (k + (j + 1)) = ddN L (k + j) ++ [x] from ddN_keep hxL (.inr (by show L[k + j - 1]? ≠ some x; rw [hyL]; intro h'; injection h' with h'; exact e h'.symm)), ← hM1, List.take_succ_eq_append_getElem (by omega), List.set_append_right _ _ (by rw [List.length_take]; omega), List.length_take, Nat.min_eq_left (by omega), Nat.sub_self]; rfl), (by rw [List.drop_set_of_lt (by omega)]; exact hdr)⟩ (by dsimp only; omega) (by repeat (first | exact trivial | refine ⟨rfl, ?_⟩)) sA sS
          · have hdd : M.take m = dd L := by rw [hM1]; unfold dd; congr 1; omega
            (repeat' (first | (refine gG ?_; try intro _) | ((first | refine g_split rfl rfl tE (fun _ => ?_) (fun _ => ?_) | refine gk_cond rfl rfl tE (fun _ => ?_) (fun _ => ?_)) <;> (try first | (exfalso; omega; done) | (rename_i hx; exact absurd rfl hx) | (rename_i hx; cases hx; done)))))
            refine g_yd rfl rfl (Ys.yd (ys_slice_l hT m rfl rfl rfl rfl rfl (by omega))) ?_
            refine g_say 56 (.slice (some ⟨g, m * 1, none⟩) (n - m) (c - m)) rfl (by rw [shA_at (by omega)]) ?_
            refine g_own_blk (g := g) (base := 0) (e := 31) (sz := 1) (n := n) (c := c) (enc := E) (L := M) (by decide) (by intro _; first | ((repeat (first | with_reducible exact Upd.here _ | with_reducible apply Upd.there)); done) | ((repeat (first | exact Upd.here _ | apply Upd.there)); done) | fail) (fun rest hr1 hr2 hr3 hr4 hr5 => ?_)
            have e4 : flatF 1 E M = flatF 1 E (M.take m) ++ flatF 1 E (M.drop m) := by rw [← flatF_append, List.take_append_drop]
            have lT : (flatF 1 E (M.take m)).length = m * 1 := by rw [flatF_length, List.length_take, Nat.min_eq_left (by omega)]
            have lM : (flatF 1 E M).length = M.length * 1 := flatF_length _ _ M
            refine g_mv rfl (mv_clear rfl hT rfl rfl rfl rfl rfl zero_E (by intro _; first | ((repeat (first | with_reducible exact Upd.here _ | with_reducible apply Upd.there)); done) | ((repeat (first | exact Upd.here _ | apply Upd.there)); done) | fail) (by rw [hr1]; omega) (fun vs hvs => ?_))
            (repeat (refine gG ?_; try intro _))
            refine g_yd rfl rfl (Ys.yd (ys_slice_h hT m rfl rfl rfl rfl rfl (by omega))) ?_
            refine g_say 59 (.slice (some ⟨g, 0, none⟩) m c) rfl (by rw [shA_0]) ?_
            refine g_blk_own (g := g) (e := 31) (base := 0) (sz := 1) (enc := E) (n := m) (c := c) (dd L) (by decide) (by first | ((repeat (first | with_reducible exact Upd.here _ | with_reducible apply Upd.there)); done) | ((repeat (first | exact Upd.here _ | apply Upd.there)); done) | fail) (by rw [lay_len (by rw [hvs, hr1]; omega), hr1]) (by rw [← hdd, List.length_take]; omega) (by omega) hr4 hr5 ?_ ?_
            · rw [e4, List.append_assoc, lay_app _ _ _ lT.symm, List.append_assoc, ← hdd]
              exact List.take_left' (by rw [lT])
            · have hm : (dd L).length = m := by rw [← hdd, List.length_take]; omega
              (repeat (refine gG ?_; try intro _))
              refine gk_ret hT rfl rfl (.tmp rfl .nil) (fun w' hk => ?_)
              exact RetM.mk () trivial (by rw [hm]; rfl) hk (fun b hb => (finE_mem h.2 b).1 hb) (by rw [hm]; exact mE)
      · skip
        refine gk_any [0] (Cut _ (fun _ : Unit => [(0, .slice (some ⟨g, 0, none⟩) n c), (3, (.int .i64 (k : Int))), (25, .bool false)]) (fun _ => [rF g n c L]) (fun _ => [])) rfl rfl (by kernel_rfl) ?_ (cut_k fun _ => ?_)
        · skip
          refine gb_take 0 rfl (by decide +kernel) rfl rfl (ys_ev (nw := true) hT rfl sI) sF ?_
          refine gb_take 1 rfl (by decide +kernel) rfl rfl (ys_ev (nw := true) hT rfl sI) sF ?_
          refine gb_take 2 rfl (by decide +kernel) rfl rfl (ys_ev (nw := true) hT rfl sI) sF ?_
          refine gb_take 3 rfl (by decide +kernel) rfl rfl (ys_load_el (S := [own 0 31 1 (.slice (some ⟨g, 0, none⟩) n c) E (L)]) (o0 := 0) (sz := 1) (enc := E) (L := L) hT (k) x 0 rfl rfl rfl (by first | rfl | omega) hx (at_own mE) rfl rfl) sF ?_
          refine gb_take 4 rfl (by decide +kernel) rfl rfl (ys_ev (nw := true) hT rfl sI) sF ?_
          refine gb_take 5 rfl (by decide +kernel) rfl rfl (ys_ev (nw := true) hT rfl sI) sF ?_
          refine gb_take 6 rfl (by decide +kernel) rfl rfl (ys_ev (nw := true) hT rfl sI) sF ?_
          refine gb_take 7 rfl (by decide +kernel) rfl rfl (ys_ev (nw := true) hT rfl sI) sF ?_
          refine gb_take 8 rfl (by decide +kernel) rfl rfl (ys_load_el (S := [own 0 31 1 (.slice (some ⟨g, 0, none⟩) n c) E (L)]) (o0 := 0) (sz := 1) (enc := E) (L := L) hT (k - 1) y 0 rfl rfl rfl (by first | rfl | omega) hy (at_own mE) rfl rfl) sF ?_
          refine gb_take 9 rfl (by decide +kernel) rfl rfl (ys_ev (nw := true) hT rfl sI) sF ?_
          try (refine gb_say 25 (.bool false) rfl (congrArg Value.bool (tB_false e)) ?_)
          refine gb_nil (by decide +kernel) ?_
          exact ⟨(), (by repeat (first | exact trivial | refine ⟨rfl, ?_⟩)), sA, sS⟩
        · (repeat (refine gG ?_; try intro _))
          refine gk_say 3 (.int .i64 ((k + 1 : Nat) : Int)) rfl (by first | (congr 1; done) | (congr 1; omega)) ?_
          refine gk_again_sel rfl (k + 1, ()) ⟨by omega, by omega, fun i u h1 h3 h4 => (by
            rcases Nat.lt_or_ge i k with h5 | h5
            · exact hne i u h1 h5 h4
            · obtain rfl : i = k := (by omega)
              rw [hx] at h4
              injection h4 with h4
              rw [hy, ← h4]
              intro h6
              injection h6 with h6
              exact e h6.symm)⟩ (by dsimp only; omega) (by repeat (first | exact trivial | refine ⟨rfl, ?_⟩)) sA sS
    · have e : dd L = L := by
        unfold dd
        rw [ddN_all (fun i x h1 h3 => hne i x h1 (by omega)) (Nat.le_refl _), List.take_length]
      (repeat' (first | (refine gG ?_; try intro _) | ((first | refine g_split rfl rfl tE (fun _ => ?_) (fun _ => ?_) | refine gk_cond rfl rfl tE (fun _ => ?_) (fun _ => ?_)) <;> (try first | (exfalso; omega; done) | (rename_i hx; exact absurd rfl hx) | (rename_i hx; cases hx; done)))))
      refine gk_ret hT rfl rfl (.tmp rfl .nil) (fun w' hk => ?_)
      exact RetM.mk () trivial (by rw [e, hn]; rfl) hk (fun b hb => (finE_mem h.2 b).1 hb) (by rw [e, hn]; exact mE)
theorem comp_nil (A : Option Addr) (c : Nat) (w : World) : Calls Try.prog 76 [.slice A 0 c].toArray w fun e w' => e = .returned (.slice A 0 c) ∧ Below w.heap.size w w' := by
  refine g_enter0 T [] [] [] Try.func76 rfl Try.ntmps76 rfl (Kn.start _) ?_
  (repeat' (first | (refine gG ?_; try intro _) | ((first | refine g_split rfl rfl tE (fun _ => ?_) (fun _ => ?_) | refine gk_cond rfl rfl tE (fun _ => ?_) (fun _ => ?_)) <;> (try first | (exfalso; omega; done) | (rename_i hx; exact absurd rfl hx) | (rename_i hx; cases hx; done)))))
  refine gk_ret hT rfl rfl (.tmp rfl .nil) (fun w' hk => ?_)
  exact ⟨rfl, hk.toBelow⟩
end Go.Proofs.Ytgpfedmfbkhhcaa.SoW

