/- Slices of numbers, and of runs: Clone, Equal. -/
import Derived.Test.YtmehbhabheokbaaExP
import Derived.Test.YtmehbhabheokbaaSoI5
import Derived.Test.YtmehbhabheokbaaScI
namespace Go.Proofs.Ytmehbhabheokbaa.Ex
open Go.RowKit Mem Gx
set_option linter.unusedVariables false
set_option linter.unusedSimpArgs false
set_option maxRecDepth 100000
set_option maxHeartbeats 2000000
theorem run_ext {x y : RunD} (h : conjP [(x.f, y.f), (x.m, y.m)]) : x = y := by
  obtain ⟨a, b⟩ := x
  obtain ⟨a', b'⟩ := y
  obtain ⟨h1, h2, _⟩ := h
  dsimp only at h1 h2
  subst h1; subst h2; rfl
theorem oneI : ∀ (x : Int) (j : Nat), (IE .i64 x j).oneCell' = true := by intro x j; rfl
theorem elt_I : Elt Try.prog 36 3 1 8 := Elt.mk' (z := .int .i64 0) Try.underlying36 (by kernel_rfl) rfl (by decide)
theorem elt_R : Elt Try.prog 81 111 2 16 := Elt.mk' (z := .agg #[.int .i64 0, .int .i64 0]) Try.underlying81 (by kernel_rfl) rfl (by decide)
theorem cloneI_own (A : Option Addr) (n c : Nat) (L : List Int) (w : World) (hn : n = L.length) (hb : n ≤ 100000000) (hs : Sl w A 1 (IE .i64) L) :
    Calls Try.prog 33 [.slice A n c].toArray w (Ret (fun _ : Value => True) (fun v => v) (fun v => [own 0 3 1 v (IE .i64) L]) w) := by
  rcases A with _ | a
  · have hL : L = [] := by
      rcases Nat.eq_zero_or_pos L.length with h | h
      · exact List.length_eq_zero_iff.1 h
      · obtain ⟨b, off, e, _⟩ := hs h; cases e
    subst hL
    refine g_enter0 T [] [] [] Try.func33 rfl Try.ntmps33 rfl (Kn.start _) ?_
    (repeat (refine gG ?_; try intro _))
    refine gk_own 0 3 1 (IE .i64) ?_
    refine gk_ret hT rfl rfl (.tmp rfl .nil) (fun w' hk => ?_)
    exact Ret.mk (.slice none 0 0) trivial rfl hk sA
  · refine g_enter0 T [] [] [sl (some a) 1 (IE .i64) L] Try.func33 rfl Try.ntmps33 rfl ((Kn.start w).argR hs (by decide) (fun _ h => by cases h)) ?_
    (repeat (refine gG1 ?_; try intro _))
    refine g_mv rfl (mv_empty 1 (IE .i64) rfl hT rfl rfl rfl rfl rfl (fun g => ?_))
    (repeat (refine gG1 ?_; try intro _))
    refine g_mv rfl (mv_append (L := []) rfl L rfl rfl rfl rfl elt_I (by intro _; first | ((repeat (first | with_reducible exact Upd.here _ | with_reducible apply Upd.there)); done) | ((repeat (first | exact Upd.here _ | apply Upd.there)); done) | fail) (src_R mE) hn (by intro x j; rfl) (by simp [maxLen]; omega) (by simp; omega) (Nat.zero_le _) (fun v => ?_))
    (repeat (refine gG1 ?_; try intro _))
    refine gk_ret hT rfl rfl (.tmp rfl .nil) (fun w' hk => ?_)
    exact Ret.mk v trivial rfl hk sA
theorem equal_I (A A' : Option Addr) (n c n' c' : Nat) (L L' : List Int) (w : World) (hn : n = L.length) (hn' : n' = L'.length) (h9 : n ≤ 9223372036854775807) (hs : Sl w A 1 (IE .i64) L) (hs' : Sl w A' 1 (IE .i64) L') :
    Calls Try.prog 38 [.slice A n c, .slice A' n' c'].toArray w fun e w' => e = .returned (.bool (tB (L = L'))) ∧ Below w.heap.size w w' := by
  by_cases hne : n = n'
  · subst hne
    refine g_enter0 T [] [] [sl A' 1 (IE .i64) L', sl A 1 (IE .i64) L] Try.func38 rfl Try.ntmps38 rfl (((Kn.start w).argR hs (by decide) (fun _ h => by cases h)).argR hs' (by decide) (fun _ h => by cases h)) ?_
    (repeat' (first | (refine gG ?_; try intro _) | ((first | refine g_split rfl rfl tE (fun _ => ?_) (fun _ => ?_) | refine gk_cond rfl rfl tE (fun _ => ?_) (fun _ => ?_)) <;> (try first | (exfalso; omega; done) | (rename_i hx; exact absurd rfl hx) | (rename_i hx; cases hx; done)))))
    refine gk_loop (fun k : Nat => k ≤ n ∧ ∀ i, i < k → L[i]? = L'[i]?) (fun k => [(0, .slice A n c), (1, .slice A' n c'), (12, .int .i64 n), (13, .int .i64 k)]) (fun _ => []) (fun _ => [sl A' 1 (IE .i64) L', sl A 1 (IE .i64) L]) (fun k => n - k) 0 rfl ⟨Nat.zero_le _, fun i hi => absurd hi (Nat.not_lt_zero _)⟩ ⟨rfl, rfl, rfl, rfl, trivial⟩ sL sS ?_
    rintro k ⟨hk, hp⟩
    (repeat (refine gG ?_; try intro _))
    refine gk_cond rfl rfl (tells_tB _) (fun h1 => ?_) (fun h1 => ?_)
    · have hkn : k < n := by omega
      refine gk_elem (enc := (IE .i64)) (L := L) k mE (by omega) (by decide) (fun b off y eA hy => ?_)
      refine gk_elem (enc := (IE .i64)) (L := L') k mE (by omega) (by decide) (fun b' off' y' eA' hy' => ?_)
      subst eA
      subst eA'
      (repeat (refine gG ?_; try intro _))
      refine gk_drawn_at [0, 1] rfl rfl (by kernel_rfl) ?_
      (repeat (first | refine ga_nil (by decide +kernel) ?_ | refine ga_take (by decide +kernel) rfl rfl (ys_ev (nw := true) hT rfl sI) sF ?_ | refine ga_skip (by decide +kernel) rfl rfl sF ?_ | refine ga_take (by decide +kernel) rfl rfl (ys_blk hT rfl rfl mE rfl rfl) sF ?_ | refine ga_take (by decide +kernel) rfl rfl (ys_row hT rfl rfl mE rfl rfl) sF ?_ | refine ga_take (by decide +kernel) rfl rfl (ys_row0 hT rfl rfl mE rfl rfl) sF ?_ | (refine ga_mv (by decide +kernel) rfl ?_; (first | (refine mv_box rfl rfl rfl rfl ?_; intro _) | (refine mv_alloc rfl hT rfl rfl ?_; intro _) | refine mv_store hT rfl rfl rfl rfl rfl rfl sO rfl ?_ | (refine mv_buildSlice rfl hT rfl rfl rfl rfl rfl rfl rfl rfl ?_; intro _)); refine ⟨sF, ?_⟩) | refine ga_take (by decide +kernel) rfl rfl (ys_eql rfl rfl rfl rfl rfl (by kernel_rfl)) sF ?_ | refine ga_take (by decide +kernel) rfl rfl (ys_neq rfl rfl rfl rfl rfl (by kernel_rfl)) sF ?_))
      (repeat (refine gG ?_; try intro _))
      refine gk_cond rfl rfl (tells_tB _) (fun h2 => ?_) (fun h2 => ?_)
      · (repeat (refine gG ?_; try intro _))
        refine gk_ret hT rfl rfl (.tmp rfl .nil) (fun w' hk => ?_)
        refine ⟨?_, hk.toBelow⟩
        rw [tB_false (list_ne hy hy' (fun e => h2 (by subst e; exact rfl)))]
        rfl
      · (repeat (refine gG ?_; try intro _))
        refine gk_again rfl (k + 1) ⟨by omega, fun i hi => ?_⟩ (by omega) ⟨rfl, rfl, rfl, rfl, trivial⟩ sL sS
        by_cases e : i = k
        · subst e
          rw [hy, hy', show y = y' from id (Classical.byContradiction h2)]
        · exact hp i (by omega)
    · (repeat (refine gG ?_; try intro _))
      refine gk_ret hT rfl rfl (.tmp rfl .nil) (fun w' hk => ?_)
      refine ⟨?_, hk.toBelow⟩
      rw [tB_true (list_eq (by omega) (fun i hi => hp i (by omega)))]
      rfl
  · refine g_enter0 T [] [] [] Try.func38 rfl Try.ntmps38 rfl (Kn.start _) ?_
    (repeat' (first | (refine gG ?_; try intro _) | ((first | refine g_split rfl rfl tE (fun _ => ?_) (fun _ => ?_) | refine gk_cond rfl rfl tE (fun _ => ?_) (fun _ => ?_)) <;> (try first | (exfalso; omega; done) | (rename_i hx; exact absurd rfl hx) | (rename_i hx; cases hx; done)))))
    refine gk_ret hT rfl rfl (.tmp rfl .nil) (fun w' hk => ?_)
    refine ⟨?_, hk.toBelow⟩
    rw [tB_false (fun e => hne (by rw [hn, hn', e]))]
    rfl
theorem equal_R (A A' : Option Addr) (n c n' c' : Nat) (L L' : List RunD) (w : World) (hn : n = L.length) (hn' : n' = L'.length) (h9 : n ≤ 9223372036854775807) (hs : Sl w A 2 RE L) (hs' : Sl w A' 2 RE L') :
    Calls Try.prog 56 [.slice A n c, .slice A' n' c'].toArray w fun e w' => e = .returned (.bool (tB (L = L'))) ∧ Below w.heap.size w w' := by
  by_cases hne : n = n'
  · subst hne
    refine g_enter0 T [] [] [sl A' 2 RE L', sl A 2 RE L] Try.func56 rfl Try.ntmps56 rfl (((Kn.start w).argR hs (by decide) (fun _ h => by cases h)).argR hs' (by decide) (fun _ h => by cases h)) ?_
    (repeat' (first | (refine gG ?_; try intro _) | ((first | refine g_split rfl rfl tE (fun _ => ?_) (fun _ => ?_) | refine gk_cond rfl rfl tE (fun _ => ?_) (fun _ => ?_)) <;> (try first | (exfalso; omega; done) | (rename_i hx; exact absurd rfl hx) | (rename_i hx; cases hx; done)))))
    refine gk_loop (fun k : Nat => k ≤ n ∧ ∀ i, i < k → L[i]? = L'[i]?) (fun k => [(0, .slice A n c), (1, .slice A' n c'), (12, .int .i64 n), (13, .int .i64 k)]) (fun _ => []) (fun _ => [sl A' 2 RE L', sl A 2 RE L]) (fun k => n - k) 0 rfl ⟨Nat.zero_le _, fun i hi => absurd hi (Nat.not_lt_zero _)⟩ ⟨rfl, rfl, rfl, rfl, trivial⟩ sL sS ?_
    rintro k ⟨hk, hp⟩
    (repeat (refine gG ?_; try intro _))
    refine gk_cond rfl rfl (tells_tB _) (fun h1 => ?_) (fun h1 => ?_)
    · have hkn : k < n := by omega
      refine gk_elem (enc := RE) (L := L) k mE (by omega) (by decide) (fun b off y eA hy => ?_)
      refine gk_elem (enc := RE) (L := L') k mE (by omega) (by decide) (fun b' off' y' eA' hy' => ?_)
      subst eA
      subst eA'
      (repeat (refine gG ?_; try intro _))
      refine gk_drawn_at [0, 1] rfl rfl (by kernel_rfl) ?_
      (repeat (first | refine ga_nil (by decide +kernel) ?_ | refine ga_take (by decide +kernel) rfl rfl (ys_ev (nw := true) hT rfl sI) sF ?_ | refine ga_skip (by decide +kernel) rfl rfl sF ?_ | refine ga_take (by decide +kernel) rfl rfl (ys_blk hT rfl rfl mE rfl rfl) sF ?_ | refine ga_take (by decide +kernel) rfl rfl (ys_row hT rfl rfl mE rfl rfl) sF ?_ | refine ga_take (by decide +kernel) rfl rfl (ys_row0 hT rfl rfl mE rfl rfl) sF ?_ | (refine ga_mv (by decide +kernel) rfl ?_; (first | (refine mv_box rfl rfl rfl rfl ?_; intro _) | (refine mv_alloc rfl hT rfl rfl ?_; intro _) | refine mv_store hT rfl rfl rfl rfl rfl rfl sO rfl ?_ | (refine mv_buildSlice rfl hT rfl rfl rfl rfl rfl rfl rfl rfl ?_; intro _)); refine ⟨sF, ?_⟩) | refine ga_take (by decide +kernel) rfl rfl (ys_eql rfl rfl rfl rfl rfl (by kernel_rfl)) sF ?_ | refine ga_take (by decide +kernel) rfl rfl (ys_neq rfl rfl rfl rfl rfl (by kernel_rfl)) sF ?_))
      (repeat (refine gG ?_; try intro _))
      refine gk_cond rfl rfl (tells_tB _) (fun h2 => ?_) (fun h2 => ?_)
      · (repeat (refine gG ?_; try intro _))
        refine gk_ret hT rfl rfl (.tmp rfl .nil) (fun w' hk => ?_)
        refine ⟨?_, hk.toBelow⟩
        rw [tB_false (list_ne hy hy' (fun e => h2 (by subst e; exact ⟨rfl, rfl, trivial⟩)))]
        rfl
      · (repeat (refine gG ?_; try intro _))
        refine gk_again rfl (k + 1) ⟨by omega, fun i hi => ?_⟩ (by omega) ⟨rfl, rfl, rfl, rfl, trivial⟩ sL sS
        by_cases e : i = k
        · subst e
          rw [hy, hy', show y = y' from run_ext (Classical.byContradiction h2)]
        · exact hp i (by omega)
    · (repeat (refine gG ?_; try intro _))
      refine gk_ret hT rfl rfl (.tmp rfl .nil) (fun w' hk => ?_)
      refine ⟨?_, hk.toBelow⟩
      rw [tB_true (list_eq (by omega) (fun i hi => hp i (by omega)))]
      rfl
  · refine g_enter0 T [] [] [] Try.func56 rfl Try.ntmps56 rfl (Kn.start _) ?_
    (repeat' (first | (refine gG ?_; try intro _) | ((first | refine g_split rfl rfl tE (fun _ => ?_) (fun _ => ?_) | refine gk_cond rfl rfl tE (fun _ => ?_) (fun _ => ?_)) <;> (try first | (exfalso; omega; done) | (rename_i hx; exact absurd rfl hx) | (rename_i hx; cases hx; done)))))
    refine gk_ret hT rfl rfl (.tmp rfl .nil) (fun w' hk => ?_)
    refine ⟨?_, hk.toBelow⟩
    rw [tB_false (fun e => hne (by rw [hn, hn', e]))]
    rfl
end Go.Proofs.Ytmehbhabheokbaa.Ex

