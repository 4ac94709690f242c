/- Slices of catalogs: Clone, Equal. -/
import Derived.Test.YtgpfedmfbkhhcaaCtA
namespace Go.Proofs.Ytgpfedmfbkhhcaa.Ct
open Go.RowKit Mem Gx
set_option linter.unusedVariables false
set_option linter.unusedSimpArgs false
set_option maxRecDepth 100000
set_option maxHeartbeats 2000000
theorem elt_V : Elt Try.prog 61 99 3 40 := Elt.mk' (z := .agg #[.int .i64 0, .int .u64 0, .slice none 0 0]) Try.underlying61 (by kernel_rfl) rfl (by decide)
theorem elt_G : Elt Try.prog 62 101 2 32 := Elt.mk' (z := .agg #[.int .i64 0, .slice none 0 0]) Try.underlying62 (by kernel_rfl) rfl (by decide)
theorem elt_B : Elt Try.prog 63 81 3 40 := Elt.mk' (z := .agg #[.int .i64 0, .int .u64 0, .slice none 0 0]) Try.underlying63 (by kernel_rfl) rfl (by decide)
theorem elt_I : Elt Try.prog 36 3 1 8 := Elt.mk' (z := .int .i64 0) Try.underlying36 (by kernel_rfl) rfl (by decide)
theorem elt_U : Elt Try.prog 64 31 1 8 := Elt.mk' (z := .int .u64 0) Try.underlying64 (by kernel_rfl) rfl (by decide)
theorem elt_M : Elt Try.prog 65 103 2 16 := Elt.mk' (z := .agg #[.int .u64 0, .int .u64 0]) Try.underlying65 (by kernel_rfl) rfl (by decide)
theorem cloneI_own (A : Option Addr) (n c : Nat) (L : List Int) (w : World) (hn : n = L.length) (hb : n ≤ 100000000) (hs : Sl w A 1 (IE .i64) L) :
    Calls Try.prog 60 [.slice A n c].toArray w (Ret (fun _ : Value => True) (fun v => v) (fun v => [own 0 3 1 v (IE .i64) L]) w) := by
  rcases A with _ | a
  · have hL : L = [] := by
      rcases Nat.eq_zero_or_pos L.length with h | h
      · exact List.length_eq_zero_iff.1 h
      · obtain ⟨b, off, e, _⟩ := hs h; cases e
    subst hL
    refine g_enter0 T [] [] [] Try.func60 rfl Try.ntmps60 rfl (Kn.start _) ?_
    (repeat (refine gG ?_; try intro _))
    refine gk_own 0 3 1 (IE .i64) ?_
    refine gk_ret hT rfl rfl (.tmp rfl .nil) (fun w' hk => ?_)
    exact Ret.mk (.slice none 0 0) trivial rfl hk sA
  · refine g_enter0 T [] [] [sl (some a) 1 (IE .i64) L] Try.func60 rfl Try.ntmps60 rfl ((Kn.start w).argR hs (by decide) (fun _ h => by cases h)) ?_
    (repeat (refine gG1 ?_; try intro _))
    refine g_mv rfl (mv_empty 1 (IE .i64) rfl hT rfl rfl rfl rfl rfl (fun g => ?_))
    (repeat (refine gG1 ?_; try intro _))
    refine g_mv rfl (mv_append (L := []) rfl L rfl rfl rfl rfl elt_I (by intro _; first | ((repeat (first | with_reducible exact Upd.here _ | with_reducible apply Upd.there)); done) | ((repeat (first | exact Upd.here _ | apply Upd.there)); done) | fail) (src_R mE) hn (by intro x j; rfl) (by simp [maxLen]; omega) (by simp; omega) (Nat.zero_le _) (fun v => ?_))
    (repeat (refine gG1 ?_; try intro _))
    refine gk_ret hT rfl rfl (.tmp rfl .nil) (fun w' hk => ?_)
    exact Ret.mk v trivial rfl hk sA
theorem clone_I (A : Option Addr) (n c : Nat) (L : List Int) (w : World) (hn : n = L.length) (hb : n ≤ 100000000) (hs : Sl w A 1 (IE .i64) L) :
    Calls Try.prog 60 [.slice A n c].toArray w (Ret (fun s : SlV => s.Ok L.length) SlV.v (fun s => [sl s.A 1 (IE .i64) L]) w) := by
  rcases A with _ | a
  · have hL : L = [] := by
      rcases Nat.eq_zero_or_pos L.length with h | h
      · exact List.length_eq_zero_iff.1 h
      · obtain ⟨b, off, e, _⟩ := hs h; cases e
    subst hL
    refine g_enter0 T [] [] [] Try.func60 rfl Try.ntmps60 rfl (Kn.start _) ?_
    (repeat (refine gG ?_; try intro _))
    refine gk_nilsl none 1 (IE .i64) ?_
    refine gk_ret hT rfl rfl (.tmp rfl .nil) (fun w' hk => ?_)
    exact Ret.mk ⟨none, 0, 0⟩ ⟨rfl, Nat.le_refl _, Nat.zero_le _, fun _ => rfl⟩ rfl hk sA
  · refine g_enter0 T [] [] [sl (some a) 1 (IE .i64) L] Try.func60 rfl Try.ntmps60 rfl ((Kn.start w).argR hs (by decide) (fun _ h => by cases h)) ?_
    (repeat (refine gG1 ?_; try intro _))
    refine g_mv rfl (mv_empty 1 (IE .i64) rfl hT rfl rfl rfl rfl rfl (fun g => ?_))
    (repeat (refine gG1 ?_; try intro _))
    refine g_mv rfl (mv_append (L := []) rfl L rfl rfl rfl rfl elt_I (by intro _; first | ((repeat (first | with_reducible exact Upd.here _ | with_reducible apply Upd.there)); done) | ((repeat (first | exact Upd.here _ | apply Upd.there)); done) | fail) (src_R mE) hn (by intro x j; rfl) (by simp [maxLen]; omega) (by simp; omega) (Nat.zero_le _) (fun v => ?_))
    (repeat (refine gG1 ?_; try intro _))
    refine gk_freeze _ (by intro _; first | ((repeat (first | with_reducible exact Upd.here _ | with_reducible apply Upd.there)); done) | ((repeat (first | exact Upd.here _ | apply Upd.there)); done) | fail) (fun A2 c2 hA2 hA21 hA22 hA23 => ?_); subst hA2
    refine gk_ret hT rfl rfl (.tmp rfl .nil) (fun w' hk => ?_)
    exact Ret.mk ⟨A2, _, c2⟩ ⟨by simp, hA21, hA22, hA23⟩ rfl hk sA
theorem mark_ext {x y : MarkD} (h : conjP [(x.s, y.s), (x.n, y.n)]) : x = y := by
  obtain ⟨a, b⟩ := x
  obtain ⟨a', b'⟩ := y
  obtain ⟨h1, h2, _⟩ := h
  dsimp only at h1 h2
  subst h1; subst h2; rfl
theorem equal_I (A A' : Option Addr) (n c n' c' : Nat) (L L' : List Int) (w : World) (hn : n = L.length) (hn' : n' = L'.length) (h9 : n ≤ 9223372036854775807) (hs : Sl w A 1 (IE .i64) L) (hs' : Sl w A' 1 (IE .i64) L') :
    Calls Try.prog 48 [.slice A n c, .slice A' n' c'].toArray w fun e w' => e = .returned (.bool (tB (L = L'))) ∧ Below w.heap.size w w' := by
  by_cases hne : n = n'
  · subst hne
    refine g_enter0 T [] [] [sl A' 1 (IE .i64) L', sl A 1 (IE .i64) L] Try.func48 rfl Try.ntmps48 rfl (((Kn.start w).argR hs (by decide) (fun _ h => by cases h)).argR hs' (by decide) (fun _ h => by cases h)) ?_
    (repeat' (first | (refine gG ?_; try intro _) | ((first | refine g_split rfl rfl tE (fun _ => ?_) (fun _ => ?_) | refine gk_cond rfl rfl tE (fun _ => ?_) (fun _ => ?_)) <;> (try first | (exfalso; omega; done) | (rename_i hx; exact absurd rfl hx) | (rename_i hx; cases hx; done)))))
    refine gk_loop (fun k : Nat => k ≤ n ∧ ∀ i, i < k → L[i]? = L'[i]?) (fun k => [(0, .slice A n c), (1, .slice A' n c'), (12, .int .i64 n), (13, .int .i64 k)]) (fun _ => []) (fun _ => [sl A' 1 (IE .i64) L', sl A 1 (IE .i64) L]) (fun k => n - k) 0 rfl ⟨Nat.zero_le _, fun i hi => absurd hi (Nat.not_lt_zero _)⟩ ⟨rfl, rfl, rfl, rfl, trivial⟩ sL sS ?_
    rintro k ⟨hk, hp⟩
    (repeat (refine gG ?_; try intro _))
    refine gk_cond rfl rfl (tells_tB _) (fun h1 => ?_) (fun h1 => ?_)
    · have hkn : k < n := by omega
      refine gk_elem (enc := (IE .i64)) (L := L) k mE (by omega) (by decide) (fun b off y eA hy => ?_)
      refine gk_elem (enc := (IE .i64)) (L := L') k mE (by omega) (by decide) (fun b' off' y' eA' hy' => ?_)
      subst eA
      subst eA'
      (repeat (refine gG ?_; try intro _))
      refine gk_drawn_at [0, 1] rfl rfl (by kernel_rfl) ?_
      (repeat (first | refine ga_nil (by decide +kernel) ?_ | refine ga_take (by decide +kernel) rfl rfl (ys_ev (nw := true) hT rfl sI) sF ?_ | refine ga_skip (by decide +kernel) rfl rfl sF ?_ | refine ga_take (by decide +kernel) rfl rfl (ys_blk hT rfl rfl mE rfl rfl) sF ?_ | refine ga_take (by decide +kernel) rfl rfl (ys_row hT rfl rfl mE rfl rfl) sF ?_ | refine ga_take (by decide +kernel) rfl rfl (ys_row0 hT rfl rfl mE rfl rfl) sF ?_ | (refine ga_mv (by decide +kernel) rfl ?_; (first | (refine mv_box rfl rfl rfl rfl ?_; intro _) | (refine mv_alloc rfl hT rfl rfl ?_; intro _) | refine mv_store hT rfl rfl rfl rfl rfl rfl sO rfl ?_ | (refine mv_buildSlice rfl hT rfl rfl rfl rfl rfl rfl rfl rfl ?_; intro _)); refine ⟨sF, ?_⟩) | refine ga_take (by decide +kernel) rfl rfl (ys_eql rfl rfl rfl rfl rfl (by kernel_rfl)) sF ?_ | refine ga_take (by decide +kernel) rfl rfl (ys_neq rfl rfl rfl rfl rfl (by kernel_rfl)) sF ?_))
      (repeat (refine gG ?_; try intro _))
      refine gk_cond rfl rfl (tells_tB _) (fun h2 => ?_) (fun h2 => ?_)
      · (repeat (refine gG ?_; try intro _))
        refine gk_ret hT rfl rfl (.tmp rfl .nil) (fun w' hk => ?_)
        refine ⟨?_, hk.toBelow⟩
        rw [tB_false (list_ne hy hy' (fun e => h2 (by subst e; exact rfl)))]
        rfl
      · (repeat (refine gG ?_; try intro _))
        refine gk_again rfl (k + 1) ⟨by omega, fun i hi => ?_⟩ (by omega) ⟨rfl, rfl, rfl, rfl, trivial⟩ sL sS
        by_cases e : i = k
        · subst e
          rw [hy, hy', show y = y' from id (Classical.byContradiction h2)]
        · exact hp i (by omega)
    · (repeat (refine gG ?_; try intro _))
      refine gk_ret hT rfl rfl (.tmp rfl .nil) (fun w' hk => ?_)
      refine ⟨?_, hk.toBelow⟩
      rw [tB_true (list_eq (by omega) (fun i hi => hp i (by omega)))]
      rfl
  · refine g_enter0 T [] [] [] Try.func48 rfl Try.ntmps48 rfl (Kn.start _) ?_
    (repeat' (first | (refine gG ?_; try intro _) | ((first | refine g_split rfl rfl tE (fun _ => ?_) (fun _ => ?_) | refine gk_cond rfl rfl tE (fun _ => ?_) (fun _ => ?_)) <;> (try first | (exfalso; omega; done) | (rename_i hx; exact absurd rfl hx) | (rename_i hx; cases hx; done)))))
    refine gk_ret hT rfl rfl (.tmp rfl .nil) (fun w' hk => ?_)
    refine ⟨?_, hk.toBelow⟩
    rw [tB_false (fun e => hne (by rw [hn, hn', e]))]
    rfl
theorem equal_U (A A' : Option Addr) (n c n' c' : Nat) (L L' : List Int) (w : World) (hn : n = L.length) (hn' : n' = L'.length) (h9 : n ≤ 9223372036854775807) (hs : Sl w A 1 (IE .u64) L) (hs' : Sl w A' 1 (IE .u64) L') :
    Calls Try.prog 21 [.slice A n c, .slice A' n' c'].toArray w fun e w' => e = .returned (.bool (tB (L = L'))) ∧ Below w.heap.size w w' := by
  by_cases hne : n = n'
  · subst hne
    refine g_enter0 T [] [] [sl A' 1 (IE .u64) L', sl A 1 (IE .u64) L] Try.func21 rfl Try.ntmps21 rfl (((Kn.start w).argR hs (by decide) (fun _ h => by cases h)).argR hs' (by decide) (fun _ h => by cases h)) ?_
    (repeat' (first | (refine gG ?_; try intro _) | ((first | refine g_split rfl rfl tE (fun _ => ?_) (fun _ => ?_) | refine gk_cond rfl rfl tE (fun _ => ?_) (fun _ => ?_)) <;> (try first | (exfalso; omega; done) | (rename_i hx; exact absurd rfl hx) | (rename_i hx; cases hx; done)))))
    refine gk_loop (fun k : Nat => k ≤ n ∧ ∀ i, i < k → L[i]? = L'[i]?) (fun k => [(0, .slice A n c), (1, .slice A' n c'), (12, .int .i64 n), (13, .int .i64 k)]) (fun _ => []) (fun _ => [sl A' 1 (IE .u64) L', sl A 1 (IE .u64) L]) (fun k => n - k) 0 rfl ⟨Nat.zero_le _, fun i hi => absurd hi (Nat.not_lt_zero _)⟩ ⟨rfl, rfl, rfl, rfl, trivial⟩ sL sS ?_
    rintro k ⟨hk, hp⟩
    (repeat (refine gG ?_; try intro _))
    refine gk_cond rfl rfl (tells_tB _) (fun h1 => ?_) (fun h1 => ?_)
    · have hkn : k < n := by omega
      refine gk_elem (enc := (IE .u64)) (L := L) k mE (by omega) (by decide) (fun b off y eA hy => ?_)
      refine gk_elem (enc := (IE .u64)) (L := L') k mE (by omega) (by decide) (fun b' off' y' eA' hy' => ?_)
      subst eA
      subst eA'
      (repeat (refine gG ?_; try intro _))
      refine gk_drawn_at [0, 1] rfl rfl (by kernel_rfl) ?_
      (repeat (first | refine ga_nil (by decide +kernel) ?_ | refine ga_take (by decide +kernel) rfl rfl (ys_ev (nw := true) hT rfl sI) sF ?_ | refine ga_skip (by decide +kernel) rfl rfl sF ?_ | refine ga_take (by decide +kernel) rfl rfl (ys_blk hT rfl rfl mE rfl rfl) sF ?_ | refine ga_take (by decide +kernel) rfl rfl (ys_row hT rfl rfl mE rfl rfl) sF ?_ | refine ga_take (by decide +kernel) rfl rfl (ys_row0 hT rfl rfl mE rfl rfl) sF ?_ | (refine ga_mv (by decide +kernel) rfl ?_; (first | (refine mv_box rfl rfl rfl rfl ?_; intro _) | (refine mv_alloc rfl hT rfl rfl ?_; intro _) | refine mv_store hT rfl rfl rfl rfl rfl rfl sO rfl ?_ | (refine mv_buildSlice rfl hT rfl rfl rfl rfl rfl rfl rfl rfl ?_; intro _)); refine ⟨sF, ?_⟩) | refine ga_take (by decide +kernel) rfl rfl (ys_eql rfl rfl rfl rfl rfl (by kernel_rfl)) sF ?_ | refine ga_take (by decide +kernel) rfl rfl (ys_neq rfl rfl rfl rfl rfl (by kernel_rfl)) sF ?_))
      (repeat (refine gG ?_; try intro _))
      refine gk_cond rfl rfl (tells_tB _) (fun h2 => ?_) (fun h2 => ?_)
      · (repeat (refine gG ?_; try intro _))
        refine gk_ret hT rfl rfl (.tmp rfl .nil) (fun w' hk => ?_)
        refine ⟨?_, hk.toBelow⟩
        rw [tB_false (list_ne hy hy' (fun e => h2 (by subst e; exact rfl)))]
        rfl
      · (repeat (refine gG ?_; try intro _))
        refine gk_again rfl (k + 1) ⟨by omega, fun i hi => ?_⟩ (by omega) ⟨rfl, rfl, rfl, rfl, trivial⟩ sL sS
        by_cases e : i = k
        · subst e
          rw [hy, hy', show y = y' from id (Classical.byContradiction h2)]
        · exact hp i (by omega)
    · (repeat (refine gG ?_; try intro _))
      refine gk_ret hT rfl rfl (.tmp rfl .nil) (fun w' hk => ?_)
      refine ⟨?_, hk.toBelow⟩
      rw [tB_true (list_eq (by omega) (fun i hi => hp i (by omega)))]
      rfl
  · refine g_enter0 T [] [] [] Try.func21 rfl Try.ntmps21 rfl (Kn.start _) ?_
    (repeat' (first | (refine gG ?_; try intro _) | ((first | refine g_split rfl rfl tE (fun _ => ?_) (fun _ => ?_) | refine gk_cond rfl rfl tE (fun _ => ?_) (fun _ => ?_)) <;> (try first | (exfalso; omega; done) | (rename_i hx; exact absurd rfl hx) | (rename_i hx; cases hx; done)))))
    refine gk_ret hT rfl rfl (.tmp rfl .nil) (fun w' hk => ?_)
    refine ⟨?_, hk.toBelow⟩
    rw [tB_false (fun e => hne (by rw [hn, hn', e]))]
    rfl
theorem equal_M (A A' : Option Addr) (n c n' c' : Nat) (L L' : List MarkD) (w : World) (hn : n = L.length) (hn' : n' = L'.length) (h9 : n ≤ 9223372036854775807) (hs : Sl w A 2 ME L) (hs' : Sl w A' 2 ME L') :
    Calls Try.prog 47 [.slice A n c, .slice A' n' c'].toArray w fun e w' => e = .returned (.bool (tB (L = L'))) ∧ Below w.heap.size w w' := by
  by_cases hne : n = n'
  · subst hne
    refine g_enter0 T [] [] [sl A' 2 ME L', sl A 2 ME L] Try.func47 rfl Try.ntmps47 rfl (((Kn.start w).argR hs (by decide) (fun _ h => by cases h)).argR hs' (by decide) (fun _ h => by cases h)) ?_
    (repeat' (first | (refine gG ?_; try intro _) | ((first | refine g_split rfl rfl tE (fun _ => ?_) (fun _ => ?_) | refine gk_cond rfl rfl tE (fun _ => ?_) (fun _ => ?_)) <;> (try first | (exfalso; omega; done) | (rename_i hx; exact absurd rfl hx) | (rename_i hx; cases hx; done)))))
    refine gk_loop (fun k : Nat => k ≤ n ∧ ∀ i, i < k → L[i]? = L'[i]?) (fun k => [(0, .slice A n c), (1, .slice A' n c'), (12, .int .i64 n), (13, .int .i64 k)]) (fun _ => []) (fun _ => [sl A' 2 ME L', sl A 2 ME L]) (fun k => n - k) 0 rfl ⟨Nat.zero_le _, fun i hi => absurd hi (Nat.not_lt_zero _)⟩ ⟨rfl, rfl, rfl, rfl, trivial⟩ sL sS ?_
    rintro k ⟨hk, hp⟩
    (repeat (refine gG ?_; try intro _))
    refine gk_cond rfl rfl (tells_tB _) (fun h1 => ?_) (fun h1 => ?_)
    · have hkn : k < n := by omega
      refine gk_elem (enc := ME) (L := L) k mE (by omega) (by decide) (fun b off y eA hy => ?_)
      refine gk_elem (enc := ME) (L := L') k mE (by omega) (by decide) (fun b' off' y' eA' hy' => ?_)
      subst eA
      subst eA'
      (repeat (refine gG ?_; try intro _))
      refine gk_drawn_at [0, 1] rfl rfl (by kernel_rfl) ?_
      (repeat (first | refine ga_nil (by decide +kernel) ?_ | refine ga_take (by decide +kernel) rfl rfl (ys_ev (nw := true) hT rfl sI) sF ?_ | refine ga_skip (by decide +kernel) rfl rfl sF ?_ | refine ga_take (by decide +kernel) rfl rfl (ys_blk hT rfl rfl mE rfl rfl) sF ?_ | refine ga_take (by decide +kernel) rfl rfl (ys_row hT rfl rfl mE rfl rfl) sF ?_ | refine ga_take (by decide +kernel) rfl rfl (ys_row0 hT rfl rfl mE rfl rfl) sF ?_ | (refine ga_mv (by decide +kernel) rfl ?_; (first | (refine mv_box rfl rfl rfl rfl ?_; intro _) | (refine mv_alloc rfl hT rfl rfl ?_; intro _) | refine mv_store hT rfl rfl rfl rfl rfl rfl sO rfl ?_ | (refine mv_buildSlice rfl hT rfl rfl rfl rfl rfl rfl rfl rfl ?_; intro _)); refine ⟨sF, ?_⟩) | refine ga_take (by decide +kernel) rfl rfl (ys_eql rfl rfl rfl rfl rfl (by kernel_rfl)) sF ?_ | refine ga_take (by decide +kernel) rfl rfl (ys_neq rfl rfl rfl rfl rfl (by kernel_rfl)) sF ?_))
      (repeat (refine gG ?_; try intro _))
      refine gk_cond rfl rfl (tells_tB _) (fun h2 => ?_) (fun h2 => ?_)
      · (repeat (refine gG ?_; try intro _))
        refine gk_ret hT rfl rfl (.tmp rfl .nil) (fun w' hk => ?_)
        refine ⟨?_, hk.toBelow⟩
        rw [tB_false (list_ne hy hy' (fun e => h2 (by subst e; exact ⟨rfl, rfl, trivial⟩)))]
        rfl
      · (repeat (refine gG ?_; try intro _))
        refine gk_again rfl (k + 1) ⟨by omega, fun i hi => ?_⟩ (by omega) ⟨rfl, rfl, rfl, rfl, trivial⟩ sL sS
        by_cases e : i = k
        · subst e
          rw [hy, hy', show y = y' from mark_ext (Classical.byContradiction h2)]
        · exact hp i (by omega)
    · (repeat (refine gG ?_; try intro _))
      refine gk_ret hT rfl rfl (.tmp rfl .nil) (fun w' hk => ?_)
      refine ⟨?_, hk.toBelow⟩
      rw [tB_true (list_eq (by omega) (fun i hi => hp i (by omega)))]
      rfl
  · refine g_enter0 T [] [] [] Try.func47 rfl Try.ntmps47 rfl (Kn.start _) ?_
    (repeat' (first | (refine gG ?_; try intro _) | ((first | refine g_split rfl rfl tE (fun _ => ?_) (fun _ => ?_) | refine gk_cond rfl rfl tE (fun _ => ?_) (fun _ => ?_)) <;> (try first | (exfalso; omega; done) | (rename_i hx; exact absurd rfl hx) | (rename_i hx; cases hx; done)))))
    refine gk_ret hT rfl rfl (.tmp rfl .nil) (fun w' hk => ?_)
    refine ⟨?_, hk.toBelow⟩
    rw [tB_false (fun e => hne (by rw [hn, hn', e]))]
    rfl
end Go.Proofs.Ytgpfedmfbkhhcaa.Ct

