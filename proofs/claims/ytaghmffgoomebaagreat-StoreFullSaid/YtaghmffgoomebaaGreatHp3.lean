/- container/heap's up and down, at whatever interface value that is a heap. container/heap: Push, Pop, Remove, Fix. -/
import Derived.Test.YtaghmffgoomebaaGreatPq4
import Derived.Test.YtaghmffgoomebaaGreatTab
namespace Go.Proofs.YtaghmffgoomebaaGreat.Hp
open Go.RowKit Mem Gx
set_option linter.unusedVariables false
set_option linter.unusedSimpArgs false
set_option maxRecDepth 100000
set_option maxHeartbeats 1000000
/-- An interface value that is a heap: what it holds as a fact, its methods. -/
structure HO (σ α : Type) where
  iv : Value
  F : σ → List α → Fact
  lt : α → α → Prop
  ord : LtO lt
  ok : List α → Prop
  okp : ∀ L L', L'.Perm L → ok L → ok L'
  okl : ∀ L x, ok (L ++ [x]) → ok L
  xv : α → Value
  fin : ∀ s L w, (F s L).p w → ∃ E : List Nat, ∀ b, (F s L).S b ↔ b ∈ E
  len : ∀ s L w, Rd1 w (F s L) → ok L → L.length ≤ 100000 → IMeth Tryz.prog iv "Len" [] w fun e w' => e = .returned (.int .i64 (L.length : Int)) ∧ Below w.heap.size w w'
  less : ∀ s L w (i j : Nat) (x y : α), Rd1 w (F s L) → ok L → L.length ≤ 100000 → L[i]? = some x → L[j]? = some y → IMeth Tryz.prog iv "Less" [.int .i64 (i : Int), .int .i64 (j : Int)] w fun e w' => e = .returned (.bool (tB (lt x y))) ∧ Below w.heap.size w w'
  swap : ∀ s L w (i j : Nat) (x y : α), Rd1 w (F s L) → ok L → L.length ≤ 100000 → L[i]? = some x → L[j]? = some y → IMeth Tryz.prog iv "Swap" [.int .i64 (i : Int), .int .i64 (j : Int)] w (RetM (F s L) (fun _ : Value => True) (fun v => v) (fun _ => F s (swp L i j x y)) w)
  push : ∀ s L w x, Rd1 w (F s L) → ok (L ++ [x]) → L.length ≤ 100000 → IMeth Tryz.prog iv "Push" [xv x] w (RetM (F s L) (fun _ : σ × Value => True) (fun r => r.2) (fun r => F r.1 (L ++ [x])) w)
  pop : ∀ s L x w, Rd1 w (F s (L ++ [x])) → ok (L ++ [x]) → L.length ≤ 100000 → IMeth Tryz.prog iv "Pop" [] w (RetM (F s (L ++ [x])) (fun _ : σ => True) (fun _ => xv x) (fun s' => F s' L) w)
variable {σ α : Type} (H : HO σ α)
theorem up_any (s : σ) (L : List α) (j n : Nat) (w : World) (h : Rd1 w (H.F s L)) (hok : H.ok L) (hL : L.length ≤ 100000) (hjn : j < n) (hn : n ≤ L.length) (hu : UInv H.lt L n j) :
    Calls Tryz.prog 125 [H.iv, .int .i64 (j : Int)].toArray w (RetM (H.F s L) (fun L' : List α => L'.Perm L ∧ HeapN H.lt L' n ∧ ∀ k, n ≤ k → L'[k]? = L[k]?) (fun _ => .tuple #[]) (fun L' => H.F s L') w) := by
  obtain ⟨E, hE⟩ := H.fin s L w h.1
  refine g_enter0 T E [H.F s L] [] Tryz.func125 rfl Tryz.ntmps125 rfl (Kn.startM h (fun b hb => (hE b).1 hb) (fun _ h => by cases h)) ?_
  refine gk_loop_sel (fun (q : Nat × (List α)) => match q with | (j', L') => (j' < n ∧ L'.Perm L ∧ UInv H.lt L' n j' ∧ ∀ k, n ≤ k → L'[k]? = L[k]?)) (fun (q : Nat × (List α)) => match q with | (j', L') => [(0, H.iv), (1, .int .i64 (j' : Int))]) (fun (q : Nat × (List α)) => match q with | (j', L') => [H.F s L']) (fun (q : Nat × (List α)) => match q with | (j', L') => []) (fun (q : Nat × (List α)) => match q with | (j', L') => j') (j, L) rfl ⟨hjn, List.Perm.refl _, hu, fun _ _ => rfl⟩ (by repeat (first | exact trivial | refine ⟨rfl, ?_⟩)) sA sS ?_
  rintro ⟨j', L'⟩ hI
  replace hI : (j' < n ∧ L'.Perm L ∧ UInv H.lt L' n j' ∧ ∀ k, n ≤ k → L'[k]? = L[k]?) := hI
  change GK _ _ [(0, H.iv), (1, .int .i64 (j' : Int))] [H.F s L'] []
  obtain ⟨hj', hp, hu', hfar⟩ := hI
  have hl' : L'.length = L.length := hp.length_eq
  have hok' := H.okp _ _ hp hok
  (repeat (refine gG ?_; try intro _))
  rcases Nat.eq_zero_or_pos j' with h0 | h0
  · subst h0
    refine g_pure false hT rfl rfl rfl (by omega) ?_
    refine g_say 7 (.int .i64 0) rfl (by rfl) ?_
    (repeat' (first | (refine gG ?_; try intro _) | ((first | refine g_split rfl rfl tE (fun _ => ?_) (fun _ => ?_) | refine gk_cond rfl rfl tE (fun _ => ?_) (fun _ => ?_)) <;> (try first | (exfalso; omega; done) | (rename_i hx; exact absurd rfl hx) | (rename_i hx; cases hx; done)))))
    refine gk_fin hT rfl rfl .nil (fun w' hk => ?_)
    exact RetM.mk L' ⟨hp, hu'.zero, hfar⟩ rfl hk (fun b hb => (hE b).2 hb) mE
  · obtain ⟨i, hi⟩ : ∃ i, i = (j' - 1) / 2 := ⟨_, rfl⟩
    obtain ⟨x, hx⟩ : ∃ x, L'[j']? = some x := ⟨L'[j'], List.getElem?_eq_getElem (by omega)⟩
    obtain ⟨p, hpp⟩ : ∃ p, L'[i]? = some p := ⟨L'[i], List.getElem?_eq_getElem (by omega)⟩
    (repeat (refine gG ?_; try intro _))
    refine g_say 4 (.int .i64 (i : Int)) rfl (by first | (congr 1; done) | (congr 1; omega)) ?_
    refine g_dec false rfl rfl (tB_false (by omega)) ?_
    (repeat (refine gG ?_; try intro _))
    refine g_mv rfl (mv_inv_bel rfl rfl rfl rfl rfl (fun w hk => H.less s L' w j' i x p (hk.rO mE) hok' (by omega) hx hpp) ?_)
    (repeat (refine gG ?_; try intro _))
    by_cases hlt : H.lt x p
    · refine gk_cond_f rfl (congrArg some (congrArg Value.bool (by rw [tB_true hlt]; rfl))) ?_
      (repeat (refine gG ?_; try intro _))
      refine g_mv rfl (mv_inv_mod rfl rfl rfl rfl rfl (fun w hk => H.swap s L' w i j' p x (hk.rO mE) hok' (by omega) hpp hx) (by intro _; first | ((repeat (first | with_reducible exact Upd.here _ | with_reducible apply Upd.there)); done) | ((repeat (first | exact Upd.here _ | apply Upd.there)); done) | fail) (fun v _ => ?_))
      (repeat (refine gG ?_; try intro _))
      refine gk_again_sel rfl (i, swp L' i j' p x) ⟨by omega, (swp_perm hpp hx).trans hp, by
        have := hu'.step H.ord h0 hj' (by omega) hx (by rw [← hi]; exact hpp) hlt
        rw [← hi] at this
        exact this, fun k hk => by rw [swp_far (by omega) (by omega) (n := n) (by omega) (by omega) hk]; exact hfar k hk⟩ (by dsimp only; omega) (by repeat (first | exact trivial | refine ⟨rfl, ?_⟩)) sA sS
    · refine gk_cond_t rfl (congrArg some (congrArg Value.bool (by rw [tB_false hlt]; rfl))) ?_
      (repeat (refine gG ?_; try intro _))
      refine gk_fin hT rfl rfl .nil (fun w' hk => ?_)
      exact RetM.mk L' ⟨hp, hu'.stop hx (by rw [← hi]; exact hpp) hlt, hfar⟩ rfl hk (fun b hb => (hE b).2 hb) mE
theorem DInv.mono {lt : α → α → Prop} {L : List α} {n i : Nat} {p q : Prop} (h : DInv lt L n i p) (hq : q → p) : DInv lt L n i q := ⟨fun k h0 hk hp hm => h.e k h0 hk hp (hm.imp id hq), h.g⟩
theorem down_true {lt : α → α → Prop} {L' : List α} {n i i0 : Nat} {x : α} (e : tB ((i0 : Int) < i) = true) (h : DInv lt L' n i (i ≠ i0)) (hx : L'[i]? = some x) (hc : ∀ k, 0 < k → k < n → (k - 1) / 2 = i → ∀ z, L'[k]? = some z → ¬ lt z x) : HeapN lt L' n := fun k h0 hk =>
  h.stop hx hc k h0 hk (.inr (by have := tB_iff.1 e; omega))
theorem down_false {lt : α → α → Prop} {L L' : List α} {n i i0 : Nat} {x : α} (e : tB ((i0 : Int) < i) = false) (hi0 : i0 ≤ i) (h : DInv lt L' n i (i ≠ i0)) (hx : L'[i]? = some x) (hs : i = i0 → L' = L) (hc : ∀ k, 0 < k → k < n → (k - 1) / 2 = i → ∀ z, L'[k]? = some z → ¬ lt z x) : L' = L ∧ ∀ k, 0 < k → k < n → k ≠ i0 → Edge lt L k := by
  have e1 : i = i0 := by
    have : ¬ ((i0 : Int) < i) := fun h => by rw [tB_true h] at e; cases e
    omega
  subst e1
  obtain rfl := hs rfl
  exact ⟨rfl, fun k h0 hk hne => h.stop hx hc k h0 hk (.inl hne)⟩
theorem down_any (s : σ) (L : List α) (i0 n : Nat) (w : World) (h : Rd1 w (H.F s L)) (hok : H.ok L) (hL : L.length ≤ 100000) (hi0 : i0 < L.length) (hn : n ≤ L.length) (hd : DInv H.lt L n i0 False) :
    Calls Tryz.prog 137 [H.iv, .int .i64 (i0 : Int), .int .i64 (n : Int)].toArray w (RetM (H.F s L) (fun r : List α × Bool => r.1.Perm L ∧ (∀ k, n ≤ k → r.1[k]? = L[k]?) ∧ (r.2 = true → HeapN H.lt r.1 n) ∧ (r.2 = false → r.1 = L ∧ ∀ k, 0 < k → k < n → k ≠ i0 → Edge H.lt L k)) (fun r => .bool r.2) (fun r => H.F s r.1) w) := by
  obtain ⟨E, hE⟩ := H.fin s L w h.1
  refine g_enter0 T E [H.F s L] [] Tryz.func137 rfl Tryz.ntmps137 rfl (Kn.startM h (fun b hb => (hE b).1 hb) (fun _ h => by cases h)) ?_
  (repeat (refine gG ?_; try intro _))
  refine gk_loop_sel (fun (q : Nat × (List α)) => match q with | (i, L') => (i0 ≤ i ∧ i < L.length ∧ L'.Perm L ∧ (∀ k, n ≤ k → L'[k]? = L[k]?) ∧ DInv H.lt L' n i (i ≠ i0) ∧ (i = i0 → L' = L))) (fun (q : Nat × (List α)) => match q with | (i, L') => [(0, H.iv), (1, .int .i64 (i0 : Int)), (2, .int .i64 (n : Int)), (7, .int .i64 (i : Int))]) (fun (q : Nat × (List α)) => match q with | (i, L') => [H.F s L']) (fun (q : Nat × (List α)) => match q with | (i, L') => []) (fun (q : Nat × (List α)) => match q with | (i, L') => L.length - i) (i0, L) rfl ⟨Nat.le_refl _, hi0, List.Perm.refl _, fun _ _ => rfl, hd.mono (fun h => absurd rfl h), fun _ => rfl⟩ (by repeat (first | exact trivial | refine ⟨rfl, ?_⟩)) sA sS ?_
  rintro ⟨i, L'⟩ hI
  replace hI : (i0 ≤ i ∧ i < L.length ∧ L'.Perm L ∧ (∀ k, n ≤ k → L'[k]? = L[k]?) ∧ DInv H.lt L' n i (i ≠ i0) ∧ (i = i0 → L' = L)) := hI
  change GK _ _ [(0, H.iv), (1, .int .i64 (i0 : Int)), (2, .int .i64 (n : Int)), (7, .int .i64 (i : Int))] [H.F s L'] []
  obtain ⟨hi0, hil, hp, hfar, hd', hsame⟩ := hI
  have hl' : L'.length = L.length := hp.length_eq
  have hok' := H.okp _ _ hp hok
  obtain ⟨x, hx⟩ : ∃ x, L'[i]? = some x := ⟨L'[i], List.getElem?_eq_getElem (by omega)⟩
  by_cases hc : n ≤ 2 * i + 1
  · (repeat' (first | (refine gG ?_; try intro _) | ((first | refine g_split rfl rfl tE (fun _ => ?_) (fun _ => ?_) | refine gk_cond rfl rfl tE (fun _ => ?_) (fun _ => ?_)) <;> (try first | (exfalso; omega; done) | (rename_i hx; exact absurd rfl hx) | (rename_i hx; cases hx; done)))))
    refine gk_ret hT rfl rfl (.tmp rfl .nil) (fun w' hk => ?_)
    have hno : ∀ k, 0 < k → k < n → (k - 1) / 2 = i → ∀ z, L'[k]? = some z → ¬ H.lt z x := fun k h0 hk e => absurd hk (by omega)
    exact RetM.mk (L', tB ((i0 : Int) < i)) ⟨hp, hfar, fun e => down_true e hd' hx hno, fun e => down_false e hi0 hd' hx hsame hno⟩ rfl hk (fun b hb => (hE b).2 hb) mE
  · obtain ⟨u, hu⟩ : ∃ u, L'[2 * i + 1]? = some u := ⟨L'[2 * i + 1], List.getElem?_eq_getElem (by omega)⟩
    by_cases h2 : 2 * i + 2 < n
    · obtain ⟨z, hz⟩ : ∃ z, L'[2 * i + 2]? = some z := ⟨L'[2 * i + 2], List.getElem?_eq_getElem (by omega)⟩
      (repeat' (first | (refine gG ?_; try intro _) | ((first | refine g_split rfl rfl tE (fun _ => ?_) (fun _ => ?_) | refine gk_cond rfl rfl tE (fun _ => ?_) (fun _ => ?_)) <;> (try first | (exfalso; omega; done) | (rename_i hx; exact absurd rfl hx) | (rename_i hx; cases hx; done)))))
      refine g_say 30 (.int .i64 ((2 * i + 2 : Nat) : Int)) rfl (by first | (congr 1; done) | (congr 1; omega)) ?_
      refine g_say 31 (.int .i64 ((2 * i + 1 : Nat) : Int)) rfl (by first | (congr 1; done) | (congr 1; omega)) ?_
      refine g_mv rfl (mv_inv_bel rfl rfl rfl rfl rfl (fun w hk => H.less s L' w (2 * i + 2) (2 * i + 1) z u (hk.rO mE) hok' (by omega) hz hu) ?_)
      (repeat (refine gG ?_; try intro _))
      by_cases l1 : H.lt z u
      · refine gk_cond_t rfl (congrArg some (congrArg Value.bool (tB_true l1))) ?_
        obtain ⟨j, hj⟩ : ∃ j, j = 2 * i + 2 := ⟨_, rfl⟩
        have hm : MinC H.lt L' n i j z := by rw [hj]; exact MinC.right (by omega) h2 hz hu (H.ord.asym l1) (H.ord.irr z)
        have hjn := hm.jn
        obtain ⟨y, hy⟩ : ∃ y, y = z := ⟨_, rfl⟩
        subst hy
        (repeat (refine gG ?_; try intro _))
        refine g_say 36 (.int .i64 (j : Int)) rfl (by first | (congr 1; done) | (congr 1; omega)) ?_
        refine g_mv rfl (mv_inv_bel rfl rfl rfl rfl rfl (fun w hk => H.less s L' w j i y x (hk.rO mE) hok' (by omega) hm.at_ hx) ?_)
        (repeat (refine gG ?_; try intro _))
        by_cases l2 : H.lt y x
        · refine gk_cond_f rfl (congrArg some (congrArg Value.bool (by rw [tB_true l2]; rfl))) ?_
          (repeat (refine gG ?_; try intro _))
          refine g_say 42 (.int .i64 (j : Int)) rfl (by first | (congr 1; done) | (congr 1; omega)) ?_
          refine g_mv rfl (mv_inv_mod rfl rfl rfl rfl rfl (fun w hk => H.swap s L' w i j x y (hk.rO mE) hok' (by omega) hx hm.at_) (by intro _; first | ((repeat (first | with_reducible exact Upd.here _ | with_reducible apply Upd.there)); done) | ((repeat (first | exact Upd.here _ | apply Upd.there)); done) | fail) (fun v _ => ?_))
          (repeat (refine gG ?_; try intro _))
          refine gk_say 7 (.int .i64 (j : Int)) rfl (by first | (congr 1; done) | (congr 1; omega)) ?_
          refine gk_again_sel rfl (j, swp L' i j x y) ⟨by omega, by omega, (swp_perm hx hm.at_).trans hp, fun k hk => (swp_far (by omega) (by omega) (n := n) (by omega) (by omega) hk).trans (hfar k hk), (hd'.step H.ord (by omega) hx hm l2).mono fun _ => by omega, fun e => by omega⟩ (by dsimp only; omega) (by repeat (first | exact trivial | refine ⟨rfl, ?_⟩)) sA sS
        · refine gk_cond_t rfl (congrArg some (congrArg Value.bool (by rw [tB_false l2]; rfl))) ?_
          (repeat (refine gG ?_; try intro _))
          refine gk_ret hT rfl rfl (.tmp rfl .nil) (fun w' hk => ?_)
          exact RetM.mk (L', tB ((i0 : Int) < i)) ⟨hp, hfar, fun e => down_true e hd' hx (hm.no H.ord l2), fun e => down_false e hi0 hd' hx hsame (hm.no H.ord l2)⟩ rfl hk (fun b hb => (hE b).2 hb) mE
      · refine gk_cond_f rfl (congrArg some (congrArg Value.bool (tB_false l1))) ?_
        obtain ⟨j, hj⟩ : ∃ j, j = 2 * i + 1 := ⟨_, rfl⟩
        have hm : MinC H.lt L' n i j u := by rw [hj]; exact MinC.left (by omega) (by omega) hu (fun v _ hv => by rw [hz] at hv; obtain rfl := Option.some.inj hv; exact l1) (H.ord.irr u)
        have hjn := hm.jn
        obtain ⟨y, hy⟩ : ∃ y, y = u := ⟨_, rfl⟩
        subst hy
        (repeat (refine gG ?_; try intro _))
        refine g_say 36 (.int .i64 (j : Int)) rfl (by first | (congr 1; done) | (congr 1; omega)) ?_
        refine g_mv rfl (mv_inv_bel rfl rfl rfl rfl rfl (fun w hk => H.less s L' w j i y x (hk.rO mE) hok' (by omega) hm.at_ hx) ?_)
        (repeat (refine gG ?_; try intro _))
        by_cases l2 : H.lt y x
        · refine gk_cond_f rfl (congrArg some (congrArg Value.bool (by rw [tB_true l2]; rfl))) ?_
          (repeat (refine gG ?_; try intro _))
          refine g_say 42 (.int .i64 (j : Int)) rfl (by first | (congr 1; done) | (congr 1; omega)) ?_
          refine g_mv rfl (mv_inv_mod rfl rfl rfl rfl rfl (fun w hk => H.swap s L' w i j x y (hk.rO mE) hok' (by omega) hx hm.at_) (by intro _; first | ((repeat (first | with_reducible exact Upd.here _ | with_reducible apply Upd.there)); done) | ((repeat (first | exact Upd.here _ | apply Upd.there)); done) | fail) (fun v _ => ?_))
          (repeat (refine gG ?_; try intro _))
          refine gk_say 7 (.int .i64 (j : Int)) rfl (by first | (congr 1; done) | (congr 1; omega)) ?_
          refine gk_again_sel rfl (j, swp L' i j x y) ⟨by omega, by omega, (swp_perm hx hm.at_).trans hp, fun k hk => (swp_far (by omega) (by omega) (n := n) (by omega) (by omega) hk).trans (hfar k hk), (hd'.step H.ord (by omega) hx hm l2).mono fun _ => by omega, fun e => by omega⟩ (by dsimp only; omega) (by repeat (first | exact trivial | refine ⟨rfl, ?_⟩)) sA sS
        · refine gk_cond_t rfl (congrArg some (congrArg Value.bool (by rw [tB_false l2]; rfl))) ?_
          (repeat (refine gG ?_; try intro _))
          refine gk_ret hT rfl rfl (.tmp rfl .nil) (fun w' hk => ?_)
          exact RetM.mk (L', tB ((i0 : Int) < i)) ⟨hp, hfar, fun e => down_true e hd' hx (hm.no H.ord l2), fun e => down_false e hi0 hd' hx hsame (hm.no H.ord l2)⟩ rfl hk (fun b hb => (hE b).2 hb) mE
    · have hm0 : MinC H.lt L' n i (2 * i + 1) u := MinC.left (by omega) (by omega) hu (fun v hv _ => absurd hv h2) (H.ord.irr u)
      (repeat' (first | (refine gG ?_; try intro _) | ((first | refine g_split rfl rfl tE (fun _ => ?_) (fun _ => ?_) | refine gk_cond rfl rfl tE (fun _ => ?_) (fun _ => ?_)) <;> (try first | (exfalso; omega; done) | (rename_i hx; exact absurd rfl hx) | (rename_i hx; cases hx; done)))))
      obtain ⟨j, hj⟩ : ∃ j, j = 2 * i + 1 := ⟨_, rfl⟩
      have hm : MinC H.lt L' n i j u := by rw [hj]; exact hm0
      have hjn := hm.jn
      obtain ⟨y, hy⟩ : ∃ y, y = u := ⟨_, rfl⟩
      subst hy
      (repeat (refine gG ?_; try intro _))
      refine g_say 36 (.int .i64 (j : Int)) rfl (by first | (congr 1; done) | (congr 1; omega)) ?_
      refine g_mv rfl (mv_inv_bel rfl rfl rfl rfl rfl (fun w hk => H.less s L' w j i y x (hk.rO mE) hok' (by omega) hm.at_ hx) ?_)
      (repeat (refine gG ?_; try intro _))
      by_cases l2 : H.lt y x
      · refine gk_cond_f rfl (congrArg some (congrArg Value.bool (by rw [tB_true l2]; rfl))) ?_
        (repeat (refine gG ?_; try intro _))
        refine g_say 42 (.int .i64 (j : Int)) rfl (by first | (congr 1; done) | (congr 1; omega)) ?_
        refine g_mv rfl (mv_inv_mod rfl rfl rfl rfl rfl (fun w hk => H.swap s L' w i j x y (hk.rO mE) hok' (by omega) hx hm.at_) (by intro _; first | ((repeat (first | with_reducible exact Upd.here _ | with_reducible apply Upd.there)); done) | ((repeat (first | exact Upd.here _ | apply Upd.there)); done) | fail) (fun v _ => ?_))
        (repeat (refine gG ?_; try intro _))
        refine gk_say 7 (.int .i64 (j : Int)) rfl (by first | (congr 1; done) | (congr 1; omega)) ?_
        refine gk_again_sel rfl (j, swp L' i j x y) ⟨by omega, by omega, (swp_perm hx hm.at_).trans hp, fun k hk => (swp_far (by omega) (by omega) (n := n) (by omega) (by omega) hk).trans (hfar k hk), (hd'.step H.ord (by omega) hx hm l2).mono fun _ => by omega, fun e => by omega⟩ (by dsimp only; omega) (by repeat (first | exact trivial | refine ⟨rfl, ?_⟩)) sA sS
      · refine gk_cond_t rfl (congrArg some (congrArg Value.bool (by rw [tB_false l2]; rfl))) ?_
        (repeat (refine gG ?_; try intro _))
        refine gk_ret hT rfl rfl (.tmp rfl .nil) (fun w' hk => ?_)
        exact RetM.mk (L', tB ((i0 : Int) < i)) ⟨hp, hfar, fun e => down_true e hd' hx (hm.no H.ord l2), fun e => down_false e hi0 hd' hx hsame (hm.no H.ord l2)⟩ rfl hk (fun b hb => (hE b).2 hb) mE
end Go.Proofs.YtaghmffgoomebaaGreat.Hp
namespace Go.Proofs.YtaghmffgoomebaaGreat.Hp
open Go.RowKit Mem Gx
set_option linter.unusedVariables false
set_option linter.unusedSimpArgs false
set_option maxRecDepth 100000
set_option maxHeartbeats 1000000
variable {σ α : Type} (H : HO σ α)
theorem take_snoc {L : List α} {n : Nat} {x : α} (hx : L[n]? = some x) (hn : L.length = n + 1) : L = L.take n ++ [x] := by
  obtain ⟨h1, h2⟩ := List.getElem?_eq_some_iff.1 hx
  have := List.take_succ_eq_append_getElem h1
  rw [h2] at this
  rw [← this, List.take_of_length_le (by omega)]
theorem heap_take {lt : α → α → Prop} {L : List α} {n : Nat} (h : HeapN lt L n) (hn : n ≤ L.length) : HeapN lt (L.take n) (L.take n).length := by
  rw [List.length_take, Nat.min_eq_left hn]
  exact h.of_eq fun k hk => List.getElem?_take_of_lt hk
theorem hpush_any (s : σ) (L : List α) (x : α) (w : World) (h : Rd1 w (H.F s L)) (hok : H.ok (L ++ [x])) (hL : L.length < 100000) (hh : HeapN H.lt L L.length) :
    Calls Tryz.prog 105 [H.iv, H.xv x].toArray w (RetM (H.F s L) (fun r : σ × List α => r.2.Perm (L ++ [x]) ∧ HeapN H.lt r.2 r.2.length) (fun _ => .tuple #[]) (fun r => H.F r.1 r.2) w) := by
  obtain ⟨E, hE⟩ := H.fin s L w h.1
  have hl1 : (L ++ [x]).length = L.length + 1 := by simp
  have hu : UInv H.lt (L ++ [x]) (L.length + 1) L.length := ⟨fun k h0 hk hne => (hh.of_eq (L' := L ++ [x]) fun j hj => List.getElem?_append_left hj) k h0 (by omega), fun h0 k hk0 hk hkp => by omega⟩
  refine g_enter0 T E [H.F s L] [] Tryz.func105 rfl Tryz.ntmps105 rfl (Kn.startM h (fun b hb => (hE b).1 hb) (fun _ h => by cases h)) ?_
  (repeat (refine gG ?_; try intro _))
  refine g_mv rfl (mv_inv_mod rfl rfl rfl rfl rfl (fun w hk => H.push s L w x (hk.rO mE) hok (by omega)) (by intro _; first | ((repeat (first | with_reducible exact Upd.here _ | with_reducible apply Upd.there)); done) | ((repeat (first | exact Upd.here _ | apply Upd.there)); done) | fail) (fun r _ => ?_))
  obtain ⟨s1, v⟩ := r
  (repeat (refine gG ?_; try intro _))
  refine g_mv rfl (mv_inv_bel rfl rfl rfl rfl rfl (fun w hk => H.len s1 (L ++ [x]) w (hk.rO mE) hok (by omega)) ?_)
  (repeat (refine gG ?_; try intro _))
  refine g_say 10 (.int .i64 (L.length : Int)) rfl (by rw [hl1]; congr 1; omega) ?_
  refine g_mv rfl (mv_call_mod (fun w hk => up_any H s1 (L ++ [x]) L.length (L.length + 1) w (hk.rO mE) hok (by omega) (by omega) (by omega) hu) rfl rfl rfl rfl rfl (by kernel_rfl) (by intro _; first | ((repeat (first | with_reducible exact Upd.here _ | with_reducible apply Upd.there)); done) | ((repeat (first | exact Upd.here _ | apply Upd.there)); done) | fail) (fun L' hI => ?_))
  obtain ⟨q1, q2, q3⟩ := hI
  (repeat (refine gG ?_; try intro _))
  refine gk_fin hT rfl rfl .nil (fun w' hk => ?_)
  exact RetM.mk (s1, L') ⟨q1, by rw [q1.length_eq, hl1]; exact q2⟩ rfl hk (fun b hb => (hE b).2 hb) mE
abbrev RetP (s : σ) (L : List α) (i : Nat) (w : World) : Ending → World → Prop := RetM (H.F s L) (fun r : σ × List α × α => L[i]? = some r.2.2 ∧ (r.2.1 ++ [r.2.2]).Perm L ∧ HeapN H.lt r.2.1 r.2.1.length) (fun r => H.xv r.2.2) (fun r => H.F r.1 r.2.1) w
theorem hpop_any (s : σ) (L : List α) (w : World) (h : Rd1 w (H.F s L)) (hok : H.ok L) (hL : L.length ≤ 100000) (h0 : 0 < L.length) (hh : HeapN H.lt L L.length) :
    Calls Tryz.prog 124 [H.iv].toArray w (RetP H s L 0 w) := by
  obtain ⟨E, hE⟩ := H.fin s L w h.1
  obtain ⟨n, hn⟩ : ∃ n, L.length = n + 1 := ⟨L.length - 1, by omega⟩
  obtain ⟨x, hx⟩ : ∃ x, L[0]? = some x := ⟨L[0], List.getElem?_eq_getElem (by omega)⟩
  obtain ⟨y, hy⟩ : ∃ y, L[n]? = some y := ⟨L[n], List.getElem?_eq_getElem (by omega)⟩
  have hs1 := swp_perm hx hy
  have hok1 := H.okp _ _ hs1 hok
  have hl1 : (swp L 0 n x y).length = L.length := swp_len
  have hget : ∀ k, (swp L 0 n x y)[k]? = if k = n then some x else if k = 0 then some y else L[k]? := fun k => swp_get (by omega) (by omega)
  have hd : DInv H.lt (swp L 0 n x y) n 0 False := by
    rcases Nat.eq_zero_or_pos n with e | e
    · exact ⟨fun k h0 hk => by omega, fun h => absurd h (Nat.lt_irrefl _)⟩
    · exact ((hh.mono (m := n) (by omega)).at_one H.ord (fun k hk hne => by rw [hget, if_neg (by omega), if_neg hne]) e (by omega)).1
  refine g_enter0 T E [H.F s L] [] Tryz.func124 rfl Tryz.ntmps124 rfl (Kn.startM h (fun b hb => (hE b).1 hb) (fun _ h => by cases h)) ?_
  (repeat (refine gG ?_; try intro _))
  refine g_mv rfl (mv_inv_bel rfl rfl rfl rfl rfl (fun w hk => H.len s L w (hk.rO mE) hok hL) ?_)
  (repeat (refine gG ?_; try intro _))
  refine g_say 8 (.int .i64 (n : Int)) rfl (by rw [hn]; first | (congr 1; done) | (congr 1; omega)) ?_
  refine g_mv rfl (mv_inv_mod rfl rfl rfl rfl rfl (fun w hk => H.swap s L w 0 n x y (hk.rO mE) hok hL hx hy) (by intro _; first | ((repeat (first | with_reducible exact Upd.here _ | with_reducible apply Upd.there)); done) | ((repeat (first | exact Upd.here _ | apply Upd.there)); done) | fail) (fun v _ => ?_))
  (repeat (refine gG ?_; try intro _))
  refine g_say 11 (.int .i64 (n : Int)) rfl (by rw [hn]; first | (congr 1; done) | (congr 1; omega)) ?_
  refine g_mv rfl (mv_call_mod (fun w hk => down_any H s (swp L 0 n x y) 0 n w (hk.rO mE) hok1 (by omega) (by omega) (by omega) hd) rfl rfl rfl rfl rfl (by kernel_rfl) (by intro _; first | ((repeat (first | with_reducible exact Upd.here _ | with_reducible apply Upd.there)); done) | ((repeat (first | exact Upd.here _ | apply Upd.there)); done) | fail) (fun r hI => ?_))
  obtain ⟨L2, b2⟩ := r
  obtain ⟨q1, q2, q3, q4⟩ := hI
  replace q1 : L2.Perm (swp L 0 n x y) := q1
  replace q2 : ∀ k, n ≤ k → L2[k]? = (swp L 0 n x y)[k]? := q2
  have hl2 : L2.length = n + 1 := by rw [q1.length_eq, hl1, hn]
  have hx2 : L2[n]? = some x := by rw [q2 n (Nat.le_refl _), hget, if_pos rfl]
  have hh2 : HeapN H.lt L2 n := by
    cases b2 with
    | true => exact q3 rfl
    | false =>
      obtain ⟨e1, e2⟩ := q4 rfl
      replace e1 : L2 = swp L 0 n x y := e1
      rw [e1]
      exact fun k h0 hk => e2 k h0 hk (by omega)
  have hsn := take_snoc hx2 hl2
  have hp2 : (L2.take n ++ [x]).Perm L := by rw [← hsn]; exact q1.trans hs1
  (repeat (refine gG ?_; try intro _))
  obtain ⟨L3, h3⟩ : ∃ L3, L3 = L2.take n := ⟨_, rfl⟩
  have h3h : HeapN H.lt L3 L3.length := by rw [h3]; exact heap_take hh2 (by omega)
  have h3l : L3.length = n := by rw [h3, List.length_take]; omega
  rw [← h3] at hsn hp2
  subst hsn
  refine g_mv rfl (mv_inv_mod rfl rfl rfl rfl rfl (fun w hk => H.pop s L3 x w (hk.rO mE) (H.okp _ _ hp2 hok) (by omega)) (by intro _; first | ((repeat (first | with_reducible exact Upd.here _ | with_reducible apply Upd.there)); done) | ((repeat (first | exact Upd.here _ | apply Upd.there)); done) | fail) (fun s3 _ => ?_))
  (repeat (refine gG ?_; try intro _))
  refine gk_ret hT rfl rfl (.tmp rfl .nil) (fun w' hk => ?_)
  exact RetM.mk (s3, L3, x) ⟨hx, hp2, h3h⟩ rfl hk (fun b hb => (hE b).2 hb) mE
end Go.Proofs.YtaghmffgoomebaaGreat.Hp
