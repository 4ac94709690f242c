/- container/heap: Init, Pop, Fix. -/
import Derived.Test.YtmbphmckakigaaaMh2
namespace Go.Proofs.Ytmbphmckakigaaa.Hp
open Go.RowKit Mem Gx
set_option linter.unusedVariables false
set_option linter.unusedSimpArgs false
set_option maxRecDepth 100000
set_option maxHeartbeats 1000000
variable {σ α : Type} (H : HO σ α)
theorem take_snoc {L : List α} {n : Nat} {x : α} (hx : L[n]? = some x) (hn : L.length = n + 1) : L = L.take n ++ [x] := by
  obtain ⟨h1, h2⟩ := List.getElem?_eq_some_iff.1 hx
  have := List.take_succ_eq_append_getElem h1
  rw [h2] at this
  rw [← this, List.take_of_length_le (by omega)]
theorem heap_take {lt : α → α → Prop} {L : List α} {n : Nat} (h : HeapN lt L n) (hn : n ≤ L.length) : HeapN lt (L.take n) (L.take n).length := by
  rw [List.length_take, Nat.min_eq_left hn]
  exact h.of_eq fun k hk => List.getElem?_take_of_lt hk
theorem hinit_any (s : σ) (L : List α) (w : World) (h : Rd1 w (H.F s L)) (hR : Rds w H.R) (hdis : ∀ ψ, ψ ∈ H.R → ∀ b, (H.F s L).S b → ¬ ψ.S b) (hok : H.ok L) (hL : L.length ≤ 100000) (hE9 : ∀ z, z ∈ L → H.okE z) :
    Calls Try.prog 59 [H.iv].toArray w (RetM (H.F s L) (fun L' : List α => L'.Perm L ∧ HeapN H.lt L' L'.length) (fun _ => .tuple #[]) (fun L' => H.F s L') w) := by
  obtain ⟨E, hE⟩ := H.fin s L w h.1
  refine g_enter0 T E [H.F s L] H.R Try.func59 rfl Try.ntmps59 rfl (Kn.startM h (fun b hb => (hE b).1 hb) (fun ψ hψ => ⟨hR.mem hψ, fun b hb => hdis ψ hψ b hb⟩)) ?_
  (repeat (refine gG ?_; try intro _))
  refine g_mv rfl (mv_inv_bel rfl rfl rfl rfl rfl (fun w hk => H.len s L w (hk.rO mE) hok hL) ?_)
  (repeat (refine gG ?_; try intro _))
  refine gk_say 3 (.int .i64 (((L.length / 2 : Nat) : Int) - 1)) rfl (by first | (congr 1; done) | (congr 1; omega)) ?_
  refine gk_loop_sel (fun (q : Nat × (List α)) => match q with | (m, L') => (m ≤ L.length / 2 ∧ L'.Perm L ∧ HeapM H.lt L' L.length m)) (fun (q : Nat × (List α)) => match q with | (m, L') => [(0, H.iv), (2, .int .i64 (L.length : Int)), (3, .int .i64 ((m : Int) - 1))]) (fun (q : Nat × (List α)) => match q with | (m, L') => [H.F s L']) (fun (q : Nat × (List α)) => match q with | (m, L') => H.R) (fun (q : Nat × (List α)) => match q with | (m, L') => m) (L.length / 2, L) rfl ⟨Nat.le_refl _, List.Perm.refl _, fun k h0 hk hm => by omega⟩ (by repeat (first | exact trivial | refine ⟨rfl, ?_⟩)) sA sS ?_
  rintro ⟨m, L'⟩ hI
  replace hI : (m ≤ L.length / 2 ∧ L'.Perm L ∧ HeapM H.lt L' L.length m) := hI
  change GK _ _ [(0, H.iv), (2, .int .i64 (L.length : Int)), (3, .int .i64 ((m : Int) - 1))] [H.F s L'] H.R
  obtain ⟨hm, hp, hh⟩ := hI
  have hl' : L'.length = L.length := hp.length_eq
  have hok' := H.okp _ _ hp hok
  cases m with
  | zero =>
    (repeat' (first | (refine gG ?_; try intro _) | ((first | refine g_split rfl rfl tE (fun _ => ?_) (fun _ => ?_) | refine gk_cond rfl rfl tE (fun _ => ?_) (fun _ => ?_)) <;> (try first | (exfalso; omega; done) | (rename_i hx; exact absurd rfl hx) | (rename_i hx; cases hx; done)))))
    refine gk_fin hT rfl rfl .nil (fun w' hk => ?_)
    exact RetM.mk L' ⟨hp, by rw [hl']; exact hh.all⟩ rfl hk (fun b hb => (hE b).2 hb) mE
  | succ i =>
    have hd : DInv H.lt L' L.length i i False := ⟨Nat.le_refl _, fun k h0 hk hkm hne _ => hh k h0 hk (by omega), fun h0 h1 => absurd h1 (by omega)⟩
    (repeat' (first | (refine gG ?_; try intro _) | ((first | refine g_split rfl rfl tE (fun _ => ?_) (fun _ => ?_) | refine gk_cond rfl rfl tE (fun _ => ?_) (fun _ => ?_)) <;> (try first | (exfalso; omega; done) | (rename_i hx; exact absurd rfl hx) | (rename_i hx; cases hx; done)))))
    refine g_say 14 (.int .i64 (i : Int)) rfl (by first | (congr 1; done) | (congr 1; omega)) ?_
    (repeat (refine gG ?_; try intro _))
    refine g_mv rfl (mv_call_mod (fun w hk => down_any H s L' i L.length i w (hk.rO mE) (hk.rds (List.Subset.refl _)) (fun ψ hψ b hb => hk.disR _ mE ψ hψ b hb) hok' (by omega) (by omega) (by omega) hd (.inl (by omega)) (fun k z _ hz => hE9 z (hp.mem_iff.1 (List.mem_of_getElem? hz)))) rfl rfl rfl rfl rfl (by kernel_rfl) (by intro _; first | ((repeat (first | with_reducible exact Upd.here _ | with_reducible apply Upd.there)); done) | ((repeat (first | exact Upd.here _ | apply Upd.there)); done) | fail) (fun r hI => ?_))
    obtain ⟨L2, b2⟩ := r
    obtain ⟨q1, q2, q3, q4⟩ := hI
    replace q1 : L2.Perm L' := q1
    have hh2 : HeapM H.lt L2 L.length i := by
      cases b2 with
      | true => exact q3 rfl
      | false =>
        obtain ⟨e1, e2⟩ := q4 rfl
        replace e1 : L2 = L' := e1
        subst e1
        exact fun k h0 hk hkm => e2 k h0 hk hkm (by omega)
    (repeat (refine gG ?_; try intro _))
    refine gk_say 3 (.int .i64 ((i : Int) - 1)) rfl (by first | (congr 1; done) | (congr 1; omega)) ?_
    refine gk_again_sel rfl (i, L2) ⟨by omega, q1.trans hp, hh2⟩ (by dsimp only; omega) (by repeat (first | exact trivial | refine ⟨rfl, ?_⟩)) sA sS
abbrev RetP (s : σ) (L : List α) (i : Nat) (w : World) : Ending → World → Prop := RetM (H.F s L) (fun r : σ × List α × α => L[i]? = some r.2.2 ∧ (r.2.1 ++ [r.2.2]).Perm L ∧ HeapN H.lt r.2.1 r.2.1.length) (fun r => H.xv r.2.2) (fun r => H.F r.1 r.2.1) w
theorem hpop_any (s : σ) (L Lo : List α) (w : World) (h : Rd1 w (H.F s L)) (hR : Rds w H.R) (hdis : ∀ ψ, ψ ∈ H.R → ∀ b, (H.F s L).S b → ¬ ψ.S b) (hok : H.ok L) (hL : L.length ≤ 100000) (h0 : 0 < L.length) (hlo : Lo.length = L.length) (hh : HeapN H.lt Lo Lo.length) (he : ∀ k, k ≠ 0 → L[k]? = Lo[k]?) (hE9 : ∀ (k : Nat) (z : α), 0 < k → L[k]? = some z → H.okE z) :
    Calls Try.prog 60 [H.iv].toArray w (RetP H s L 0 w) := by
  obtain ⟨E, hE⟩ := H.fin s L w h.1
  obtain ⟨n, hn⟩ : ∃ n, L.length = n + 1 := ⟨L.length - 1, by omega⟩
  obtain ⟨x, hx⟩ : ∃ x, L[0]? = some x := ⟨L[0], List.getElem?_eq_getElem (by omega)⟩
  obtain ⟨y, hy⟩ : ∃ y, L[n]? = some y := ⟨L[n], List.getElem?_eq_getElem (by omega)⟩
  have hs1 := swp_perm hx hy
  have hok1 := H.okp _ _ hs1 hok
  have hl1 : (swp L 0 n x y).length = L.length := swp_len
  have hget : ∀ k, (swp L 0 n x y)[k]? = if k = n then some x else if k = 0 then some y else L[k]? := fun k => swp_get (by omega) (by omega)
  have hd : DInv H.lt (swp L 0 n x y) n 0 0 False := by
    rcases Nat.eq_zero_or_pos n with e | e
    · exact ⟨Nat.le_refl _, fun k h0 hk => by omega, fun h => absurd h (Nat.lt_irrefl _)⟩
    · exact ((hh.mono (m := n) (by omega)).at_one H.ord (fun k hk hne => by rw [hget, if_neg (by omega), if_neg hne]; exact he k hne) e (by omega)).1
  refine g_enter0 T E [H.F s L] H.R Try.func60 rfl Try.ntmps60 rfl (Kn.startM h (fun b hb => (hE b).1 hb) (fun ψ hψ => ⟨hR.mem hψ, fun b hb => hdis ψ hψ b hb⟩)) ?_
  (repeat (refine gG ?_; try intro _))
  refine g_mv rfl (mv_inv_bel rfl rfl rfl rfl rfl (fun w hk => H.len s L w (hk.rO mE) hok hL) ?_)
  (repeat (refine gG ?_; try intro _))
  refine g_say 8 (.int .i64 (n : Int)) rfl (by rw [hn]; first | (congr 1; done) | (congr 1; omega)) ?_
  refine g_mv rfl (mv_inv_mod rfl rfl rfl rfl rfl (fun w hk => H.swap s L w 0 n x y (hk.rO mE) hok hL hx hy) (by intro _; first | ((repeat (first | with_reducible exact Upd.here _ | with_reducible apply Upd.there)); done) | ((repeat (first | exact Upd.here _ | apply Upd.there)); done) | fail) (fun v _ => ?_))
  (repeat (refine gG ?_; try intro _))
  refine g_say 11 (.int .i64 (n : Int)) rfl (by rw [hn]; first | (congr 1; done) | (congr 1; omega)) ?_
  refine g_mv rfl (mv_call_mod (fun w hk => down_any H s (swp L 0 n x y) 0 n 0 w (hk.rO mE) (hk.rds (List.Subset.refl _)) (fun ψ hψ b hb => hk.disR _ mE ψ hψ b hb) hok1 (by omega) (by omega) (by omega) hd (by omega) (fun k z hk hz => by
    rw [hget, if_neg (by omega)] at hz
    split at hz
    · obtain rfl := Option.some.inj hz; exact hE9 n y (by omega) hy
    · exact hE9 k z (by omega) hz)) rfl rfl rfl rfl rfl (by kernel_rfl) (by intro _; first | ((repeat (first | with_reducible exact Upd.here _ | with_reducible apply Upd.there)); done) | ((repeat (first | exact Upd.here _ | apply Upd.there)); done) | fail) (fun r hI => ?_))
  obtain ⟨L2, b2⟩ := r
  obtain ⟨q1, q2, q3, q4⟩ := hI
  replace q1 : L2.Perm (swp L 0 n x y) := q1
  replace q2 : ∀ k, n ≤ k → L2[k]? = (swp L 0 n x y)[k]? := q2
  have hl2 : L2.length = n + 1 := by rw [q1.length_eq, hl1, hn]
  have hx2 : L2[n]? = some x := by rw [q2 n (Nat.le_refl _), hget, if_pos rfl]
  have hh2 : HeapN H.lt L2 n := by
    cases b2 with
    | true => exact (q3 rfl).all
    | false =>
      obtain ⟨e1, e2⟩ := q4 rfl
      replace e1 : L2 = swp L 0 n x y := e1
      rw [e1]
      exact fun k h0 hk => e2 k h0 hk (Nat.zero_le _) (by omega)
  have hsn := take_snoc hx2 hl2
  have hp2 : (L2.take n ++ [x]).Perm L := by rw [← hsn]; exact q1.trans hs1
  (repeat (refine gG ?_; try intro _))
  obtain ⟨L3, h3⟩ : ∃ L3, L3 = L2.take n := ⟨_, rfl⟩
  have h3h : HeapN H.lt L3 L3.length := by rw [h3]; exact heap_take hh2 (by omega)
  have h3l : L3.length = n := by rw [h3, List.length_take]; omega
  rw [← h3] at hsn hp2
  subst hsn
  refine g_mv rfl (mv_inv_mod rfl rfl rfl rfl rfl (fun w hk => H.pop s L3 x w (hk.rO mE) (H.okp _ _ hp2 hok) (by omega)) (by intro _; first | ((repeat (first | with_reducible exact Upd.here _ | with_reducible apply Upd.there)); done) | ((repeat (first | exact Upd.here _ | apply Upd.there)); done) | fail) (fun s3 _ => ?_))
  (repeat (refine gG ?_; try intro _))
  refine gk_ret hT rfl rfl (.tmp rfl .nil) (fun w' hk => ?_)
  exact RetM.mk (s3, L3, x) ⟨hx, hp2, h3h⟩ rfl hk (fun b hb => (hE b).2 hb) mE
theorem uinv_of {lt : α → α → Prop} {L : List α} {n i : Nat} (hd : DInv lt L n i 0 False) (he : ∀ k, 0 < k → k < n → k ≠ i → Edge lt L k) : UInv lt L n i := ⟨he, fun h0 => hd.g h0 (Nat.zero_le _)⟩
theorem hfix_any (s : σ) (L Lo : List α) (i : Nat) (w : World) (h : Rd1 w (H.F s L)) (hR : Rds w H.R) (hdis : ∀ ψ, ψ ∈ H.R → ∀ b, (H.F s L).S b → ¬ ψ.S b) (hok : H.ok L) (hL : L.length ≤ 100000) (hi : i < L.length) (hlo : Lo.length = L.length) (hh : HeapN H.lt Lo Lo.length) (he : ∀ k, k ≠ i → L[k]? = Lo[k]?) (hE9 : ∀ z, z ∈ L → H.okE z) :
    Calls Try.prog 61 [H.iv, .int .i64 (i : Int)].toArray w (RetM (H.F s L) (fun L' : List α => L'.Perm L ∧ HeapN H.lt L' L'.length) (fun _ => .tuple #[]) (fun L' => H.F s L') w) := by
  obtain ⟨E, hE⟩ := H.fin s L w h.1
  have hd : DInv H.lt L L.length i 0 False := ((hh.mono (m := L.length) (by omega)).at_one H.ord (fun k hk hne => he k hne) hi (by omega)).1
  refine g_enter0 T E [H.F s L] H.R Try.func61 rfl Try.ntmps61 rfl (Kn.startM h (fun b hb => (hE b).1 hb) (fun ψ hψ => ⟨hR.mem hψ, fun b hb => hdis ψ hψ b hb⟩)) ?_
  (repeat (refine gG ?_; try intro _))
  refine g_mv rfl (mv_inv_bel rfl rfl rfl rfl rfl (fun w hk => H.len s L w (hk.rO mE) hok hL) ?_)
  (repeat (refine gG ?_; try intro _))
  refine g_mv rfl (mv_call_mod (fun w hk => down_any H s L i L.length 0 w (hk.rO mE) (hk.rds (List.Subset.refl _)) (fun ψ hψ b hb => hk.disR _ mE ψ hψ b hb) hok hL hi (Nat.le_refl _) hd (.inl hi) (fun k z _ hz => hE9 z (List.mem_of_getElem? hz))) rfl rfl rfl rfl rfl (by kernel_rfl) (by intro _; first | ((repeat (first | with_reducible exact Upd.here _ | with_reducible apply Upd.there)); done) | ((repeat (first | exact Upd.here _ | apply Upd.there)); done) | fail) (fun r hI => ?_))
  obtain ⟨L2, b2⟩ := r
  obtain ⟨q1, q2, q3, q4⟩ := hI
  replace q1 : L2.Perm L := q1
  have hl2 := q1.length_eq
  (repeat (refine gG ?_; try intro _))
  cases b2 with
  | true =>
    have hh2 : HeapN H.lt L2 L.length := (q3 rfl).all
    (repeat (refine gG ?_; try intro _))
    refine gk_fin hT rfl rfl .nil (fun w' hk => ?_)
    exact RetM.mk L2 ⟨q1, by rw [hl2]; exact hh2⟩ rfl hk (fun b hb => (hE b).2 hb) mE
  | false =>
    obtain ⟨e1, e2⟩ := q4 rfl
    replace e1 : L2 = L := e1
    subst e1
    (repeat (refine gG ?_; try intro _))
    refine g_mv rfl (mv_call_mod (fun w hk => up_any H s L2 i L2.length w (hk.rO mE) (hk.rds (List.Subset.refl _)) (fun ψ hψ b hb => hk.disR _ mE ψ hψ b hb) hok hL hi (Nat.le_refl _) (uinv_of hd fun k h0 hk hne => e2 k h0 hk (Nat.zero_le _) hne) (fun k z _ hz => hE9 z (List.mem_of_getElem? hz))) rfl rfl rfl rfl rfl (by kernel_rfl) (by intro _; first | ((repeat (first | with_reducible exact Upd.here _ | with_reducible apply Upd.there)); done) | ((repeat (first | exact Upd.here _ | apply Upd.there)); done) | fail) (fun L3 hI => ?_))
    obtain ⟨r1, r2, r3⟩ := hI
    (repeat (refine gG ?_; try intro _))
    refine gk_fin hT rfl rfl .nil (fun w' hk => ?_)
    exact RetM.mk L3 ⟨r1, by rw [r1.length_eq]; exact r2⟩ rfl hk (fun b hb => (hE b).2 hb) mE
end Go.Proofs.Ytmbphmckakigaaa.Hp

