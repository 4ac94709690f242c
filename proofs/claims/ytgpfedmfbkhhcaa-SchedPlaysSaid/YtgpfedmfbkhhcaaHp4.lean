/- container/heap: Remove, Fix. -/
import Derived.Test.YtgpfedmfbkhhcaaHp3
namespace Go.Proofs.Ytgpfedmfbkhhcaa.Hp
open Go.RowKit Mem Gx
set_option linter.unusedVariables false
set_option linter.unusedSimpArgs false
set_option maxRecDepth 100000
set_option maxHeartbeats 1000000
variable {σ α : Type} (H : HO σ α)
theorem uinv_of {lt : α → α → Prop} {L : List α} {n i : Nat} (hd : DInv lt L n i False) (he : ∀ k, 0 < k → k < n → k ≠ i → Edge lt L k) : UInv lt L n i := ⟨he, hd.g⟩
theorem hfix_any (s : σ) (L Lo : List α) (i : Nat) (w : World) (h : Rd1 w (H.F s L)) (hok : H.ok L) (hL : L.length ≤ 100000) (hi : i < L.length) (hlo : Lo.length = L.length) (hh : HeapN H.lt Lo Lo.length) (he : ∀ k, k ≠ i → L[k]? = Lo[k]?) :
    Calls Try.prog 63 [H.iv, .int .i64 (i : Int)].toArray w (RetM (H.F s L) (fun L' : List α => L'.Perm L ∧ HeapN H.lt L' L'.length) (fun _ => .tuple #[]) (fun L' => H.F s L') w) := by
  obtain ⟨E, hE⟩ := H.fin s L w h.1
  have hd : DInv H.lt L L.length i False := ((hh.mono (m := L.length) (by omega)).at_one H.ord (fun k hk hne => he k hne) hi (by omega)).1
  refine g_enter0 T E [H.F s L] [] Try.func63 rfl Try.ntmps63 rfl (Kn.startM h (fun b hb => (hE b).1 hb) (fun _ h => by cases h)) ?_
  (repeat (refine gG ?_; try intro _))
  refine g_mv rfl (mv_inv_bel rfl rfl rfl rfl rfl (fun w hk => H.len s L w (hk.rO mE) hok hL) ?_)
  (repeat (refine gG ?_; try intro _))
  refine g_mv rfl (mv_call_mod (fun w hk => down_any H s L i L.length w (hk.rO mE) hok hL hi (Nat.le_refl _) hd) rfl rfl rfl rfl rfl (by kernel_rfl) (by intro _; first | ((repeat (first | with_reducible exact Upd.here _ | with_reducible apply Upd.there)); done) | ((repeat (first | exact Upd.here _ | apply Upd.there)); done) | fail) (fun r hI => ?_))
  obtain ⟨L2, b2⟩ := r
  obtain ⟨q1, q2, q3, q4⟩ := hI
  replace q1 : L2.Perm L := q1
  have hl2 := q1.length_eq
  (repeat (refine gG ?_; try intro _))
  cases b2 with
  | true =>
    have hh2 : HeapN H.lt L2 L.length := q3 rfl
    (repeat (refine gG ?_; try intro _))
    refine gk_fin hT rfl rfl .nil (fun w' hk => ?_)
    exact RetM.mk L2 ⟨q1, by rw [hl2]; exact hh2⟩ rfl hk (fun b hb => (hE b).2 hb) mE
  | false =>
    obtain ⟨e1, e2⟩ := q4 rfl
    replace e1 : L2 = L := e1
    subst e1
    (repeat (refine gG ?_; try intro _))
    refine g_mv rfl (mv_call_mod (fun w hk => up_any H s L2 i L2.length w (hk.rO mE) hok hL hi (Nat.le_refl _) (uinv_of hd e2)) rfl rfl rfl rfl rfl (by kernel_rfl) (by intro _; first | ((repeat (first | with_reducible exact Upd.here _ | with_reducible apply Upd.there)); done) | ((repeat (first | exact Upd.here _ | apply Upd.there)); done) | fail) (fun L3 hI => ?_))
    obtain ⟨r1, r2, r3⟩ := hI
    (repeat (refine gG ?_; try intro _))
    refine gk_fin hT rfl rfl .nil (fun w' hk => ?_)
    exact RetM.mk L3 ⟨r1, by rw [r1.length_eq]; exact r2⟩ rfl hk (fun b hb => (hE b).2 hb) mE
/-- The end of Remove: the last one goes. -/
theorem hrem_end {lt : α → α → Prop} {L L2 : List α} {n : Nat} {x : α} (hn : L.length = n + 1) (hp : L2.Perm L) (hx2 : L2[n]? = some x) (hh : HeapN lt L2 n) : ∃ L3, L2 = L3 ++ [x] ∧ (L3 ++ [x]).Perm L ∧ HeapN lt L3 L3.length ∧ L3.length = n := by
  have hl2 : L2.length = n + 1 := by rw [hp.length_eq, hn]
  have hsn := take_snoc hx2 hl2
  refine ⟨L2.take n, hsn, by rw [← hsn]; exact hp, heap_take hh (by omega), by rw [List.length_take]; omega⟩
theorem hremove_any (s : σ) (L : List α) (i : Nat) (w : World) (h : Rd1 w (H.F s L)) (hok : H.ok L) (hL : L.length ≤ 100000) (hi : i < L.length) (hh : HeapN H.lt L L.length) :
    Calls Try.prog 65 [H.iv, .int .i64 (i : Int)].toArray w (RetP H s L i w) := by
  obtain ⟨E, hE⟩ := H.fin s L w h.1
  obtain ⟨n, hn⟩ : ∃ n, L.length = n + 1 := ⟨L.length - 1, by omega⟩
  obtain ⟨x, hx⟩ : ∃ x, L[i]? = some x := ⟨L[i], List.getElem?_eq_getElem (by omega)⟩
  obtain ⟨y, hy⟩ : ∃ y, L[n]? = some y := ⟨L[n], List.getElem?_eq_getElem (by omega)⟩
  refine g_enter0 T E [H.F s L] [] Try.func65 rfl Try.ntmps65 rfl (Kn.startM h (fun b hb => (hE b).1 hb) (fun _ h => by cases h)) ?_
  (repeat (refine gG ?_; try intro _))
  refine g_mv rfl (mv_inv_bel rfl rfl rfl rfl rfl (fun w hk => H.len s L w (hk.rO mE) hok hL) ?_)
  (repeat (refine gG ?_; try intro _))
  refine gk_say 5 (.int .i64 (n : Int)) rfl (by rw [hn]; first | (congr 1; done) | (congr 1; omega)) ?_
  refine gk_cond rfl rfl (tells_tB _) (fun hc => ?_) (fun hc => ?_)
  · have hin : i < n := by omega
    have hs1 := swp_perm hx hy
    have hok1 := H.okp _ _ hs1 hok
    have hl1 : (swp L i n x y).length = L.length := swp_len
    have hget : ∀ k, (swp L i n x y)[k]? = if k = n then some x else if k = i then some y else L[k]? := fun k => swp_get (by omega) (by omega)
    have hd : DInv H.lt (swp L i n x y) n i False := ((hh.mono (m := n) (by omega)).at_one H.ord (fun k hk hne => by rw [hget, if_neg (by omega), if_neg hne]) hin (by omega)).1
    (repeat (refine gG ?_; try intro _))
    refine g_mv rfl (mv_inv_mod rfl rfl rfl rfl rfl (fun w hk => H.swap s L w i n x y (hk.rO mE) hok hL hx hy) (by intro _; first | ((repeat (first | with_reducible exact Upd.here _ | with_reducible apply Upd.there)); done) | ((repeat (first | exact Upd.here _ | apply Upd.there)); done) | fail) (fun v _ => ?_))
    (repeat (refine gG ?_; try intro _))
    refine g_mv rfl (mv_call_mod (fun w hk => down_any H s (swp L i n x y) i n w (hk.rO mE) hok1 (by omega) (by omega) (by omega) hd) rfl rfl rfl rfl rfl (by kernel_rfl) (by intro _; first | ((repeat (first | with_reducible exact Upd.here _ | with_reducible apply Upd.there)); done) | ((repeat (first | exact Upd.here _ | apply Upd.there)); done) | fail) (fun r hI => ?_))
    obtain ⟨L2, b2⟩ := r
    obtain ⟨q1, q2, q3, q4⟩ := hI
    replace q1 : L2.Perm (swp L i n x y) := q1
    replace q2 : ∀ k, n ≤ k → L2[k]? = (swp L i n x y)[k]? := q2
    have hx2 : L2[n]? = some x := by rw [q2 n (Nat.le_refl _), hget, if_pos rfl]
    cases b2 with
    | true =>
      have hh2 : HeapN H.lt L2 n := q3 rfl
      obtain ⟨L3, e3, hp3, hh3, hl3⟩ := hrem_end (L := L) hn (q1.trans hs1) hx2 hh2
      (repeat (refine gG ?_; try intro _))
      subst e3
      refine g_mv rfl (mv_inv_mod rfl rfl rfl rfl rfl (fun w hk => H.pop s L3 x w (hk.rO mE) (H.okp _ _ hp3 hok) (by omega)) (by intro _; first | ((repeat (first | with_reducible exact Upd.here _ | with_reducible apply Upd.there)); done) | ((repeat (first | exact Upd.here _ | apply Upd.there)); done) | fail) (fun s3 _ => ?_))
      (repeat (refine gG ?_; try intro _))
      refine gk_ret hT rfl rfl (.tmp rfl .nil) (fun w' hk => ?_)
      exact RetM.mk (s3, L3, x) ⟨hx, hp3, hh3⟩ rfl hk (fun b hb => (hE b).2 hb) mE
    | false =>
      obtain ⟨e1, e2⟩ := q4 rfl
      replace e1 : L2 = swp L i n x y := e1
      subst e1
      (repeat (refine gG ?_; try intro _))
      refine g_mv rfl (mv_call_mod (fun w hk => up_any H s (swp L i n x y) i n w (hk.rO mE) hok1 (by omega) hin (by omega) (uinv_of hd e2)) rfl rfl rfl rfl rfl (by kernel_rfl) (by intro _; first | ((repeat (first | with_reducible exact Upd.here _ | with_reducible apply Upd.there)); done) | ((repeat (first | exact Upd.here _ | apply Upd.there)); done) | fail) (fun L4 hI => ?_))
      obtain ⟨r1, r2, r3⟩ := hI
      obtain ⟨L3, e3, hp3, hh3, hl3⟩ := hrem_end (L := L) hn (r1.trans hs1) ((r3 n (Nat.le_refl _)).trans hx2) r2
      (repeat (refine gG ?_; try intro _))
      subst e3
      refine g_mv rfl (mv_inv_mod rfl rfl rfl rfl rfl (fun w hk => H.pop s L3 x w (hk.rO mE) (H.okp _ _ hp3 hok) (by omega)) (by intro _; first | ((repeat (first | with_reducible exact Upd.here _ | with_reducible apply Upd.there)); done) | ((repeat (first | exact Upd.here _ | apply Upd.there)); done) | fail) (fun s3 _ => ?_))
      (repeat (refine gG ?_; try intro _))
      refine gk_ret hT rfl rfl (.tmp rfl .nil) (fun w' hk => ?_)
      exact RetM.mk (s3, L3, x) ⟨hx, hp3, hh3⟩ rfl hk (fun b hb => (hE b).2 hb) mE
  · have hin : n = i := by omega
    subst hin
    obtain ⟨L3, e3, hp3, hh3, hl3⟩ := hrem_end (L := L) hn (List.Perm.refl L) hx (hh.mono (by omega))
    (repeat (refine gG ?_; try intro _))
    subst e3
    refine g_mv rfl (mv_inv_mod rfl rfl rfl rfl rfl (fun w hk => H.pop s L3 x w (hk.rO mE) hok (by omega)) (by intro _; first | ((repeat (first | with_reducible exact Upd.here _ | with_reducible apply Upd.there)); done) | ((repeat (first | exact Upd.here _ | apply Upd.there)); done) | fail) (fun s3 _ => ?_))
    (repeat (refine gG ?_; try intro _))
    refine gk_ret hT rfl rfl (.tmp rfl .nil) (fun w' hk => ?_)
    exact RetM.mk (s3, L3, x) ⟨hx, hp3, hh3⟩ rfl hk (fun b hb => (hE b).2 hb) mE
end Go.Proofs.Ytgpfedmfbkhhcaa.Hp

