/- container/heap: Push, Pop, Remove, Fix. -/
import Derived.Test.YteajefmnbalofaaHp2
namespace Go.Proofs.Yteajefmnbalofaa.Hp
open Go.RowKit Mem Gx
set_option linter.unusedVariables false
set_option linter.unusedSimpArgs false
set_option maxRecDepth 100000
set_option maxHeartbeats 1000000
variable {σ α : Type} (H : HO σ α)
theorem take_snoc {L : List α} {n : Nat} {x : α} (hx : L[n]? = some x) (hn : L.length = n + 1) : L = L.take n ++ [x] := by
  obtain ⟨h1, h2⟩ := List.getElem?_eq_some_iff.1 hx
  have := List.take_succ_eq_append_getElem h1
  rw [h2] at this
  rw [← this, List.take_of_length_le (by omega)]
theorem heap_take {lt : α → α → Prop} {L : List α} {n : Nat} (h : HeapN lt L n) (hn : n ≤ L.length) : HeapN lt (L.take n) (L.take n).length := by
  rw [List.length_take, Nat.min_eq_left hn]
  exact h.of_eq fun k hk => List.getElem?_take_of_lt hk
theorem hpush_any (s : σ) (L : List α) (x : α) (w : World) (h : Rd1 w (H.F s L)) (hok : H.ok (L ++ [x])) (hL : L.length < 100000) (hh : HeapN H.lt L L.length) :
    Calls Try.prog 94 [H.iv, H.xv x].toArray w (RetM (H.F s L) (fun r : σ × List α => r.2.Perm (L ++ [x]) ∧ HeapN H.lt r.2 r.2.length) (fun _ => .tuple #[]) (fun r => H.F r.1 r.2) w) := by
  obtain ⟨E, hE⟩ := H.fin s L w h.1
  have hl1 : (L ++ [x]).length = L.length + 1 := by simp
  have hu : UInv H.lt (L ++ [x]) (L.length + 1) L.length := ⟨fun k h0 hk hne => (hh.of_eq (L' := L ++ [x]) fun j hj => List.getElem?_append_left hj) k h0 (by omega), fun h0 k hk0 hk hkp => by omega⟩
  refine g_enter0 T E [H.F s L] [] Try.func94 rfl Try.ntmps94 rfl (Kn.startM h (fun b hb => (hE b).1 hb) (fun _ h => by cases h)) ?_
  (repeat (refine gG ?_; try intro _))
  refine g_mv rfl (mv_inv_mod rfl rfl rfl rfl rfl (fun w hk => H.push s L w x (hk.rO mE) hok (by omega)) (by intro _; first | ((repeat (first | with_reducible exact Upd.here _ | with_reducible apply Upd.there)); done) | ((repeat (first | exact Upd.here _ | apply Upd.there)); done) | fail) (fun r _ => ?_))
  obtain ⟨s1, v⟩ := r
  (repeat (refine gG ?_; try intro _))
  refine g_mv rfl (mv_inv_bel rfl rfl rfl rfl rfl (fun w hk => H.len s1 (L ++ [x]) w (hk.rO mE) hok (by omega)) ?_)
  (repeat (refine gG ?_; try intro _))
  refine g_say 10 (.int .i64 (L.length : Int)) rfl (by rw [hl1]; congr 1; omega) ?_
  refine g_mv rfl (mv_call_mod (fun w hk => up_any H s1 (L ++ [x]) L.length (L.length + 1) w (hk.rO mE) hok (by omega) (by omega) (by omega) hu) rfl rfl rfl rfl rfl (by kernel_rfl) (by intro _; first | ((repeat (first | with_reducible exact Upd.here _ | with_reducible apply Upd.there)); done) | ((repeat (first | exact Upd.here _ | apply Upd.there)); done) | fail) (fun L' hI => ?_))
  obtain ⟨q1, q2, q3⟩ := hI
  (repeat (refine gG ?_; try intro _))
  refine gk_fin hT rfl rfl .nil (fun w' hk => ?_)
  exact RetM.mk (s1, L') ⟨q1, by rw [q1.length_eq, hl1]; exact q2⟩ rfl hk (fun b hb => (hE b).2 hb) mE
abbrev RetP (s : σ) (L : List α) (i : Nat) (w : World) : Ending → World → Prop := RetM (H.F s L) (fun r : σ × List α × α => L[i]? = some r.2.2 ∧ (r.2.1 ++ [r.2.2]).Perm L ∧ HeapN H.lt r.2.1 r.2.1.length) (fun r => H.xv r.2.2) (fun r => H.F r.1 r.2.1) w
theorem hpop_any (s : σ) (L : List α) (w : World) (h : Rd1 w (H.F s L)) (hok : H.ok L) (hL : L.length ≤ 100000) (h0 : 0 < L.length) (hh : HeapN H.lt L L.length) :
    Calls Try.prog 65 [H.iv].toArray w (RetP H s L 0 w) := by
  obtain ⟨E, hE⟩ := H.fin s L w h.1
  obtain ⟨n, hn⟩ : ∃ n, L.length = n + 1 := ⟨L.length - 1, by omega⟩
  obtain ⟨x, hx⟩ : ∃ x, L[0]? = some x := ⟨L[0], List.getElem?_eq_getElem (by omega)⟩
  obtain ⟨y, hy⟩ : ∃ y, L[n]? = some y := ⟨L[n], List.getElem?_eq_getElem (by omega)⟩
  have hs1 := swp_perm hx hy
  have hok1 := H.okp _ _ hs1 hok
  have hl1 : (swp L 0 n x y).length = L.length := swp_len
  have hget : ∀ k, (swp L 0 n x y)[k]? = if k = n then some x else if k = 0 then some y else L[k]? := fun k => swp_get (by omega) (by omega)
  have hd : DInv H.lt (swp L 0 n x y) n 0 False := by
    rcases Nat.eq_zero_or_pos n with e | e
    · exact ⟨fun k h0 hk => by omega, fun h => absurd h (Nat.lt_irrefl _)⟩
    · exact ((hh.mono (m := n) (by omega)).at_one H.ord (fun k hk hne => by rw [hget, if_neg (by omega), if_neg hne]) e (by omega)).1
  refine g_enter0 T E [H.F s L] [] Try.func65 rfl Try.ntmps65 rfl (Kn.startM h (fun b hb => (hE b).1 hb) (fun _ h => by cases h)) ?_
  (repeat (refine gG ?_; try intro _))
  refine g_mv rfl (mv_inv_bel rfl rfl rfl rfl rfl (fun w hk => H.len s L w (hk.rO mE) hok hL) ?_)
  (repeat (refine gG ?_; try intro _))
  refine g_say 8 (.int .i64 (n : Int)) rfl (by rw [hn]; first | (congr 1; done) | (congr 1; omega)) ?_
  refine g_mv rfl (mv_inv_mod rfl rfl rfl rfl rfl (fun w hk => H.swap s L w 0 n x y (hk.rO mE) hok hL hx hy) (by intro _; first | ((repeat (first | with_reducible exact Upd.here _ | with_reducible apply Upd.there)); done) | ((repeat (first | exact Upd.here _ | apply Upd.there)); done) | fail) (fun v _ => ?_))
  (repeat (refine gG ?_; try intro _))
  refine g_say 11 (.int .i64 (n : Int)) rfl (by rw [hn]; first | (congr 1; done) | (congr 1; omega)) ?_
  refine g_mv rfl (mv_call_mod (fun w hk => down_any H s (swp L 0 n x y) 0 n w (hk.rO mE) hok1 (by omega) (by omega) (by omega) hd) rfl rfl rfl rfl rfl (by kernel_rfl) (by intro _; first | ((repeat (first | with_reducible exact Upd.here _ | with_reducible apply Upd.there)); done) | ((repeat (first | exact Upd.here _ | apply Upd.there)); done) | fail) (fun r hI => ?_))
  obtain ⟨L2, b2⟩ := r
  obtain ⟨q1, q2, q3, q4⟩ := hI
  replace q1 : L2.Perm (swp L 0 n x y) := q1
  replace q2 : ∀ k, n ≤ k → L2[k]? = (swp L 0 n x y)[k]? := q2
  have hl2 : L2.length = n + 1 := by rw [q1.length_eq, hl1, hn]
  have hx2 : L2[n]? = some x := by rw [q2 n (Nat.le_refl _), hget, if_pos rfl]
  have hh2 : HeapN H.lt L2 n := by
    cases b2 with
    | true => exact q3 rfl
    | false =>
      obtain ⟨e1, e2⟩ := q4 rfl
      replace e1 : L2 = swp L 0 n x y := e1
      rw [e1]
      exact fun k h0 hk => e2 k h0 hk (by omega)
  have hsn := take_snoc hx2 hl2
  have hp2 : (L2.take n ++ [x]).Perm L := by rw [← hsn]; exact q1.trans hs1
  (repeat (refine gG ?_; try intro _))
  obtain ⟨L3, h3⟩ : ∃ L3, L3 = L2.take n := ⟨_, rfl⟩
  have h3h : HeapN H.lt L3 L3.length := by rw [h3]; exact heap_take hh2 (by omega)
  have h3l : L3.length = n := by rw [h3, List.length_take]; omega
  rw [← h3] at hsn hp2
  subst hsn
  refine g_mv rfl (mv_inv_mod rfl rfl rfl rfl rfl (fun w hk => H.pop s L3 x w (hk.rO mE) (H.okp _ _ hp2 hok) (by omega)) (by intro _; first | ((repeat (first | with_reducible exact Upd.here _ | with_reducible apply Upd.there)); done) | ((repeat (first | exact Upd.here _ | apply Upd.there)); done) | fail) (fun s3 _ => ?_))
  (repeat (refine gG ?_; try intro _))
  refine gk_ret hT rfl rfl (.tmp rfl .nil) (fun w' hk => ?_)
  exact RetM.mk (s3, L3, x) ⟨hx, hp2, h3h⟩ rfl hk (fun b hb => (hE b).2 hb) mE
end Go.Proofs.Yteajefmnbalofaa.Hp

