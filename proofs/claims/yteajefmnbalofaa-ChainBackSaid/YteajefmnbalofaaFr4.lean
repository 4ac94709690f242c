/- Blocks that are free: Give, Take. -/
import Derived.Test.YteajefmnbalofaaFr3
namespace Go.Proofs.Yteajefmnbalofaa.Hp
open Go.RowKit Mem Gx
set_option linter.unusedVariables false
set_option linter.unusedSimpArgs false
set_option maxRecDepth 100000
set_option maxHeartbeats 1000000
def ins (b : Int) : List Int → List Int
  | [] => [b]
  | x :: r => if x < b then x :: ins b r else b :: x :: r
theorem ins_perm (b : Int) : ∀ S : List Int, (ins b S).Perm (b :: S)
  | [] => List.Perm.refl _
  | x :: r => by
    unfold ins
    split
    · exact ((ins_perm b r).cons x).trans (List.Perm.swap b x r)
    · exact List.Perm.refl _
theorem ins_sorted (b : Int) : ∀ S : List Int, S.Pairwise (· < ·) → b ∉ S → (ins b S).Pairwise (· < ·)
  | [], _, _ => List.pairwise_singleton _ _
  | x :: r, h, hb => by
    obtain ⟨h1, h2⟩ := List.pairwise_cons.1 h
    unfold ins
    split
    · rename_i hx
      refine List.pairwise_cons.2 ⟨fun y hy => ?_, ins_sorted b r h2 fun h => hb (.tail _ h)⟩
      rcases List.mem_cons.1 ((ins_perm b r).mem_iff.1 hy) with e | e
      · omega
      · exact h1 y e
    · rename_i hx
      have hxb : b < x := by
        have : b ≠ x := fun e => hb (by rw [e]; exact .head _)
        omega
      exact List.pairwise_cons.2 ⟨fun y hy => by
        rcases List.mem_cons.1 hy with e | e
        · omega
        · have := h1 y e; omega, h⟩
def giveP (b : Int) (S : List Int) : List Int × Bool := if b = 0 ∨ b ∈ S then (S, false) else (ins b S, true)
theorem give_no {b : Int} {S : List Int} (h : b = 0 ∨ b ∈ S) : giveP b S = (S, false) := if_pos h
theorem give_yes {b : Int} {S : List Int} (h : ¬ (b = 0 ∨ b ∈ S)) : giveP b S = (ins b S, true) := if_neg h
def takeP : List Int → List Int × Int × Bool
  | [] => ([], 0, false)
  | x :: r => (r, x, true)
theorem FrOk.add {mo : Option Nat} {v v1 : Value} {L L1 K : List Int} {S : List Int} {b : Int} {r : Nat} (h : FrOk ⟨mo, v, L, K⟩ S) (hb : b ∉ S) (hl : S.length < 10000) (hp : L1.Perm (L ++ [b])) (hh : HeapN (fun x y : Int => x < y) L1 L1.length) : FrOk ⟨some r, v1, L1, K ++ [b]⟩ (ins b S) where
  l := hp.trans ((List.perm_append_comm.trans (h.l.cons b)).trans (ins_perm b S).symm)
  k := (List.perm_append_comm.trans (h.k.cons b)).trans (ins_perm b S).symm
  sorted := ins_sorted b S h.sorted hb
  heap := hh
  nil e := by cases e
  len := by rw [(ins_perm b S).length_eq]; show S.length + 1 ≤ 10000; omega
theorem FrOk.least {s : FrS} {S' : List Int} {x x' : Int} (h : FrOk s (x :: S')) (hx : s.L[0]? = some x') : x' = x := by
  have h1 : ∀ z, z ∈ s.L → ¬ z < x' := fun z hz => by
    obtain ⟨k, hk⟩ := List.getElem?_of_mem hz
    exact h.heap.root lt_int (Nat.le_refl _) hx k (List.getElem?_eq_some_iff.1 hk).1 z hk
  have h2 := h1 x (h.l.mem_iff.2 (.head _))
  have h3 : x' ∈ x :: S' := h.l.mem_iff.1 (List.mem_of_getElem? hx)
  rcases List.mem_cons.1 h3 with e | e
  · exact e
  · have := (List.pairwise_cons.1 h.sorted).1 x' e
    omega
theorem FrOk.less {s : FrS} {mo : Option Nat} {v1 : Value} {L1 K1 S S' : List Int} {x : Int} (h : FrOk s S) (hmo : mo ≠ none) (hS : (x :: S').Perm S) (hs : S'.Pairwise (· < ·)) (hp : (L1 ++ [x]).Perm s.L) (hk : (x :: K1).Perm s.K) (hh : HeapN (fun x y : Int => x < y) L1 L1.length) : FrOk ⟨mo, v1, L1, K1⟩ S' where
  l := ((List.perm_append_comm.symm.trans (hp.trans (h.l.trans hS.symm))) : (x :: L1).Perm (x :: S')).cons_inv
  k := (hk.trans (h.k.trans hS.symm)).cons_inv
  sorted := hs
  heap := hh
  nil e := absurd e hmo
  len := by have := hS.length_eq; have := h.len; simp at *; omega
theorem lgive_any (g : Nat) (s : FrS) (S : List Int) (b : Int) (w : World) (hs : FrOk s S) (hl : S.length < 10000) (h : Rd1 w (packF (frF g s))) :
    Calls Try.prog 81 [.pointer (some ⟨g, 0, none⟩), .int .u32 b].toArray w (RetM (packF (frF g s)) (fun r : FrS × Bool => FrOk r.1 (giveP b S).1 ∧ r.2 = (giveP b S).2) (fun r => .bool r.2) (fun r => packF (frF g r.1)) w) := by
  obtain ⟨mo, v, L, K⟩ := s
  have hLl : L.length = S.length := hs.l.length_eq
  have hKm : ∀ x, x ∈ K ↔ x ∈ S := fun x => hs.k.mem_iff
  by_cases hb : b = 0
  · rw [give_no (.inl hb)]
    refine g_enter0 T _ (frF g ⟨mo, v, L, K⟩) [] Try.func81 rfl Try.ntmps81 rfl (Kn.startP h (fun b hb => (frF_fin g _ b).1 hb) (fun _ h => by cases h)) ?_
    (repeat' (first | (refine gG ?_; try intro _) | ((first | refine g_split rfl rfl tE (fun _ => ?_) (fun _ => ?_) | refine gk_cond rfl rfl tE (fun _ => ?_) (fun _ => ?_)) <;> (try first | (exfalso; omega; done) | (rename_i hx; exact absurd rfl hx) | (rename_i hx; cases hx; done)))))
    refine gk_ret hT rfl rfl (.tmp rfl .nil) (fun w' hk => ?_)
    exact RetM.mkP (ll := fun r : FrS × Bool => frF g r.1) (⟨mo, v, L, K⟩, false) ⟨hs, rfl⟩ rfl hk (fun b hb => (frF_fin g _ b).2 hb) sA
  · cases mo with
    | none =>
      have hS0 : S = [] := hs.nil rfl
      subst hS0
      obtain rfl : L = [] := by simpa using hLl
      have hK0 : K = [] := by have := hs.k.length_eq; simpa using this
      subst hK0
      rw [give_yes (by simp [hb])]
      refine g_enter0 T _ (frF g ⟨none, v, [], []⟩) [] Try.func81 rfl Try.ntmps81 rfl (Kn.startP h (fun b hb => (frF_fin g _ b).1 hb) (fun _ h => by cases h)) ?_
      change GK _ _ _ [packF (frL g [.map none] 129 v []), mpo none []] _
      refine gk_unpack (by repeat (first | with_reducible exact Sel.here | with_reducible apply Sel.there)) ?_
      (repeat' (first | (refine gG ?_; try intro _) | ((first | refine g_split rfl rfl tE (fun _ => ?_) (fun _ => ?_) | refine gk_cond rfl rfl tE (fun _ => ?_) (fun _ => ?_)) <;> (try first | (exfalso; omega; done) | (rename_i hx; exact absurd rfl hx) | (rename_i hx; cases hx; done)))))
      refine g_yd rfl rfl (Ys.yd (ys_lookup_nil rfl rfl rfl Try.underlying98 Try.underlying60 z_int)) ?_
      (repeat' (first | (refine gG ?_; try intro _) | ((first | refine g_split rfl rfl tE (fun _ => ?_) (fun _ => ?_) | refine gk_cond rfl rfl tE (fun _ => ?_) (fun _ => ?_)) <;> (try first | (exfalso; omega; done) | (rename_i hx; exact absurd rfl hx) | (rename_i hx; cases hx; done)))))
      refine g_yd rfl rfl (Ys.yd (ys_map_nil hT rfl rfl rfl Try.underlying98)) ?_
      (repeat' (first | (refine gG ?_; try intro _) | ((first | refine g_split rfl rfl tE (fun _ => ?_) (fun _ => ?_) | refine gk_cond rfl rfl tE (fun _ => ?_) (fun _ => ?_)) <;> (try first | (exfalso; omega; done) | (rename_i hx; exact absurd rfl hx) | (rename_i hx; cases hx; done)))))
      refine g_mv rfl (mv_makeMap rfl .u32 rfl (fun r => ?_))
      (repeat' (first | (refine gG ?_; try intro _) | ((first | refine g_split rfl rfl tE (fun _ => ?_) (fun _ => ?_) | refine gk_cond rfl rfl tE (fun _ => ?_) (fun _ => ?_)) <;> (try first | (exfalso; omega; done) | (rename_i hx; exact absurd rfl hx) | (rename_i hx; cases hx; done)))))
      refine g_mv rfl (mv_mapUpdate rfl rfl rfl rfl rfl Try.underlying98 Try.underlying60 (by first | ((repeat (first | with_reducible exact Upd.here _ | with_reducible apply Upd.there)); done) | ((repeat (first | exact Upd.here _ | apply Upd.there)); done) | fail) ?_)
      (repeat' (first | (refine gG ?_; try intro _) | ((first | refine g_split rfl rfl tE (fun _ => ?_) (fun _ => ?_) | refine gk_cond rfl rfl tE (fun _ => ?_) (fun _ => ?_)) <;> (try first | (exfalso; omega; done) | (rename_i hx; exact absurd rfl hx) | (rename_i hx; cases hx; done)))))
      refine g_yd rfl rfl (Ys.yd (ys_makeIface rfl rfl (by kernel_rfl))) ?_
      (repeat' (first | (refine gG ?_; try intro _) | ((first | refine g_split rfl rfl tE (fun _ => ?_) (fun _ => ?_) | refine gk_cond rfl rfl tE (fun _ => ?_) (fun _ => ?_)) <;> (try first | (exfalso; omega; done) | (rename_i hx; exact absurd rfl hx) | (rename_i hx; cases hx; done)))))
      refine g_yd rfl rfl (Ys.yd (ys_makeIface rfl rfl (by kernel_rfl))) ?_
      refine g_pack (frL g [.map (some r)] 129 v []) [mp r .u32 (mset b one [])] sA ?_
      refine g_mv rfl (mv_call_mod (φ := packF (frL g [.map (some r)] 129 v [])) (ψ := fun q : Value × List Int => packF (frL g [.map (some r)] 129 q.1 q.2)) (fun w hk => hpush_any (frHO g [.map (some r)] 129) v [] b w (hk.rO (φ := packF (frL g [.map (some r)] 129 v [])) mE) trivial (by decide) (fun k h0 hk => absurd hk (Nat.not_lt_zero _))) rfl rfl rfl rfl rfl (by kernel_rfl) (by intro _; first | ((repeat (first | with_reducible exact Upd.here _ | with_reducible apply Upd.there)); done) | ((repeat (first | exact Upd.here _ | apply Upd.there)); done) | fail) (fun q hI => ?_))
      obtain ⟨v1, L1⟩ := q
      obtain ⟨hp, hh⟩ := hI
      (repeat' (first | (refine gG ?_; try intro _) | ((first | refine g_split rfl rfl tE (fun _ => ?_) (fun _ => ?_) | refine gk_cond rfl rfl tE (fun _ => ?_) (fun _ => ?_)) <;> (try first | (exfalso; omega; done) | (rename_i hx; exact absurd rfl hx) | (rename_i hx; cases hx; done)))))
      refine gk_ret hT rfl rfl (.tmp rfl .nil) (fun w' hk => ?_)
      exact RetM.mkP (ll := fun r : FrS × Bool => frF g r.1) (⟨some r, v1, L1, [b]⟩, true) ⟨hs.add (v := v) (by simp) hl hp hh, rfl⟩ rfl hk (fun b hb => (frF_fin g _ b).2 hb) (sA : SelAll [packF (frL g [.map (some r)] 129 v1 L1), mp r .u32 (mset b one [])] _)
    | some r =>
      by_cases hbK : b ∈ K
      · rw [give_no (.inr ((hKm b).1 hbK))]
        refine g_enter0 T _ (frF g ⟨some r, v, L, K⟩) [] Try.func81 rfl Try.ntmps81 rfl (Kn.startP h (fun b hb => (frF_fin g _ b).1 hb) (fun _ h => by cases h)) ?_
        change GK _ _ _ [packF (frL g [.map (some r)] 129 v L), mp r .u32 (kv K)] _
        refine gk_unpack (by repeat (first | with_reducible exact Sel.here | with_reducible apply Sel.there)) ?_
        (repeat' (first | (refine gG ?_; try intro _) | ((first | refine g_split rfl rfl tE (fun _ => ?_) (fun _ => ?_) | refine gk_cond rfl rfl tE (fun _ => ?_) (fun _ => ?_)) <;> (try first | (exfalso; omega; done) | (rename_i hx; exact absurd rfl hx) | (rename_i hx; cases hx; done)))))
        refine g_yd rfl rfl ((ys_lookup (S := [mp r .u32 (kv K)]) rfl rfl rfl Try.underlying98 Try.underlying60 z_int mE).ydS sF) ?_
        refine g_say 13 (.int .i64 1) rfl (has_val.trans (by rw [if_pos hbK])) ?_
        (repeat' (first | (refine gG ?_; try intro _) | ((first | refine g_split rfl rfl tE (fun _ => ?_) (fun _ => ?_) | refine gk_cond rfl rfl tE (fun _ => ?_) (fun _ => ?_)) <;> (try first | (exfalso; omega; done) | (rename_i hx; exact absurd rfl hx) | (rename_i hx; cases hx; done)))))
        refine gk_pack (frL g [.map (some r)] 129 v L) [mp r .u32 (kv K)] sA ?_
        refine gk_ret hT rfl rfl (.tmp rfl .nil) (fun w' hk => ?_)
        exact RetM.mkP (ll := fun r : FrS × Bool => frF g r.1) (⟨some r, v, L, K⟩, false) ⟨hs, rfl⟩ rfl hk (fun b hb => (frF_fin g _ b).2 hb) (sA : SelAll [packF (frL g [.map (some r)] 129 v L), mp r .u32 (kv K)] _)
      · have hbS : b ∉ S := fun h => hbK ((hKm b).2 h)
        rw [give_yes (by simp [hb, hbS])]
        refine g_enter0 T _ (frF g ⟨some r, v, L, K⟩) [] Try.func81 rfl Try.ntmps81 rfl (Kn.startP h (fun b hb => (frF_fin g _ b).1 hb) (fun _ h => by cases h)) ?_
        change GK _ _ _ [packF (frL g [.map (some r)] 129 v L), mp r .u32 (kv K)] _
        refine gk_unpack (by repeat (first | with_reducible exact Sel.here | with_reducible apply Sel.there)) ?_
        (repeat' (first | (refine gG ?_; try intro _) | ((first | refine g_split rfl rfl tE (fun _ => ?_) (fun _ => ?_) | refine gk_cond rfl rfl tE (fun _ => ?_) (fun _ => ?_)) <;> (try first | (exfalso; omega; done) | (rename_i hx; exact absurd rfl hx) | (rename_i hx; cases hx; done)))))
        refine g_yd rfl rfl ((ys_lookup (S := [mp r .u32 (kv K)]) rfl rfl rfl Try.underlying98 Try.underlying60 z_int mE).ydS sF) ?_
        refine g_say 13 (.int .i64 0) rfl (has_val.trans (by rw [if_neg hbK])) ?_
        (repeat' (first | (refine gG ?_; try intro _) | ((first | refine g_split rfl rfl tE (fun _ => ?_) (fun _ => ?_) | refine gk_cond rfl rfl tE (fun _ => ?_) (fun _ => ?_)) <;> (try first | (exfalso; omega; done) | (rename_i hx; exact absurd rfl hx) | (rename_i hx; cases hx; done)))))
        refine g_yd rfl rfl (Ys.yd (ys_map_nil hT rfl rfl rfl Try.underlying98)) ?_
        (repeat' (first | (refine gG ?_; try intro _) | ((first | refine g_split rfl rfl tE (fun _ => ?_) (fun _ => ?_) | refine gk_cond rfl rfl tE (fun _ => ?_) (fun _ => ?_)) <;> (try first | (exfalso; omega; done) | (rename_i hx; exact absurd rfl hx) | (rename_i hx; cases hx; done)))))
        refine g_mv rfl (mv_mapUpdate rfl rfl rfl rfl rfl Try.underlying98 Try.underlying60 (by first | ((repeat (first | with_reducible exact Upd.here _ | with_reducible apply Upd.there)); done) | ((repeat (first | exact Upd.here _ | apply Upd.there)); done) | fail) ?_)
        rw [kv_set hbK]
        (repeat' (first | (refine gG ?_; try intro _) | ((first | refine g_split rfl rfl tE (fun _ => ?_) (fun _ => ?_) | refine gk_cond rfl rfl tE (fun _ => ?_) (fun _ => ?_)) <;> (try first | (exfalso; omega; done) | (rename_i hx; exact absurd rfl hx) | (rename_i hx; cases hx; done)))))
        refine g_yd rfl rfl (Ys.yd (ys_makeIface rfl rfl (by kernel_rfl))) ?_
        (repeat' (first | (refine gG ?_; try intro _) | ((first | refine g_split rfl rfl tE (fun _ => ?_) (fun _ => ?_) | refine gk_cond rfl rfl tE (fun _ => ?_) (fun _ => ?_)) <;> (try first | (exfalso; omega; done) | (rename_i hx; exact absurd rfl hx) | (rename_i hx; cases hx; done)))))
        refine g_yd rfl rfl (Ys.yd (ys_makeIface rfl rfl (by kernel_rfl))) ?_
        refine g_pack (frL g [.map (some r)] 129 v L) [mp r .u32 (kv (K ++ [b]))] sA ?_
        refine g_mv rfl (mv_call_mod (φ := packF (frL g [.map (some r)] 129 v L)) (ψ := fun q : Value × List Int => packF (frL g [.map (some r)] 129 q.1 q.2)) (fun w hk => hpush_any (frHO g [.map (some r)] 129) v L b w (hk.rO (φ := packF (frL g [.map (some r)] 129 v L)) mE) trivial (by omega) hs.heap) rfl rfl rfl rfl rfl (by kernel_rfl) (by intro _; first | ((repeat (first | with_reducible exact Upd.here _ | with_reducible apply Upd.there)); done) | ((repeat (first | exact Upd.here _ | apply Upd.there)); done) | fail) (fun q hI => ?_))
        obtain ⟨v1, L1⟩ := q
        obtain ⟨hp, hh⟩ := hI
        (repeat' (first | (refine gG ?_; try intro _) | ((first | refine g_split rfl rfl tE (fun _ => ?_) (fun _ => ?_) | refine gk_cond rfl rfl tE (fun _ => ?_) (fun _ => ?_)) <;> (try first | (exfalso; omega; done) | (rename_i hx; exact absurd rfl hx) | (rename_i hx; cases hx; done)))))
        refine gk_ret hT rfl rfl (.tmp rfl .nil) (fun w' hk => ?_)
        exact RetM.mkP (ll := fun r : FrS × Bool => frF g r.1) (⟨some r, v1, L1, K ++ [b]⟩, true) ⟨hs.add (v := v) hbS hl hp hh, rfl⟩ rfl hk (fun b hb => (frF_fin g _ b).2 hb) (sA : SelAll [packF (frL g [.map (some r)] 129 v1 L1), mp r .u32 (kv (K ++ [b]))] _)
end Go.Proofs.Yteajefmnbalofaa.Hp

