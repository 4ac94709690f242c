/- Blocks that are free: Give, Take. Blocks that are free: Take, Drop. free.List: New. -/
import Derived.Test.YtaghmffgoomebaaGreatFr3
namespace Go.Proofs.YtaghmffgoomebaaGreat.Hp
open Go.RowKit Mem Gx
set_option linter.unusedVariables false
set_option linter.unusedSimpArgs false
set_option maxRecDepth 100000
set_option maxHeartbeats 1000000
def ins (b : Int) : List Int → List Int
  | [] => [b]
  | x :: r => if x < b then x :: ins b r else b :: x :: r
theorem ins_perm (b : Int) : ∀ S : List Int, (ins b S).Perm (b :: S)
  | [] => List.Perm.refl _
  | x :: r => by
    unfold ins
    split
    · exact ((ins_perm b r).cons x).trans (List.Perm.swap b x r)
    · exact List.Perm.refl _
theorem ins_sorted (b : Int) : ∀ S : List Int, S.Pairwise (· < ·) → b ∉ S → (ins b S).Pairwise (· < ·)
  | [], _, _ => List.pairwise_singleton _ _
  | x :: r, h, hb => by
    obtain ⟨h1, h2⟩ := List.pairwise_cons.1 h
    unfold ins
    split
    · rename_i hx
      refine List.pairwise_cons.2 ⟨fun y hy => ?_, ins_sorted b r h2 fun h => hb (.tail _ h)⟩
      rcases List.mem_cons.1 ((ins_perm b r).mem_iff.1 hy) with e | e
      · omega
      · exact h1 y e
    · rename_i hx
      have hxb : b < x := by
        have : b ≠ x := fun e => hb (by rw [e]; exact .head _)
        omega
      exact List.pairwise_cons.2 ⟨fun y hy => by
        rcases List.mem_cons.1 hy with e | e
        · omega
        · have := h1 y e; omega, h⟩
def giveP (b : Int) (S : List Int) : List Int × Bool := if b = 0 ∨ b ∈ S then (S, false) else (ins b S, true)
theorem give_no {b : Int} {S : List Int} (h : b = 0 ∨ b ∈ S) : giveP b S = (S, false) := if_pos h
theorem give_yes {b : Int} {S : List Int} (h : ¬ (b = 0 ∨ b ∈ S)) : giveP b S = (ins b S, true) := if_neg h
def takeP : List Int → List Int × Int × Bool
  | [] => ([], 0, false)
  | x :: r => (r, x, true)
theorem FrOk.add {mo : Option Nat} {v v1 : Value} {L L1 K : List Int} {S : List Int} {b : Int} {r : Nat} (h : FrOk ⟨mo, v, L, K⟩ S) (hb : b ∉ S) (hl : S.length < 10000) (hp : L1.Perm (L ++ [b])) (hh : HeapN (fun x y : Int => x < y) L1 L1.length) : FrOk ⟨some r, v1, L1, K ++ [b]⟩ (ins b S) where
  l := hp.trans ((List.perm_append_comm.trans (h.l.cons b)).trans (ins_perm b S).symm)
  k := (List.perm_append_comm.trans (h.k.cons b)).trans (ins_perm b S).symm
  sorted := ins_sorted b S h.sorted hb
  heap := hh
  nil e := by cases e
  len := by rw [(ins_perm b S).length_eq]; show S.length + 1 ≤ 10000; omega
theorem FrOk.least {s : FrS} {S' : List Int} {x x' : Int} (h : FrOk s (x :: S')) (hx : s.L[0]? = some x') : x' = x := by
  have h1 : ∀ z, z ∈ s.L → ¬ z < x' := fun z hz => by
    obtain ⟨k, hk⟩ := List.getElem?_of_mem hz
    exact h.heap.root lt_int (Nat.le_refl _) hx k (List.getElem?_eq_some_iff.1 hk).1 z hk
  have h2 := h1 x (h.l.mem_iff.2 (.head _))
  have h3 : x' ∈ x :: S' := h.l.mem_iff.1 (List.mem_of_getElem? hx)
  rcases List.mem_cons.1 h3 with e | e
  · exact e
  · have := (List.pairwise_cons.1 h.sorted).1 x' e
    omega
theorem FrOk.less {s : FrS} {mo : Option Nat} {v1 : Value} {L1 K1 S S' : List Int} {x : Int} (h : FrOk s S) (hmo : mo ≠ none) (hS : (x :: S').Perm S) (hs : S'.Pairwise (· < ·)) (hp : (L1 ++ [x]).Perm s.L) (hk : (x :: K1).Perm s.K) (hh : HeapN (fun x y : Int => x < y) L1 L1.length) : FrOk ⟨mo, v1, L1, K1⟩ S' where
  l := ((List.perm_append_comm.symm.trans (hp.trans (h.l.trans hS.symm))) : (x :: L1).Perm (x :: S')).cons_inv
  k := (hk.trans (h.k.trans hS.symm)).cons_inv
  sorted := hs
  heap := hh
  nil e := absurd e hmo
  len := by have := hS.length_eq; have := h.len; simp at *; omega
theorem lgive_any (g : Nat) (s : FrS) (S : List Int) (b : Int) (w : World) (hs : FrOk s S) (hl : S.length < 10000) (h : Rd1 w (packF (frF g s))) :
    Calls Tryz.prog 72 [.pointer (some ⟨g, 0, none⟩), .int .u32 b].toArray w (RetM (packF (frF g s)) (fun r : FrS × Bool => FrOk r.1 (giveP b S).1 ∧ r.2 = (giveP b S).2) (fun r => .bool r.2) (fun r => packF (frF g r.1)) w) := by
  obtain ⟨mo, v, L, K⟩ := s
  have hLl : L.length = S.length := hs.l.length_eq
  have hKm : ∀ x, x ∈ K ↔ x ∈ S := fun x => hs.k.mem_iff
  by_cases hb : b = 0
  · rw [give_no (.inl hb)]
    refine g_enter0 T _ (frF g ⟨mo, v, L, K⟩) [] Tryz.func72 rfl Tryz.ntmps72 rfl (Kn.startP h (fun b hb => (frF_fin g _ b).1 hb) (fun _ h => by cases h)) ?_
    (repeat' (first | (refine gG ?_; try intro _) | ((first | refine g_split rfl rfl tE (fun _ => ?_) (fun _ => ?_) | refine gk_cond rfl rfl tE (fun _ => ?_) (fun _ => ?_)) <;> (try first | (exfalso; omega; done) | (rename_i hx; exact absurd rfl hx) | (rename_i hx; cases hx; done)))))
    refine gk_ret hT rfl rfl (.tmp rfl .nil) (fun w' hk => ?_)
    exact RetM.mkP (ll := fun r : FrS × Bool => frF g r.1) (⟨mo, v, L, K⟩, false) ⟨hs, rfl⟩ rfl hk (fun b hb => (frF_fin g _ b).2 hb) sA
  · cases mo with
    | none =>
      have hS0 : S = [] := hs.nil rfl
      subst hS0
      obtain rfl : L = [] := by simpa using hLl
      have hK0 : K = [] := by have := hs.k.length_eq; simpa using this
      subst hK0
      rw [give_yes (by simp [hb])]
      refine g_enter0 T _ (frF g ⟨none, v, [], []⟩) [] Tryz.func72 rfl Tryz.ntmps72 rfl (Kn.startP h (fun b hb => (frF_fin g _ b).1 hb) (fun _ h => by cases h)) ?_
      change GK _ _ _ [packF (frL g [.map none] 151 v []), mpo none []] _
      refine gk_unpack (by repeat (first | with_reducible exact Sel.here | with_reducible apply Sel.there)) ?_
      (repeat' (first | (refine gG ?_; try intro _) | ((first | refine g_split rfl rfl tE (fun _ => ?_) (fun _ => ?_) | refine gk_cond rfl rfl tE (fun _ => ?_) (fun _ => ?_)) <;> (try first | (exfalso; omega; done) | (rename_i hx; exact absurd rfl hx) | (rename_i hx; cases hx; done)))))
      refine g_yd rfl rfl (Ys.yd (ys_lookup_nil rfl rfl rfl Tryz.underlying79 Tryz.underlying26 z_int)) ?_
      (repeat' (first | (refine gG ?_; try intro _) | ((first | refine g_split rfl rfl tE (fun _ => ?_) (fun _ => ?_) | refine gk_cond rfl rfl tE (fun _ => ?_) (fun _ => ?_)) <;> (try first | (exfalso; omega; done) | (rename_i hx; exact absurd rfl hx) | (rename_i hx; cases hx; done)))))
      refine g_yd rfl rfl (Ys.yd (ys_map_nil hT rfl rfl rfl Tryz.underlying79)) ?_
      (repeat' (first | (refine gG ?_; try intro _) | ((first | refine g_split rfl rfl tE (fun _ => ?_) (fun _ => ?_) | refine gk_cond rfl rfl tE (fun _ => ?_) (fun _ => ?_)) <;> (try first | (exfalso; omega; done) | (rename_i hx; exact absurd rfl hx) | (rename_i hx; cases hx; done)))))
      refine g_mv rfl (mv_makeMap rfl .u32 rfl (fun r => ?_))
      (repeat' (first | (refine gG ?_; try intro _) | ((first | refine g_split rfl rfl tE (fun _ => ?_) (fun _ => ?_) | refine gk_cond rfl rfl tE (fun _ => ?_) (fun _ => ?_)) <;> (try first | (exfalso; omega; done) | (rename_i hx; exact absurd rfl hx) | (rename_i hx; cases hx; done)))))
      refine g_mv rfl (mv_mapUpdate rfl rfl rfl rfl rfl Tryz.underlying79 Tryz.underlying26 (by first | ((repeat (first | with_reducible exact Upd.here _ | with_reducible apply Upd.there)); done) | ((repeat (first | exact Upd.here _ | apply Upd.there)); done) | fail) ?_)
      (repeat' (first | (refine gG ?_; try intro _) | ((first | refine g_split rfl rfl tE (fun _ => ?_) (fun _ => ?_) | refine gk_cond rfl rfl tE (fun _ => ?_) (fun _ => ?_)) <;> (try first | (exfalso; omega; done) | (rename_i hx; exact absurd rfl hx) | (rename_i hx; cases hx; done)))))
      refine g_yd rfl rfl (Ys.yd (ys_makeIface rfl rfl (by kernel_rfl))) ?_
      (repeat' (first | (refine gG ?_; try intro _) | ((first | refine g_split rfl rfl tE (fun _ => ?_) (fun _ => ?_) | refine gk_cond rfl rfl tE (fun _ => ?_) (fun _ => ?_)) <;> (try first | (exfalso; omega; done) | (rename_i hx; exact absurd rfl hx) | (rename_i hx; cases hx; done)))))
      refine g_yd rfl rfl (Ys.yd (ys_makeIface rfl rfl (by kernel_rfl))) ?_
      refine g_pack (frL g [.map (some r)] 151 v []) [mp r .u32 (mset b one [])] sA ?_
      refine g_mv rfl (mv_call_mod (φ := packF (frL g [.map (some r)] 151 v [])) (ψ := fun q : Value × List Int => packF (frL g [.map (some r)] 151 q.1 q.2)) (fun w hk => hpush_any (frHO g [.map (some r)] 151) v [] b w (hk.rO (φ := packF (frL g [.map (some r)] 151 v [])) mE) trivial (by decide) (fun k h0 hk => absurd hk (Nat.not_lt_zero _))) rfl rfl rfl rfl rfl (by kernel_rfl) (by intro _; first | ((repeat (first | with_reducible exact Upd.here _ | with_reducible apply Upd.there)); done) | ((repeat (first | exact Upd.here _ | apply Upd.there)); done) | fail) (fun q hI => ?_))
      obtain ⟨v1, L1⟩ := q
      obtain ⟨hp, hh⟩ := hI
      (repeat' (first | (refine gG ?_; try intro _) | ((first | refine g_split rfl rfl tE (fun _ => ?_) (fun _ => ?_) | refine gk_cond rfl rfl tE (fun _ => ?_) (fun _ => ?_)) <;> (try first | (exfalso; omega; done) | (rename_i hx; exact absurd rfl hx) | (rename_i hx; cases hx; done)))))
      refine gk_ret hT rfl rfl (.tmp rfl .nil) (fun w' hk => ?_)
      exact RetM.mkP (ll := fun r : FrS × Bool => frF g r.1) (⟨some r, v1, L1, [b]⟩, true) ⟨hs.add (v := v) (by simp) hl hp hh, rfl⟩ rfl hk (fun b hb => (frF_fin g _ b).2 hb) (sA : SelAll [packF (frL g [.map (some r)] 151 v1 L1), mp r .u32 (mset b one [])] _)
    | some r =>
      by_cases hbK : b ∈ K
      · rw [give_no (.inr ((hKm b).1 hbK))]
        refine g_enter0 T _ (frF g ⟨some r, v, L, K⟩) [] Tryz.func72 rfl Tryz.ntmps72 rfl (Kn.startP h (fun b hb => (frF_fin g _ b).1 hb) (fun _ h => by cases h)) ?_
        change GK _ _ _ [packF (frL g [.map (some r)] 151 v L), mp r .u32 (kv K)] _
        refine gk_unpack (by repeat (first | with_reducible exact Sel.here | with_reducible apply Sel.there)) ?_
        (repeat' (first | (refine gG ?_; try intro _) | ((first | refine g_split rfl rfl tE (fun _ => ?_) (fun _ => ?_) | refine gk_cond rfl rfl tE (fun _ => ?_) (fun _ => ?_)) <;> (try first | (exfalso; omega; done) | (rename_i hx; exact absurd rfl hx) | (rename_i hx; cases hx; done)))))
        refine g_yd rfl rfl ((ys_lookup (S := [mp r .u32 (kv K)]) rfl rfl rfl Tryz.underlying79 Tryz.underlying26 z_int mE).ydS sF) ?_
        refine g_say 13 (.int .i64 1) rfl (has_val.trans (by rw [if_pos hbK])) ?_
        (repeat' (first | (refine gG ?_; try intro _) | ((first | refine g_split rfl rfl tE (fun _ => ?_) (fun _ => ?_) | refine gk_cond rfl rfl tE (fun _ => ?_) (fun _ => ?_)) <;> (try first | (exfalso; omega; done) | (rename_i hx; exact absurd rfl hx) | (rename_i hx; cases hx; done)))))
        refine gk_pack (frL g [.map (some r)] 151 v L) [mp r .u32 (kv K)] sA ?_
        refine gk_ret hT rfl rfl (.tmp rfl .nil) (fun w' hk => ?_)
        exact RetM.mkP (ll := fun r : FrS × Bool => frF g r.1) (⟨some r, v, L, K⟩, false) ⟨hs, rfl⟩ rfl hk (fun b hb => (frF_fin g _ b).2 hb) (sA : SelAll [packF (frL g [.map (some r)] 151 v L), mp r .u32 (kv K)] _)
      · have hbS : b ∉ S := fun h => hbK ((hKm b).2 h)
        rw [give_yes (by simp [hb, hbS])]
        refine g_enter0 T _ (frF g ⟨some r, v, L, K⟩) [] Tryz.func72 rfl Tryz.ntmps72 rfl (Kn.startP h (fun b hb => (frF_fin g _ b).1 hb) (fun _ h => by cases h)) ?_
        change GK _ _ _ [packF (frL g [.map (some r)] 151 v L), mp r .u32 (kv K)] _
        refine gk_unpack (by repeat (first | with_reducible exact Sel.here | with_reducible apply Sel.there)) ?_
        (repeat' (first | (refine gG ?_; try intro _) | ((first | refine g_split rfl rfl tE (fun _ => ?_) (fun _ => ?_) | refine gk_cond rfl rfl tE (fun _ => ?_) (fun _ => ?_)) <;> (try first | (exfalso; omega; done) | (rename_i hx; exact absurd rfl hx) | (rename_i hx; cases hx; done)))))
        refine g_yd rfl rfl ((ys_lookup (S := [mp r .u32 (kv K)]) rfl rfl rfl Tryz.underlying79 Tryz.underlying26 z_int mE).ydS sF) ?_
        refine g_say 13 (.int .i64 0) rfl (has_val.trans (by rw [if_neg hbK])) ?_
        (repeat' (first | (refine gG ?_; try intro _) | ((first | refine g_split rfl rfl tE (fun _ => ?_) (fun _ => ?_) | refine gk_cond rfl rfl tE (fun _ => ?_) (fun _ => ?_)) <;> (try first | (exfalso; omega; done) | (rename_i hx; exact absurd rfl hx) | (rename_i hx; cases hx; done)))))
        refine g_yd rfl rfl (Ys.yd (ys_map_nil hT rfl rfl rfl Tryz.underlying79)) ?_
        (repeat' (first | (refine gG ?_; try intro _) | ((first | refine g_split rfl rfl tE (fun _ => ?_) (fun _ => ?_) | refine gk_cond rfl rfl tE (fun _ => ?_) (fun _ => ?_)) <;> (try first | (exfalso; omega; done) | (rename_i hx; exact absurd rfl hx) | (rename_i hx; cases hx; done)))))
        refine g_mv rfl (mv_mapUpdate rfl rfl rfl rfl rfl Tryz.underlying79 Tryz.underlying26 (by first | ((repeat (first | with_reducible exact Upd.here _ | with_reducible apply Upd.there)); done) | ((repeat (first | exact Upd.here _ | apply Upd.there)); done) | fail) ?_)
        rw [kv_set hbK]
        (repeat' (first | (refine gG ?_; try intro _) | ((first | refine g_split rfl rfl tE (fun _ => ?_) (fun _ => ?_) | refine gk_cond rfl rfl tE (fun _ => ?_) (fun _ => ?_)) <;> (try first | (exfalso; omega; done) | (rename_i hx; exact absurd rfl hx) | (rename_i hx; cases hx; done)))))
        refine g_yd rfl rfl (Ys.yd (ys_makeIface rfl rfl (by kernel_rfl))) ?_
        (repeat' (first | (refine gG ?_; try intro _) | ((first | refine g_split rfl rfl tE (fun _ => ?_) (fun _ => ?_) | refine gk_cond rfl rfl tE (fun _ => ?_) (fun _ => ?_)) <;> (try first | (exfalso; omega; done) | (rename_i hx; exact absurd rfl hx) | (rename_i hx; cases hx; done)))))
        refine g_yd rfl rfl (Ys.yd (ys_makeIface rfl rfl (by kernel_rfl))) ?_
        refine g_pack (frL g [.map (some r)] 151 v L) [mp r .u32 (kv (K ++ [b]))] sA ?_
        refine g_mv rfl (mv_call_mod (φ := packF (frL g [.map (some r)] 151 v L)) (ψ := fun q : Value × List Int => packF (frL g [.map (some r)] 151 q.1 q.2)) (fun w hk => hpush_any (frHO g [.map (some r)] 151) v L b w (hk.rO (φ := packF (frL g [.map (some r)] 151 v L)) mE) trivial (by omega) hs.heap) rfl rfl rfl rfl rfl (by kernel_rfl) (by intro _; first | ((repeat (first | with_reducible exact Upd.here _ | with_reducible apply Upd.there)); done) | ((repeat (first | exact Upd.here _ | apply Upd.there)); done) | fail) (fun q hI => ?_))
        obtain ⟨v1, L1⟩ := q
        obtain ⟨hp, hh⟩ := hI
        (repeat' (first | (refine gG ?_; try intro _) | ((first | refine g_split rfl rfl tE (fun _ => ?_) (fun _ => ?_) | refine gk_cond rfl rfl tE (fun _ => ?_) (fun _ => ?_)) <;> (try first | (exfalso; omega; done) | (rename_i hx; exact absurd rfl hx) | (rename_i hx; cases hx; done)))))
        refine gk_ret hT rfl rfl (.tmp rfl .nil) (fun w' hk => ?_)
        exact RetM.mkP (ll := fun r : FrS × Bool => frF g r.1) (⟨some r, v1, L1, K ++ [b]⟩, true) ⟨hs.add (v := v) hbS hl hp hh, rfl⟩ rfl hk (fun b hb => (frF_fin g _ b).2 hb) (sA : SelAll [packF (frL g [.map (some r)] 151 v1 L1), mp r .u32 (kv (K ++ [b]))] _)
end Go.Proofs.YtaghmffgoomebaaGreat.Hp
namespace Go.Proofs.YtaghmffgoomebaaGreat.Hp
open Go.RowKit Mem Gx
set_option linter.unusedVariables false
set_option linter.unusedSimpArgs false
set_option maxRecDepth 100000
set_option maxHeartbeats 1000000
theorem fr_v {g : Nat} {s : FrS} {w : World} (h : Rd1 w (packF (frF g s))) : ∃ A c, s.v = .slice A s.L.length c ∧ s.L.length ≤ c ∧ c ≤ maxLen ∧ (A = none → c = 0) ∧ Rd1 w (sl A 1 (IE .u32) s.L) := own_rdv ((h.unpack (.head _)).unpack (.tail _ (.head _)))
theorem ltake_any (g : Nat) (s : FrS) (S : List Int) (w : World) (hs : FrOk s S) (h : Rd1 w (packF (frF g s))) :
    Calls Tryz.prog 103 [.pointer (some ⟨g, 0, none⟩)].toArray w (RetM (packF (frF g s)) (fun r : FrS × Int × Bool => FrOk r.1 (takeP S).1 ∧ r.2 = (takeP S).2) (fun r => .tuple #[.int .u32 r.2.1, .bool r.2.2]) (fun r => packF (frF g r.1)) w) := by
  obtain ⟨A, c, hv, hc, hm, hA, hrd⟩ := fr_v h
  obtain ⟨mo, v, L, K⟩ := s
  replace hv : v = .slice A L.length c := hv
  subst hv
  have hLl : L.length = S.length := hs.l.length_eq
  have hS9 := hs.len
  cases S with
  | nil =>
    obtain rfl : L = [] := by simpa using hLl
    refine g_enter0 T _ (frF g ⟨mo, .slice A ([] : List Int).length c, [], K⟩) [] Tryz.func103 rfl Tryz.ntmps103 rfl (Kn.startP h (fun b hb => (frF_fin g _ b).1 hb) (fun _ h => by cases h)) ?_
    change GK _ _ _ [packF (frL g [.map mo] 151 (.slice A 0 c) []), mpo mo K] _
    refine gk_unpack (by repeat (first | with_reducible exact Sel.here | with_reducible apply Sel.there)) ?_
    (repeat' (first | (refine gG ?_; try intro _) | ((first | refine g_split rfl rfl tE (fun _ => ?_) (fun _ => ?_) | refine gk_cond rfl rfl tE (fun _ => ?_) (fun _ => ?_)) <;> (try first | (exfalso; omega; done) | (rename_i hx; exact absurd rfl hx) | (rename_i hx; cases hx; done)))))
    refine gk_pack (frL g [.map mo] 151 (.slice A 0 c) []) [mpo mo K] sA ?_
    refine gk_ret hT rfl rfl (.tmp rfl (.tmp rfl .nil)) (fun w' hk => ?_)
    exact RetM.mkP (ll := fun r : FrS × Int × Bool => frF g r.1) (⟨mo, .slice A 0 c, [], K⟩, 0, false) ⟨hs, rfl⟩ rfl hk (fun b hb => (frF_fin g _ b).2 hb) (sA : SelAll [packF (frL g [.map mo] 151 (.slice A 0 c) []), mpo mo K] _)
  | cons x S' =>
    cases mo with
    | none => have := hs.nil rfl; cases this
    | some r =>
      have hL0 : 0 < L.length := by rw [hLl]; simp
      have hS8 : L.length ≤ 10000 := by rw [hLl]; exact hS9
      have hsrt := (List.pairwise_cons.1 hs.sorted).2
      refine g_enter0 T _ (frF g ⟨some r, .slice A L.length c, L, K⟩) [] Tryz.func103 rfl Tryz.ntmps103 rfl (Kn.startP h (fun b hb => (frF_fin g _ b).1 hb) (fun _ h => by cases h)) ?_
      change GK _ _ _ [packF (frL g [.map (some r)] 151 (.slice A L.length c) L), mp r .u32 (kv K)] _
      refine gk_unpack (by repeat (first | with_reducible exact Sel.here | with_reducible apply Sel.there)) ?_
      (repeat' (first | (refine gG ?_; try intro _) | ((first | refine g_split rfl rfl tE (fun _ => ?_) (fun _ => ?_) | refine gk_cond rfl rfl tE (fun _ => ?_) (fun _ => ?_)) <;> (try first | (exfalso; omega; done) | (rename_i hx; exact absurd rfl hx) | (rename_i hx; cases hx; done)))))
      refine g_yd rfl rfl (Ys.yd (ys_makeIface rfl rfl (by kernel_rfl))) ?_
      refine g_pack (frL g [.map (some r)] 151 (.slice A L.length c) L) [mp r .u32 (kv K)] sA ?_
      refine g_mv rfl (mv_call_mod (φ := packF (frL g [.map (some r)] 151 (.slice A L.length c) L)) (ψ := fun q : Value × List Int × Int => packF (frL g [.map (some r)] 151 q.1 q.2.1)) (fun w hk => hpop_any (frHO g [.map (some r)] 151) (.slice A L.length c) L w (hk.rO (φ := packF (frL g [.map (some r)] 151 (.slice A L.length c) L)) mE) trivial (by omega) hL0 hs.heap) rfl rfl rfl rfl rfl (by kernel_rfl) (by intro _; first | ((repeat (first | with_reducible exact Upd.here _ | with_reducible apply Upd.there)); done) | ((repeat (first | exact Upd.here _ | apply Upd.there)); done) | fail) (fun q hI => ?_))
      obtain ⟨v1, L1, x'⟩ := q
      obtain ⟨hx0, hp, hh⟩ := hI
      obtain rfl : x' = x := hs.least hx0
      refine g_say 15 (.iface 26 (.int .u32 x')) rfl rfl ?_
      refine g_yd rfl rfl (Ys.yd (ys_typeAssert rfl rfl (by kernel_rfl))) ?_
      (repeat (refine gG ?_; try intro _))
      refine g_unpack (by repeat (first | with_reducible exact Sel.here | with_reducible apply Sel.there)) ?_
      (repeat (refine gG ?_; try intro _))
      have hxK : x' ∈ K := hs.k.mem_iff.2 (.head _)
      obtain ⟨K1, hK1, hK2⟩ := kv_del hxK
      refine g_mv rfl (mv_mapDelete rfl rfl rfl rfl rfl Tryz.underlying79 Tryz.underlying26 (by first | ((repeat (first | with_reducible exact Upd.here _ | with_reducible apply Upd.there)); done) | ((repeat (first | exact Upd.here _ | apply Upd.there)); done) | fail) ?_)
      rw [hK1]
      (repeat (refine gG ?_; try intro _))
      refine gk_pack (frL g [.map (some r)] 151 v1 L1) [mp r .u32 (kv K1)] sA ?_
      refine gk_ret hT rfl rfl (.tmp rfl (.tmp rfl .nil)) (fun w' hk => ?_)
      exact RetM.mkP (ll := fun r : FrS × Int × Bool => frF g r.1) (⟨some r, v1, L1, K1⟩, x', true) ⟨hs.less (by simp) (List.Perm.refl _) hsrt hp hK2 hh, rfl⟩ rfl hk (fun b hb => (frF_fin g _ b).2 hb) (sA : SelAll [packF (frL g [.map (some r)] 151 v1 L1), mp r .u32 (kv K1)] _)
end Go.Proofs.YtaghmffgoomebaaGreat.Hp
namespace Go.Proofs.YtaghmffgoomebaaGreat.Hp
open Go.RowKit Mem Gx
set_option linter.unusedVariables false
set_option linter.unusedSimpArgs false
set_option maxRecDepth 100000
set_option maxHeartbeats 4000000
theorem elt_U : Elt Tryz.prog 43 26 1 4 := Elt.mk' (z := .int .u32 0) Tryz.underlying43 (by kernel_rfl) rfl (by decide)
def iota (k : Nat) : List Int := (List.range k).map fun (i : Nat) => (i : Int) + 1
theorem iota_succ (k : Nat) : iota (k + 1) = iota k ++ [(k : Int) + 1] := by
  unfold iota
  rw [List.range_succ, List.map_append]
  rfl
theorem iota_mem {k : Nat} {x : Int} (h : x ∈ iota k) : 1 ≤ x ∧ x ≤ k := by
  unfold iota at h
  obtain ⟨i, hi, rfl⟩ := List.mem_map.1 h
  have := List.mem_range.1 hi
  omega
theorem iota_len (k : Nat) : (iota k).length = k := by simp [iota]
theorem ins_end {b : Int} : ∀ {S : List Int}, (∀ x, x ∈ S → x < b) → ins b S = S ++ [b]
  | [], _ => rfl
  | x :: r, h => by
    unfold ins
    rw [if_pos (h x (.head _)), ins_end fun y hy => h y (.tail _ hy)]
    rfl
theorem give_iota (k : Nat) : giveP ((k : Int) + 1) (iota k) = (iota (k + 1), true) := by
  rw [give_yes (by
    rintro (h | h)
    · omega
    · have := iota_mem h; omega), ins_end (fun x hx => by have := iota_mem hx; omega), iota_succ]
theorem iota_sorted : ∀ k, (iota k).Pairwise (· < ·)
  | 0 => .nil
  | k + 1 => by
    rw [iota_succ]
    refine List.pairwise_append.2 ⟨iota_sorted k, List.pairwise_singleton _ _, fun a ha b hb => ?_⟩
    obtain rfl := List.mem_singleton.1 hb
    have := iota_mem ha
    omega
theorem gk_triv {X : Cx} {f : Fr} {O R : List Fact} {ks : List KI} (ψ : Fact) (hp : ∀ w, ψ.p w) (hn : ∀ b, ¬ ψ.S b) (hg : GK X ks f (ψ :: O) R) : GK X ks f O R := .mk fun a w hr hk => hg.out a w hr (hk.addO ψ (hp w) hn)
theorem lnew_any (n : Nat) (w : World) (hn : n ≤ 4096) : Calls Tryz.prog 46 [.int .i64 (n : Int)].toArray w (Ret (fun q : Nat × FrS => FrOk q.2 (iota n)) (fun q => .tuple #[.pointer (some ⟨q.1, 0, none⟩), .int .i64 0]) (fun q => [packF (frF q.1 q.2)]) w) := by
  refine g_enter0 T [] [] [] Tryz.func46 rfl Tryz.ntmps46 rfl (Kn.start _) ?_
  (repeat' (first | (refine gG ?_; try intro _) | ((first | refine g_split rfl rfl tE (fun _ => ?_) (fun _ => ?_) | refine gk_cond rfl rfl tE (fun _ => ?_) (fun _ => ?_)) <;> (try first | (exfalso; omega; done) | (rename_i hx; exact absurd rfl hx) | (rename_i hx; cases hx; done)))))
  rename_i g
  refine gk_own 0 26 1 (IE .u32) ?_
  refine gk_pack (frL g [.map none] 151 (.slice none 0 0) []) [] sA ?_
  have h0 : FrOk ⟨none, .slice none 0 0, [], []⟩ (iota 0) := ⟨List.Perm.refl _, List.Perm.refl _, .nil, fun k h0 hk => absurd hk (Nat.not_lt_zero _), fun _ => rfl, Nat.zero_le _⟩
  refine gk_triv (mpo none []) (fun _ => rfl) (fun b h => h) ?_
  refine gk_pack (frF g ⟨none, .slice none 0 0, [], []⟩) [] (sA : SelAll [packF (frL g [.map none] 151 (.slice none 0 0) []), mpo none []] _) ?_
  refine gk_loop_sel (fun (q : Nat × FrS) => match q with | (k, s) => (k ≤ n ∧ FrOk s (iota k))) (fun (q : Nat × FrS) => match q with | (k, s) => [(4, .pointer (some ⟨g, 0, none⟩)), (14, .int .i64 n), (15, .int .i64 k)]) (fun (q : Nat × FrS) => match q with | (k, s) => [packF (frF g s)]) (fun (q : Nat × FrS) => match q with | (k, s) => []) (fun (q : Nat × FrS) => match q with | (k, s) => n - k) (0, ⟨none, .slice none 0 0, [], []⟩) rfl ⟨Nat.zero_le _, h0⟩ (by repeat (first | exact trivial | refine ⟨rfl, ?_⟩)) sA sS ?_
  rintro ⟨k, s⟩ hI
  replace hI : (k ≤ n ∧ FrOk s (iota k)) := hI
  change GK _ _ [(4, .pointer (some ⟨g, 0, none⟩)), (14, .int .i64 n), (15, .int .i64 k)] [packF (frF g s)] []
  obtain ⟨hk1, hs⟩ := hI
  by_cases hlt : k < n
  · (repeat (refine gG ?_; try intro _))
    refine gk_cond rfl rfl (tells_tB _) (fun _ => ?_) (fun h => absurd (by omega) h)
    (repeat (refine gG ?_; try intro _))
    refine g_mv rfl (mv_call_mod (φ := packF (frF g s)) (ψ := fun q : FrS × Bool => packF (frF g q.1)) (fun w hk => lgive_any g s (iota k) ((k : Int) + 1) w hs (by rw [iota_len]; omega) (hk.rO (φ := packF (frF g s)) mE)) rfl rfl rfl rfl rfl (by kernel_rfl) (by intro _; first | ((repeat (first | with_reducible exact Upd.here _ | with_reducible apply Upd.there)); done) | ((repeat (first | exact Upd.here _ | apply Upd.there)); done) | fail) (fun q hI => ?_))
    obtain ⟨s1, b1⟩ := q
    obtain ⟨h1, h2⟩ := hI
    rw [give_iota] at h1 h2
    (repeat (refine gG ?_; try intro _))
    refine gk_again_sel rfl (k + 1, s1) ⟨by omega, h1⟩ (by dsimp only; omega) (by repeat (first | exact trivial | refine ⟨rfl, ?_⟩)) sA sS
  · obtain rfl : k = n := by omega
    (repeat (refine gG ?_; try intro _))
    refine gk_cond rfl rfl (tells_tB _) (fun h => absurd h (by omega)) (fun _ => ?_)
    (repeat (refine gG ?_; try intro _))
    refine gk_ret hT rfl rfl (.tmp rfl (.tmp rfl .nil)) (fun w' hk => ?_)
    exact Ret.mk (g, s) hs rfl hk sA
end Go.Proofs.YtaghmffgoomebaaGreat.Hp
