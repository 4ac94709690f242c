/- Blocks that are free: Take, Drop. -/
import Derived.Test.YteajefmnbalofaaFr4
namespace Go.Proofs.Yteajefmnbalofaa.Hp
open Go.RowKit Mem Gx
set_option linter.unusedVariables false
set_option linter.unusedSimpArgs false
set_option maxRecDepth 100000
set_option maxHeartbeats 1000000
theorem fr_v {g : Nat} {s : FrS} {w : World} (h : Rd1 w (packF (frF g s))) : ∃ A c, s.v = .slice A s.L.length c ∧ s.L.length ≤ c ∧ c ≤ maxLen ∧ (A = none → c = 0) ∧ Rd1 w (sl A 1 (IE .u32) s.L) := own_rdv ((h.unpack (.head _)).unpack (.tail _ (.head _)))
theorem ltake_any (g : Nat) (s : FrS) (S : List Int) (w : World) (hs : FrOk s S) (h : Rd1 w (packF (frF g s))) :
    Calls Try.prog 47 [.pointer (some ⟨g, 0, none⟩)].toArray w (RetM (packF (frF g s)) (fun r : FrS × Int × Bool => FrOk r.1 (takeP S).1 ∧ r.2 = (takeP S).2) (fun r => .tuple #[.int .u32 r.2.1, .bool r.2.2]) (fun r => packF (frF g r.1)) w) := by
  obtain ⟨A, c, hv, hc, hm, hA, hrd⟩ := fr_v h
  obtain ⟨mo, v, L, K⟩ := s
  replace hv : v = .slice A L.length c := hv
  subst hv
  have hLl : L.length = S.length := hs.l.length_eq
  have hS9 := hs.len
  cases S with
  | nil =>
    obtain rfl : L = [] := by simpa using hLl
    refine g_enter0 T _ (frF g ⟨mo, .slice A ([] : List Int).length c, [], K⟩) [] Try.func47 rfl Try.ntmps47 rfl (Kn.startP h (fun b hb => (frF_fin g _ b).1 hb) (fun _ h => by cases h)) ?_
    change GK _ _ _ [packF (frL g [.map mo] 129 (.slice A 0 c) []), mpo mo K] _
    refine gk_unpack (by repeat (first | with_reducible exact Sel.here | with_reducible apply Sel.there)) ?_
    (repeat' (first | (refine gG ?_; try intro _) | ((first | refine g_split rfl rfl tE (fun _ => ?_) (fun _ => ?_) | refine gk_cond rfl rfl tE (fun _ => ?_) (fun _ => ?_)) <;> (try first | (exfalso; omega; done) | (rename_i hx; exact absurd rfl hx) | (rename_i hx; cases hx; done)))))
    refine gk_pack (frL g [.map mo] 129 (.slice A 0 c) []) [mpo mo K] sA ?_
    refine gk_ret hT rfl rfl (.tmp rfl (.tmp rfl .nil)) (fun w' hk => ?_)
    exact RetM.mkP (ll := fun r : FrS × Int × Bool => frF g r.1) (⟨mo, .slice A 0 c, [], K⟩, 0, false) ⟨hs, rfl⟩ rfl hk (fun b hb => (frF_fin g _ b).2 hb) (sA : SelAll [packF (frL g [.map mo] 129 (.slice A 0 c) []), mpo mo K] _)
  | cons x S' =>
    cases mo with
    | none => have := hs.nil rfl; cases this
    | some r =>
      have hL0 : 0 < L.length := by rw [hLl]; simp
      have hS8 : L.length ≤ 10000 := by rw [hLl]; exact hS9
      have hsrt := (List.pairwise_cons.1 hs.sorted).2
      refine g_enter0 T _ (frF g ⟨some r, .slice A L.length c, L, K⟩) [] Try.func47 rfl Try.ntmps47 rfl (Kn.startP h (fun b hb => (frF_fin g _ b).1 hb) (fun _ h => by cases h)) ?_
      change GK _ _ _ [packF (frL g [.map (some r)] 129 (.slice A L.length c) L), mp r .u32 (kv K)] _
      refine gk_unpack (by repeat (first | with_reducible exact Sel.here | with_reducible apply Sel.there)) ?_
      (repeat' (first | (refine gG ?_; try intro _) | ((first | refine g_split rfl rfl tE (fun _ => ?_) (fun _ => ?_) | refine gk_cond rfl rfl tE (fun _ => ?_) (fun _ => ?_)) <;> (try first | (exfalso; omega; done) | (rename_i hx; exact absurd rfl hx) | (rename_i hx; cases hx; done)))))
      refine g_yd rfl rfl (Ys.yd (ys_makeIface rfl rfl (by kernel_rfl))) ?_
      refine g_pack (frL g [.map (some r)] 129 (.slice A L.length c) L) [mp r .u32 (kv K)] sA ?_
      refine g_mv rfl (mv_call_mod (φ := packF (frL g [.map (some r)] 129 (.slice A L.length c) L)) (ψ := fun q : Value × List Int × Int => packF (frL g [.map (some r)] 129 q.1 q.2.1)) (fun w hk => hpop_any (frHO g [.map (some r)] 129) (.slice A L.length c) L w (hk.rO (φ := packF (frL g [.map (some r)] 129 (.slice A L.length c) L)) mE) trivial (by omega) hL0 hs.heap) rfl rfl rfl rfl rfl (by kernel_rfl) (by intro _; first | ((repeat (first | with_reducible exact Upd.here _ | with_reducible apply Upd.there)); done) | ((repeat (first | exact Upd.here _ | apply Upd.there)); done) | fail) (fun q hI => ?_))
      obtain ⟨v1, L1, x'⟩ := q
      obtain ⟨hx0, hp, hh⟩ := hI
      obtain rfl : x' = x := hs.least hx0
      refine g_say 15 (.iface 60 (.int .u32 x')) rfl rfl ?_
      refine g_yd rfl rfl (Ys.yd (ys_typeAssert rfl rfl (by kernel_rfl))) ?_
      (repeat (refine gG ?_; try intro _))
      refine g_unpack (by repeat (first | with_reducible exact Sel.here | with_reducible apply Sel.there)) ?_
      (repeat (refine gG ?_; try intro _))
      have hxK : x' ∈ K := hs.k.mem_iff.2 (.head _)
      obtain ⟨K1, hK1, hK2⟩ := kv_del hxK
      refine g_mv rfl (mv_mapDelete rfl rfl rfl rfl rfl Try.underlying98 Try.underlying60 (by first | ((repeat (first | with_reducible exact Upd.here _ | with_reducible apply Upd.there)); done) | ((repeat (first | exact Upd.here _ | apply Upd.there)); done) | fail) ?_)
      rw [hK1]
      (repeat (refine gG ?_; try intro _))
      refine gk_pack (frL g [.map (some r)] 129 v1 L1) [mp r .u32 (kv K1)] sA ?_
      refine gk_ret hT rfl rfl (.tmp rfl (.tmp rfl .nil)) (fun w' hk => ?_)
      exact RetM.mkP (ll := fun r : FrS × Int × Bool => frF g r.1) (⟨some r, v1, L1, K1⟩, x', true) ⟨hs.less (by simp) (List.Perm.refl _) hsrt hp hK2 hh, rfl⟩ rfl hk (fun b hb => (frF_fin g _ b).2 hb) (sA : SelAll [packF (frL g [.map (some r)] 129 v1 L1), mp r .u32 (kv K1)] _)
def dropP (b : Int) (S : List Int) : List Int := S.filter fun x => decide (x ≠ b)
theorem drop_perm {b : Int} : ∀ {S : List Int}, S.Pairwise (· < ·) → b ∈ S → (b :: dropP b S).Perm S
  | [], _, h => by cases h
  | x :: r, h, hb => by
    obtain ⟨h1, h2⟩ := List.pairwise_cons.1 h
    unfold dropP
    by_cases e : x = b
    · subst e
      rw [List.filter_cons_of_neg (by simp)]
      have : r.filter (fun y => decide (y ≠ x)) = r := List.filter_eq_self.2 fun y hy => by have := h1 y hy; simpa using (by omega : y ≠ x)
      rw [this]
    · rw [List.filter_cons_of_pos (by simpa using e)]
      have hb' : b ∈ r := by cases hb with | head => exact absurd rfl e | tail _ h => exact h
      exact (List.Perm.swap x b _).trans ((drop_perm h2 hb').cons x)
theorem drop_no {b : Int} {S : List Int} (h : b ∉ S) : dropP b S = S := List.filter_eq_self.2 fun y hy => by simpa using fun e : y = b => h (e ▸ hy)
end Go.Proofs.Yteajefmnbalofaa.Hp

