/- op: the small tests; Right. -/
import Derived.Test.YteajefmnbalofaaGxC
namespace Go.Proofs.Yteajefmnbalofaa.OpA
open Go.RowKit Mem Gx
set_option linter.unusedVariables false
set_option linter.unusedSimpArgs false
set_option maxRecDepth 100000
set_option maxHeartbeats 1000000
noncomputable def idB (n : Int) : Bool := tB (1 ≤ n ∧ n ≤ 65535)
noncomputable def placeB (n : Int) : Bool := tB (0 ≤ n ∧ n < 32)
noncomputable def countB (n : Int) : Bool := tB (1 ≤ n ∧ n ≤ 32)
theorem id_any (n : Int) (w : World) : Calls Try.prog 86 [.int .i64 n].toArray w fun e w' => e = .returned (.bool (idB n)) ∧ Below w.heap.size w w' := by
  refine g_enter0 T [] [] [] Try.func86 rfl Try.ntmps86 rfl (Kn.start _) ?_
  (repeat' (first | (refine gG ?_; try intro _) | ((first | refine g_split rfl rfl tE (fun _ => ?_) (fun _ => ?_) | refine gk_cond rfl rfl tE (fun _ => ?_) (fun _ => ?_)) <;> (try first | (exfalso; omega; done) | (rename_i hx; exact absurd rfl hx) | (rename_i hx; cases hx; done)))))
  all_goals (refine gk_ret hT rfl rfl (.tmp rfl .nil) (fun w' hk => ?_); exact ⟨ret_bool (by simp [idB, tB_eq, *]), hk.toBelow⟩)
theorem place_any (n : Int) (w : World) : Calls Try.prog 87 [.int .i64 n].toArray w fun e w' => e = .returned (.bool (placeB n)) ∧ Below w.heap.size w w' := by
  refine g_enter0 T [] [] [] Try.func87 rfl Try.ntmps87 rfl (Kn.start _) ?_
  (repeat' (first | (refine gG ?_; try intro _) | ((first | refine g_split rfl rfl tE (fun _ => ?_) (fun _ => ?_) | refine gk_cond rfl rfl tE (fun _ => ?_) (fun _ => ?_)) <;> (try first | (exfalso; omega; done) | (rename_i hx; exact absurd rfl hx) | (rename_i hx; cases hx; done)))))
  all_goals (refine gk_ret hT rfl rfl (.tmp rfl .nil) (fun w' hk => ?_); exact ⟨ret_bool (by simp [placeB, tB_eq, *]), hk.toBelow⟩)
theorem count_any (n : Int) (w : World) : Calls Try.prog 85 [.int .i64 n].toArray w fun e w' => e = .returned (.bool (countB n)) ∧ Below w.heap.size w w' := by
  refine g_enter0 T [] [] [] Try.func85 rfl Try.ntmps85 rfl (Kn.start _) ?_
  (repeat' (first | (refine gG ?_; try intro _) | ((first | refine g_split rfl rfl tE (fun _ => ?_) (fun _ => ?_) | refine gk_cond rfl rfl tE (fun _ => ?_) (fun _ => ?_)) <;> (try first | (exfalso; omega; done) | (rename_i hx; exact absurd rfl hx) | (rename_i hx; cases hx; done)))))
  all_goals (refine gk_ret hT rfl rfl (.tmp rfl .nil) (fun w' hk => ?_); exact ⟨ret_bool (by simp [countB, tB_eq, *]), hk.toBelow⟩)
def opV (k v i b c p : Int) (d m : Value) : Value := .agg #[.int .i64 k, .int .i64 v, .int .i64 i, .int .i64 b, .int .i64 c, .int .u64 p, d, m]
theorem event_any (k v i b c p : Int) (d m : Value) (w : World) : Calls Try.prog 72 [opV k v i b c p d m].toArray w fun e w' => e = .returned (.bool (tB (1 ≤ k ∧ k ≤ 14))) ∧ Below w.heap.size w w' := by
  refine g_enter0 T [] [] [] Try.func72 rfl Try.ntmps72 rfl (Kn.start _) ?_
  (repeat' (first | (refine gG ?_; try intro _) | ((first | refine g_split rfl rfl tE (fun _ => ?_) (fun _ => ?_) | refine gk_cond rfl rfl tE (fun _ => ?_) (fun _ => ?_)) <;> (try first | (exfalso; omega; done) | (rename_i hx; exact absurd rfl hx) | (rename_i hx; cases hx; done)))))
  all_goals (refine gk_ret hT rfl rfl (.tmp rfl .nil) (fun w' hk => ?_); exact ⟨ret_bool (by simp [tB_eq, *]), hk.toBelow⟩)
/-- Are numbers a group's members? -/
noncomputable def okAt (L : List Int) (i : Nat) : Bool := idB (L.getD i 0) && (tB (i = 0) || tB (L.getD (i - 1) 0 < L.getD i 0))
noncomputable def memB (L : List Int) : Bool := (List.range L.length).all (okAt L) && tB (1 ≤ L.length ∧ L.length ≤ 8)
theorem mem_no {L : List Int} {k : Nat} (hk : k < L.length) (h : okAt L k = false) : memB L = false := by
  unfold memB
  rw [Bool.and_eq_false_iff]
  left
  rw [List.all_eq_false]
  exact ⟨k, by simpa using hk, by simp [h]⟩
theorem mem_end {L : List Int} (h : ∀ i, i < L.length → okAt L i = true) : memB L = tB (1 ≤ L.length ∧ L.length ≤ 8) := by
  unfold memB
  have : (List.range L.length).all (okAt L) = true := by
    rw [List.all_eq_true]
    intro i hi
    exact h i (by simpa using hi)
  rw [this, Bool.true_and]
theorem members_any (A : Option Addr) (m c : Nat) (L : List Int) (w : World) (hm : m = L.length) (hm9 : m ≤ 9223372036854775807) (hs : Sl w A 1 (IE .i64) L) :
    Calls Try.prog 88 [.slice A m c].toArray w fun e w' => e = .returned (.bool (memB L)) ∧ Below w.heap.size w w' := by
  refine g_enter0 T [] [] [sl A 1 (IE .i64) L] Try.func88 rfl Try.ntmps88 rfl ((Kn.start w).argR hs (by decide) (fun _ h => by cases h)) ?_
  (repeat (refine gG ?_; try intro _))
  refine gk_loop (fun k : Nat => k ≤ L.length ∧ ∀ i, i < k → okAt L i = true) (fun k => [(0, .slice A m c), (5, .slice A m c), (6, .int .i64 m), (7, .int .i64 k)]) (fun _ => []) (fun _ => [sl A 1 (IE .i64) L]) (fun k => L.length - k) 0 rfl ⟨Nat.zero_le _, fun i hi => by omega⟩ ⟨rfl, rfl, rfl, rfl, trivial⟩ sL sS ?_
  rintro k ⟨hk, hok⟩
  (repeat (refine gG ?_; try intro _))
  refine gk_cond rfl rfl (tells_tB _) (fun h1 => ?_) (fun h1 => ?_)
  · (repeat (refine gG ?_; try intro _))
    refine g_mv rfl (mv_index_sl rfl hT k rfl rfl rfl rfl mE rfl (by omega) hm (by decide) (fun b off y hy => ?_))
    (repeat (refine gG ?_; try intro _))
    have hgk : L.getD k 0 = y := by rw [List.getD_eq_getElem?_getD, hy]; rfl
    refine g_mv rfl ?_; refine mv_call_bel (fun w hk => id_any _ w) rfl rfl rfl rfl rfl (by kernel_rfl) ?_
    (repeat (refine gG ?_; try intro _))
    refine g_split rfl rfl (tells_not (tells_self _)) (fun h2 => ?_) (fun h2 => ?_)
    · (repeat (refine gG ?_; try intro _))
      refine gk_ret hT rfl rfl (.tmp rfl .nil) (fun w' hk => ?_)
      exact ⟨by rw [mem_no (k := k) (by omega) (by simp only [okAt, hgk, h2]; rfl)]; rfl, hk.toBelow⟩
    · (repeat (refine gG ?_; try intro _))
      refine g_split rfl rfl (tells_tB _) (fun h3 => ?_) (fun h3 => ?_)
      · (repeat (refine gG ?_; try intro _))
        refine g_mv rfl (mv_index_sl rfl hT (k - 1) rfl rfl rfl rfl mE (by omega) (by omega) hm (by decide) (fun b2 off2 y2 hy2 => ?_))
        have hgk2 : L.getD (k - 1) 0 = y2 := by rw [List.getD_eq_getElem?_getD, hy2]; rfl
        (repeat (refine gG ?_; try intro _))
        refine gk_cond rfl rfl (tells_tB _) (fun h4 => ?_) (fun h4 => ?_)
        · (repeat (refine gG ?_; try intro _))
          refine gk_ret hT rfl rfl (.tmp rfl .nil) (fun w' hk => ?_)
          exact ⟨by rw [mem_no (k := k) (by omega) (by simp only [okAt, hgk, hgk2, h2]; simp [tB_eq]; omega)]; rfl, hk.toBelow⟩
        · (repeat (refine gG ?_; try intro _))
          refine gk_again rfl (k + 1) ⟨by omega, fun i hi => ?_⟩ (by omega) ⟨rfl, rfl, rfl, rfl, trivial⟩ sL sS
          by_cases hik : i = k
          · subst hik; simp only [okAt, hgk, hgk2, h2]; simp [tB_eq]; omega
          · exact hok i (by omega)
      · (repeat (refine gG ?_; try intro _))
        refine gk_again rfl (k + 1) ⟨by omega, fun i hi => ?_⟩ (by omega) ⟨rfl, rfl, rfl, rfl, trivial⟩ sL sS
        by_cases hik : i = k
        · subst hik; simp only [okAt, hgk, h2]; simp [tB_eq]; omega
        · exact hok i (by omega)
  · have hkL : k = L.length := by omega
    have he := mem_end (L := L) (by rw [← hkL]; exact hok)
    (repeat' (first | (refine gG ?_; try intro _) | ((first | refine g_split rfl rfl tE (fun _ => ?_) (fun _ => ?_) | refine gk_cond rfl rfl tE (fun _ => ?_) (fun _ => ?_)) <;> (try first | (exfalso; omega; done) | (rename_i hx; exact absurd rfl hx) | (rename_i hx; cases hx; done)))))
    all_goals (refine gk_ret hT rfl rfl (.tmp rfl .nil) (fun w' hk => ?_); refine ⟨?_, hk.toBelow⟩; rw [he]; exact ret_bool (by simp [tB_eq]; omega))
end Go.Proofs.Yteajefmnbalofaa.OpA
