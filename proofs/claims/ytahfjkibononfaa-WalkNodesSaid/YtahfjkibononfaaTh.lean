/- The reference's Set (layer 31); the law's Step. -/
import Derived.Test.YtahfjkibononfaaTg
namespace Go.Proofs.Ytahfjkibononfaa.Tw
open Go.RowKit Mem Nd Gx
open Tr hiding T row
set_option linter.unusedVariables false
set_option linter.unusedSimpArgs false
set_option maxRecDepth 100000
set_option maxHeartbeats 4000000
theorem set_is {L : List EntD} {e : EntD} {p q : Nat} (ha : AscK (keysOf L)) (hp : PosK (keysOf L) e.k p) (hq : PosK (keysOf (delAt L e.k p)) e.k q) : (delAt L e.k p).take q ++ [e] ++ (delAt L e.k p).drop q = setAt L e p := by
  have hpl := hp.le
  rw [List.length_map] at hpl
  by_cases hf : tB ((keysOf L)[p]? = some e.k) = true
  · have h1 := (List.getElem?_eq_some_iff.1 (tB_iff.1 hf)).1
    rw [List.length_map] at h1
    have eM : delAt L e.k p = L.take p ++ L.drop (p + 1) := by unfold delAt; rw [if_pos hf]
    have hl1 : (L.take p).length = p := by rw [List.length_take]; omega
    rw [eM] at hq ⊢
    have hqp : PosK (keysOf (L.take p ++ L.drop (p + 1))) e.k p := by
      have hk : (keysOf (L.take p ++ L.drop (p + 1))).length = L.length - 1 := by rw [List.length_map, List.length_append, List.length_take, List.length_drop]; omega
      refine ⟨by rw [hk]; omega, fun m hm => ?_, fun m h2 h3 => ?_⟩
      · have := hp.lo m hm
        have e1 : (keysOf (L.take p ++ L.drop (p + 1))).getD m default = (keysOf L).getD m default := by
          rw [List.getD_eq_getElem?_getD, List.getD_eq_getElem?_getD]
          congr 1
          rw [List.getElem?_map, List.getElem?_map, List.getElem?_append_left (by rw [hl1]; exact hm), List.getElem?_take, if_pos hm]
        rw [e1]; exact this
      · rw [hk] at h3
        have e1 : (keysOf (L.take p ++ L.drop (p + 1))).getD m default = (keysOf L).getD (m + 1) default := by
          rw [List.getD_eq_getElem?_getD, List.getD_eq_getElem?_getD]
          congr 1
          rw [List.getElem?_map, List.getElem?_map, List.getElem?_append_right (by rw [hl1]; exact h2), List.getElem?_drop, hl1]
          congr 2
          omega
        rw [e1]
        exact hp.hi (m + 1) (by omega) (by rw [List.length_map]; omega)
    obtain rfl := pos_unique hq hqp
    rw [List.take_left' hl1, List.drop_left' hl1]
    unfold setAt
    rw [if_pos hf, List.set_eq_take_append_cons_drop, if_pos h1, List.append_assoc]
    rfl
  · have eM : delAt L e.k p = L := by unfold delAt; rw [if_neg hf]
    rw [eM] at hq ⊢
    obtain rfl := pos_unique hq hp
    unfold setAt
    rw [if_neg hf]
theorem rset_any (A : Option Addr) (n c : Nat) (L : List EntD) (e : EntD) (w : World) (hs : (SlV.mk A n c).Ok L.length) (h9 : n ≤ 100000) (ha : AscK (keysOf L)) (hL : Rd1 w (sl A 4 EE L)) :
    Calls Try.prog 54 [.slice A n c, e.val].toArray w (RetRow (fun M => ∃ p, PosK (keysOf L) e.k p ∧ M = setAt L e p) [sl A 4 EE L] w) := by
  have hn : n = L.length := hs.n
  refine g_enter0 T [] [] [sl A 4 EE L] Try.func54 rfl Try.ntmps54 rfl (Rds.cons hL .nil).kn ?_
  (repeat (refine gG ?_; try intro _))
  rename_i g3
  refine g_mv rfl ?_; refine mv_call_rs (fun w hk => rwithout_any A n c L e.k w hs h9 ha (hk.rR mE)) rfl rfl rfl rfl rfl (by kernel_rfl) sS (fun _ => rfl) (fun r hr hn0 => ?_)
  obtain ⟨⟨A1, n1, c1⟩, M⟩ := r
  obtain ⟨hs1, p, hp, hM⟩ := hr
  dsimp only at hs1 hM
  have hn1 : n1 = M.length := hs1.n
  have hc1 : n1 ≤ c1 := hs1.c
  have hMl : M.length ≤ L.length := by rw [hM]; exact (delAt_len (by have := hp.le; rw [List.length_map] at this; exact this)).1
  have haM : AscK (keysOf M) := by rw [hM]; exact delAt_asc ha
  refine g_say 10 (.slice A1 n1 c1) rfl rfl ?_
  (repeat (refine gG ?_; try intro _))
  refine g_mv rfl ?_; refine mv_call_rt (fun w hk => rfind_any A1 n1 c1 M e.k w hn1 (by omega) haM (hk.rR (φ := sl A1 4 EE M) mE)) rfl rfl rfl rfl rfl (by kernel_rfl) (fun _ => rfl) (fun q hq => ?_)
  have hql := hq.le
  rw [List.length_map] at hql
  have heq : M.take q ++ [e] ++ M.drop q = setAt L e p := by
    rw [hM] at hq ⊢
    exact set_is ha hp hq
  (repeat (refine gG ?_; try intro _))
  refine gk_takeS (enc := EE) (L := M) (A := A1) q c1 mE (by omega) ?_
  refine gk_dropS (enc := EE) (L := M) (A := A1) q c1 mE (by omega) ?_
  refine gk_any [0] (Cut _ (fun v : Value => [(4, v)]) (fun v => [own 0 29 4 v EE ([] ++ M.take q ++ [e] ++ M.drop q)]) (fun _ => [])) rfl rfl (by kernel_rfl) ?_ (cut_k fun v => ?_)
  · skip
    refine gb_take 1 rfl (by decide +kernel) rfl rfl (ys_ev (nw := true) hT rfl sI) sF ?_
    refine gb_take 2 rfl (by decide +kernel) rfl rfl (ys_ev (nw := true) hT rfl sI) sF ?_
    refine gb_take 3 rfl (by decide +kernel) rfl rfl (ys_slice_h hT q rfl rfl rfl rfl rfl (by omega)) sF ?_
    refine gb_take 5 rfl (by decide +kernel) rfl rfl (by first | exact ys_blk hT rfl rfl mE rfl rfl | exact ys_row hT rfl rfl mE rfl rfl | exact ys_row0 hT rfl rfl mE rfl rfl) sF ?_
    refine gb_take 8 rfl (by decide +kernel) rfl rfl (ys_ev (nw := true) hT rfl sI) sF ?_
    refine gb_take 9 rfl (by decide +kernel) rfl rfl (ys_ev (nw := true) hT rfl sI) sF ?_
    refine gb_take 10 rfl (by decide +kernel) rfl rfl (ys_slice_l hT q rfl rfl rfl rfl rfl (by omega)) sF ?_
    refine gb_all (by decide +kernel) ?_
    refine gball_yes rfl rfl ?_ ?_
    · refine mv_empty 4 EE rfl hT rfl rfl rfl rfl rfl (fun ge => ?_)
      refine ⟨sF, ?_⟩
      refine gb_all (by decide +kernel) ?_
      refine gball_not (by decide +kernel) ?_
      refine gball_not (by decide +kernel) ?_
      refine gball_not (by decide +kernel) ?_
      refine gball_not (by decide +kernel) ?_
      refine gball_yes rfl rfl ?_ ?_
      · refine mv_append (L := []) rfl (M.take q) rfl rfl rfl rfl elt_E (by intro _; first | ((repeat (first | with_reducible exact Upd.here _ | with_reducible apply Upd.there)); done) | ((repeat (first | exact Upd.here _ | apply Upd.there)); done) | fail) (src_R mE) (by rw [List.length_take]; omega) (by intro x j; rcases j with _ | _ | _ | j <;> rfl) (by rw [List.length_take]; simp only [List.length_nil]; unfold maxLen; omega) (by rw [List.length_take]; simp only [List.length_nil]; omega) (Nat.zero_le _) (fun v1 => ?_)
        refine ⟨sF, ?_⟩
        refine gb_only 6 (by decide +kernel) rfl rfl ?_
        first | (refine mv_box rfl rfl rfl rfl ?_; intro _) | (refine mv_alloc rfl hT rfl rfl ?_; intro _) | refine mv_store hT rfl rfl rfl rfl rfl rfl sO rfl ?_ | (refine mv_buildSlice rfl hT rfl rfl rfl rfl rfl rfl rfl rfl ?_; intro _)
        refine ⟨sF, ?_⟩
        refine gb_only 7 (by decide +kernel) rfl rfl ?_
        refine mv_append rfl [e] rfl rfl rfl rfl elt_E (by intro _; first | ((repeat (first | with_reducible exact Upd.here _ | with_reducible apply Upd.there)); done) | ((repeat (first | exact Upd.here _ | apply Upd.there)); done) | fail) (src_blk mE rfl) rfl (by intro x j; rcases j with _ | _ | _ | j <;> rfl) (by rw [List.length_append, List.length_take]; simp only [List.length_nil, List.length_cons]; unfold maxLen; omega) (by rw [List.length_append, List.length_take]; simp only [List.length_nil, List.length_cons]; omega) (Nat.zero_le _) (fun v2 => ?_)
        refine ⟨sF, ?_⟩
        refine gb_only 11 (by decide +kernel) rfl rfl ?_
        refine mv_append rfl (M.drop q) rfl rfl rfl rfl elt_E (by intro _; first | ((repeat (first | with_reducible exact Upd.here _ | with_reducible apply Upd.there)); done) | ((repeat (first | exact Upd.here _ | apply Upd.there)); done) | fail) (src_R mE) (by rw [List.length_drop]; omega) (by intro x j; rcases j with _ | _ | _ | j <;> rfl) (by rw [List.length_append, List.length_append, List.length_take, List.length_drop]; simp only [List.length_nil, List.length_cons]; unfold maxLen; omega) (by rw [List.length_append, List.length_append, List.length_take, List.length_drop]; simp only [List.length_nil, List.length_cons]; omega) (Nat.zero_le _) (fun v3 => ?_)
        refine ⟨sF, ?_⟩
        refine gb_take 12 rfl (by decide +kernel) rfl rfl (ys_ev (nw := true) hT rfl sI) sF ?_
        refine gb_nil (by decide +kernel) ?_
        exact ⟨_, (by repeat (first | exact trivial | refine ⟨rfl, ?_⟩)), sA, sS⟩
      refine gball_not (by decide +kernel) ?_
      refine gball_yes rfl rfl ?_ ?_
      · first | (refine mv_box rfl rfl rfl rfl ?_; intro _) | (refine mv_alloc rfl hT rfl rfl ?_; intro _) | refine mv_store hT rfl rfl rfl rfl rfl rfl sO rfl ?_ | (refine mv_buildSlice rfl hT rfl rfl rfl rfl rfl rfl rfl rfl ?_; intro _)
        refine ⟨sF, ?_⟩
        refine gb_only 4 (by decide +kernel) rfl rfl ?_
        refine mv_append (L := []) rfl (M.take q) rfl rfl rfl rfl elt_E (by intro _; first | ((repeat (first | with_reducible exact Upd.here _ | with_reducible apply Upd.there)); done) | ((repeat (first | exact Upd.here _ | apply Upd.there)); done) | fail) (src_R mE) (by rw [List.length_take]; omega) (by intro x j; rcases j with _ | _ | _ | j <;> rfl) (by rw [List.length_take]; simp only [List.length_nil]; unfold maxLen; omega) (by rw [List.length_take]; simp only [List.length_nil]; omega) (Nat.zero_le _) (fun v1 => ?_)
        refine ⟨sF, ?_⟩
        refine gb_only 7 (by decide +kernel) rfl rfl ?_
        refine mv_append rfl [e] rfl rfl rfl rfl elt_E (by intro _; first | ((repeat (first | with_reducible exact Upd.here _ | with_reducible apply Upd.there)); done) | ((repeat (first | exact Upd.here _ | apply Upd.there)); done) | fail) (src_blk mE rfl) rfl (by intro x j; rcases j with _ | _ | _ | j <;> rfl) (by rw [List.length_append, List.length_take]; simp only [List.length_nil, List.length_cons]; unfold maxLen; omega) (by rw [List.length_append, List.length_take]; simp only [List.length_nil, List.length_cons]; omega) (Nat.zero_le _) (fun v2 => ?_)
        refine ⟨sF, ?_⟩
        refine gb_only 11 (by decide +kernel) rfl rfl ?_
        refine mv_append rfl (M.drop q) rfl rfl rfl rfl elt_E (by intro _; first | ((repeat (first | with_reducible exact Upd.here _ | with_reducible apply Upd.there)); done) | ((repeat (first | exact Upd.here _ | apply Upd.there)); done) | fail) (src_R mE) (by rw [List.length_drop]; omega) (by intro x j; rcases j with _ | _ | _ | j <;> rfl) (by rw [List.length_append, List.length_append, List.length_take, List.length_drop]; simp only [List.length_nil, List.length_cons]; unfold maxLen; omega) (by rw [List.length_append, List.length_append, List.length_take, List.length_drop]; simp only [List.length_nil, List.length_cons]; omega) (Nat.zero_le _) (fun v3 => ?_)
        refine ⟨sF, ?_⟩
        refine gb_take 12 rfl (by decide +kernel) rfl rfl (ys_ev (nw := true) hT rfl sI) sF ?_
        refine gb_nil (by decide +kernel) ?_
        exact ⟨_, (by repeat (first | exact trivial | refine ⟨rfl, ?_⟩)), sA, sS⟩
      refine gball_not (by decide +kernel) ?_
      refine gball_not (by decide +kernel) ?_
      refine gball_not (by decide +kernel) ?_
      refine gball_not (by decide +kernel) ?_
      refine gball_not (by decide +kernel) ?_
      refine gball_not (by decide +kernel) ?_
      exact gball_end (by decide +kernel)
    refine gball_not (by decide +kernel) ?_
    refine gball_not (by decide +kernel) ?_
    refine gball_not (by decide +kernel) ?_
    refine gball_not (by decide +kernel) ?_
    refine gball_not (by decide +kernel) ?_
    refine gball_yes rfl rfl ?_ ?_
    · first | (refine mv_box rfl rfl rfl rfl ?_; intro _) | (refine mv_alloc rfl hT rfl rfl ?_; intro _) | refine mv_store hT rfl rfl rfl rfl rfl rfl sO rfl ?_ | (refine mv_buildSlice rfl hT rfl rfl rfl rfl rfl rfl rfl rfl ?_; intro _)
      refine ⟨sF, ?_⟩
      refine gb_only 0 (by decide +kernel) rfl rfl ?_
      refine mv_empty 4 EE rfl hT rfl rfl rfl rfl rfl (fun ge => ?_)
      refine ⟨sF, ?_⟩
      refine gb_only 4 (by decide +kernel) rfl rfl ?_
      refine mv_append (L := []) rfl (M.take q) rfl rfl rfl rfl elt_E (by intro _; first | ((repeat (first | with_reducible exact Upd.here _ | with_reducible apply Upd.there)); done) | ((repeat (first | exact Upd.here _ | apply Upd.there)); done) | fail) (src_R mE) (by rw [List.length_take]; omega) (by intro x j; rcases j with _ | _ | _ | j <;> rfl) (by rw [List.length_take]; simp only [List.length_nil]; unfold maxLen; omega) (by rw [List.length_take]; simp only [List.length_nil]; omega) (Nat.zero_le _) (fun v1 => ?_)
      refine ⟨sF, ?_⟩
      refine gb_only 7 (by decide +kernel) rfl rfl ?_
      refine mv_append rfl [e] rfl rfl rfl rfl elt_E (by intro _; first | ((repeat (first | with_reducible exact Upd.here _ | with_reducible apply Upd.there)); done) | ((repeat (first | exact Upd.here _ | apply Upd.there)); done) | fail) (src_blk mE rfl) rfl (by intro x j; rcases j with _ | _ | _ | j <;> rfl) (by rw [List.length_append, List.length_take]; simp only [List.length_nil, List.length_cons]; unfold maxLen; omega) (by rw [List.length_append, List.length_take]; simp only [List.length_nil, List.length_cons]; omega) (Nat.zero_le _) (fun v2 => ?_)
      refine ⟨sF, ?_⟩
      refine gb_only 11 (by decide +kernel) rfl rfl ?_
      refine mv_append rfl (M.drop q) rfl rfl rfl rfl elt_E (by intro _; first | ((repeat (first | with_reducible exact Upd.here _ | with_reducible apply Upd.there)); done) | ((repeat (first | exact Upd.here _ | apply Upd.there)); done) | fail) (src_R mE) (by rw [List.length_drop]; omega) (by intro x j; rcases j with _ | _ | _ | j <;> rfl) (by rw [List.length_append, List.length_append, List.length_take, List.length_drop]; simp only [List.length_nil, List.length_cons]; unfold maxLen; omega) (by rw [List.length_append, List.length_append, List.length_take, List.length_drop]; simp only [List.length_nil, List.length_cons]; omega) (Nat.zero_le _) (fun v3 => ?_)
      refine ⟨sF, ?_⟩
      refine gb_take 12 rfl (by decide +kernel) rfl rfl (ys_ev (nw := true) hT rfl sI) sF ?_
      refine gb_nil (by decide +kernel) ?_
      exact ⟨_, (by repeat (first | exact trivial | refine ⟨rfl, ?_⟩)), sA, sS⟩
    refine gball_not (by decide +kernel) ?_
    refine gball_not (by decide +kernel) ?_
    refine gball_not (by decide +kernel) ?_
    refine gball_not (by decide +kernel) ?_
    refine gball_not (by decide +kernel) ?_
    refine gball_not (by decide +kernel) ?_
    exact gball_end (by decide +kernel)
  · rw [List.nil_append, heq]
    refine gk_freeze _ (by intro _; first | ((repeat (first | with_reducible exact Upd.here _ | with_reducible apply Upd.there)); done) | ((repeat (first | exact Upd.here _ | apply Upd.there)); done) | fail) (fun A2 c2 hA2 hA21 hA22 hA23 => ?_); subst hA2
    (repeat (refine gG ?_; try intro _))
    refine gk_ret hT rfl rfl (.tmp rfl .nil) (fun w' hk => ?_)
    exact RetS.mk ⟨⟨A2, (setAt L e p).length, c2⟩, setAt L e p⟩ ⟨⟨rfl, hA21, hA22, hA23⟩, p, hp, rfl⟩ rfl hk (.cons (RS1.own hk mE) .nil)
end Go.Proofs.Ytahfjkibononfaa.Tw

