/- The reference's Set (layer 31); the law's Step. Calls of a tree as arguments; a key. The law's Step (layer 31). -/
import Derived.Test.YtaghmffgoomebaaGreatTg
import Derived.Test.YtaghmffgoomebaaGreatNd2
import Derived.Test.YtaghmffgoomebaaGreatFlat3
import Derived.Test.YtaghmffgoomebaaGreatSv1
namespace Go.Proofs.YtaghmffgoomebaaGreat.Tw
open Go.RowKit Mem Nd Gx
open Tr hiding T row
set_option linter.unusedVariables false
set_option linter.unusedSimpArgs false
set_option maxRecDepth 100000
set_option maxHeartbeats 4000000
theorem set_is {L : List EntD} {e : EntD} {p q : Nat} (ha : AscK (keysOf L)) (hp : PosK (keysOf L) e.k p) (hq : PosK (keysOf (delAt L e.k p)) e.k q) : (delAt L e.k p).take q ++ [e] ++ (delAt L e.k p).drop q = setAt L e p := by
  have hpl := hp.le
  rw [List.length_map] at hpl
  by_cases hf : tB ((keysOf L)[p]? = some e.k) = true
  · have h1 := (List.getElem?_eq_some_iff.1 (tB_iff.1 hf)).1
    rw [List.length_map] at h1
    have eM : delAt L e.k p = L.take p ++ L.drop (p + 1) := by unfold delAt; rw [if_pos hf]
    have hl1 : (L.take p).length = p := by rw [List.length_take]; omega
    rw [eM] at hq ⊢
    have hqp : PosK (keysOf (L.take p ++ L.drop (p + 1))) e.k p := by
      have hk : (keysOf (L.take p ++ L.drop (p + 1))).length = L.length - 1 := by rw [List.length_map, List.length_append, List.length_take, List.length_drop]; omega
      refine ⟨by rw [hk]; omega, fun m hm => ?_, fun m h2 h3 => ?_⟩
      · have := hp.lo m hm
        have e1 : (keysOf (L.take p ++ L.drop (p + 1))).getD m default = (keysOf L).getD m default := by
          rw [List.getD_eq_getElem?_getD, List.getD_eq_getElem?_getD]
          congr 1
          rw [List.getElem?_map, List.getElem?_map, List.getElem?_append_left (by rw [hl1]; exact hm), List.getElem?_take, if_pos hm]
        rw [e1]; exact this
      · rw [hk] at h3
        have e1 : (keysOf (L.take p ++ L.drop (p + 1))).getD m default = (keysOf L).getD (m + 1) default := by
          rw [List.getD_eq_getElem?_getD, List.getD_eq_getElem?_getD]
          congr 1
          rw [List.getElem?_map, List.getElem?_map, List.getElem?_append_right (by rw [hl1]; exact h2), List.getElem?_drop, hl1]
          congr 2
          omega
        rw [e1]
        exact hp.hi (m + 1) (by omega) (by rw [List.length_map]; omega)
    obtain rfl := pos_unique hq hqp
    rw [List.take_left' hl1, List.drop_left' hl1]
    unfold setAt
    rw [if_pos hf, List.set_eq_take_append_cons_drop, if_pos h1, List.append_assoc]
    rfl
  · have eM : delAt L e.k p = L := by unfold delAt; rw [if_neg hf]
    rw [eM] at hq ⊢
    obtain rfl := pos_unique hq hp
    unfold setAt
    rw [if_neg hf]
theorem rset_any (A : Option Addr) (n c : Nat) (L : List EntD) (e : EntD) (w : World) (hs : (SlV.mk A n c).Ok L.length) (h9 : n ≤ 100000) (ha : AscK (keysOf L)) (hL : Rd1 w (sl A 4 EE L)) :
    Calls Tryz.prog 39 [.slice A n c, e.val].toArray w (RetRow (fun M => ∃ p, PosK (keysOf L) e.k p ∧ M = setAt L e p) [sl A 4 EE L] w) := by
  have hn : n = L.length := hs.n
  refine g_enter0 T [] [] [sl A 4 EE L] Tryz.func39 rfl Tryz.ntmps39 rfl (Rds.cons hL .nil).kn ?_
  (repeat (refine gG ?_; try intro _))
  rename_i g3
  refine g_mv rfl ?_; refine mv_call_rs (fun w hk => rwithout_any A n c L e.k w hs h9 ha (hk.rR mE)) rfl rfl rfl rfl rfl (by kernel_rfl) sS (fun _ => rfl) (fun r hr hn0 => ?_)
  obtain ⟨⟨A1, n1, c1⟩, M⟩ := r
  obtain ⟨hs1, p, hp, hM⟩ := hr
  dsimp only at hs1 hM
  have hn1 : n1 = M.length := hs1.n
  have hc1 : n1 ≤ c1 := hs1.c
  have hMl : M.length ≤ L.length := by rw [hM]; exact (delAt_len (by have := hp.le; rw [List.length_map] at this; exact this)).1
  have haM : AscK (keysOf M) := by rw [hM]; exact delAt_asc ha
  refine g_say 10 (.slice A1 n1 c1) rfl rfl ?_
  (repeat (refine gG ?_; try intro _))
  refine g_mv rfl ?_; refine mv_call_rt (fun w hk => rfind_any A1 n1 c1 M e.k w hn1 (by omega) haM (hk.rR (φ := sl A1 4 EE M) mE)) rfl rfl rfl rfl rfl (by kernel_rfl) (fun _ => rfl) (fun q hq => ?_)
  have hql := hq.le
  rw [List.length_map] at hql
  have heq : M.take q ++ [e] ++ M.drop q = setAt L e p := by
    rw [hM] at hq ⊢
    exact set_is ha hp hq
  (repeat (refine gG ?_; try intro _))
  refine gk_takeS (enc := EE) (L := M) (A := A1) q c1 mE (by omega) ?_
  refine gk_dropS (enc := EE) (L := M) (A := A1) q c1 mE (by omega) ?_
  refine gk_any [0] (Cut _ (fun v : Value => [(4, v)]) (fun v => [own 0 31 4 v EE ([] ++ M.take q ++ [e] ++ M.drop q)]) (fun _ => [])) rfl rfl (by kernel_rfl) ?_ (cut_k fun v => ?_)
  · skip
    refine gb_take 1 rfl (by decide +kernel) rfl rfl (ys_ev (nw := true) hT rfl sI) sF ?_
    refine gb_take 2 rfl (by decide +kernel) rfl rfl (ys_ev (nw := true) hT rfl sI) sF ?_
    refine gb_take 3 rfl (by decide +kernel) rfl rfl (ys_slice_h hT q rfl rfl rfl rfl rfl (by omega)) sF ?_
    refine gb_take 5 rfl (by decide +kernel) rfl rfl (by first | exact ys_blk hT rfl rfl mE rfl rfl | exact ys_row hT rfl rfl mE rfl rfl | exact ys_row0 hT rfl rfl mE rfl rfl) sF ?_
    refine gb_take 8 rfl (by decide +kernel) rfl rfl (ys_ev (nw := true) hT rfl sI) sF ?_
    refine gb_take 9 rfl (by decide +kernel) rfl rfl (ys_ev (nw := true) hT rfl sI) sF ?_
    refine gb_take 10 rfl (by decide +kernel) rfl rfl (ys_slice_l hT q rfl rfl rfl rfl rfl (by omega)) sF ?_
    refine gb_all (by decide +kernel) ?_
    refine gball_yes rfl rfl ?_ ?_
    · refine mv_empty 4 EE rfl hT rfl rfl rfl rfl rfl (fun ge => ?_)
      refine ⟨sF, ?_⟩
      refine gb_all (by decide +kernel) ?_
      refine gball_not (by decide +kernel) ?_
      refine gball_not (by decide +kernel) ?_
      refine gball_not (by decide +kernel) ?_
      refine gball_not (by decide +kernel) ?_
      refine gball_yes rfl rfl ?_ ?_
      · refine mv_append (L := []) rfl (M.take q) rfl rfl rfl rfl elt_E (by intro _; first | ((repeat (first | with_reducible exact Upd.here _ | with_reducible apply Upd.there)); done) | ((repeat (first | exact Upd.here _ | apply Upd.there)); done) | fail) (src_R mE) (by rw [List.length_take]; omega) (by intro x j; rcases j with _ | _ | _ | j <;> rfl) (by rw [List.length_take]; simp only [List.length_nil]; unfold maxLen; omega) (by rw [List.length_take]; simp only [List.length_nil]; omega) (Nat.zero_le _) (fun v1 => ?_)
        refine ⟨sF, ?_⟩
        refine gb_only 6 (by decide +kernel) rfl rfl ?_
        first | (refine mv_box rfl rfl rfl rfl ?_; intro _) | (refine mv_alloc rfl hT rfl rfl ?_; intro _) | refine mv_store hT rfl rfl rfl rfl rfl rfl sO rfl ?_ | (refine mv_buildSlice rfl hT rfl rfl rfl rfl rfl rfl rfl rfl ?_; intro _)
        refine ⟨sF, ?_⟩
        refine gb_only 7 (by decide +kernel) rfl rfl ?_
        refine mv_append rfl [e] rfl rfl rfl rfl elt_E (by intro _; first | ((repeat (first | with_reducible exact Upd.here _ | with_reducible apply Upd.there)); done) | ((repeat (first | exact Upd.here _ | apply Upd.there)); done) | fail) (src_blk mE rfl) rfl (by intro x j; rcases j with _ | _ | _ | j <;> rfl) (by rw [List.length_append, List.length_take]; simp only [List.length_nil, List.length_cons]; unfold maxLen; omega) (by rw [List.length_append, List.length_take]; simp only [List.length_nil, List.length_cons]; omega) (Nat.zero_le _) (fun v2 => ?_)
        refine ⟨sF, ?_⟩
        refine gb_only 11 (by decide +kernel) rfl rfl ?_
        refine mv_append rfl (M.drop q) rfl rfl rfl rfl elt_E (by intro _; first | ((repeat (first | with_reducible exact Upd.here _ | with_reducible apply Upd.there)); done) | ((repeat (first | exact Upd.here _ | apply Upd.there)); done) | fail) (src_R mE) (by rw [List.length_drop]; omega) (by intro x j; rcases j with _ | _ | _ | j <;> rfl) (by rw [List.length_append, List.length_append, List.length_take, List.length_drop]; simp only [List.length_nil, List.length_cons]; unfold maxLen; omega) (by rw [List.length_append, List.length_append, List.length_take, List.length_drop]; simp only [List.length_nil, List.length_cons]; omega) (Nat.zero_le _) (fun v3 => ?_)
        refine ⟨sF, ?_⟩
        refine gb_take 12 rfl (by decide +kernel) rfl rfl (ys_ev (nw := true) hT rfl sI) sF ?_
        refine gb_nil (by decide +kernel) ?_
        exact ⟨_, (by repeat (first | exact trivial | refine ⟨rfl, ?_⟩)), sA, sS⟩
      refine gball_not (by decide +kernel) ?_
      refine gball_yes rfl rfl ?_ ?_
      · first | (refine mv_box rfl rfl rfl rfl ?_; intro _) | (refine mv_alloc rfl hT rfl rfl ?_; intro _) | refine mv_store hT rfl rfl rfl rfl rfl rfl sO rfl ?_ | (refine mv_buildSlice rfl hT rfl rfl rfl rfl rfl rfl rfl rfl ?_; intro _)
        refine ⟨sF, ?_⟩
        refine gb_only 4 (by decide +kernel) rfl rfl ?_
        refine mv_append (L := []) rfl (M.take q) rfl rfl rfl rfl elt_E (by intro _; first | ((repeat (first | with_reducible exact Upd.here _ | with_reducible apply Upd.there)); done) | ((repeat (first | exact Upd.here _ | apply Upd.there)); done) | fail) (src_R mE) (by rw [List.length_take]; omega) (by intro x j; rcases j with _ | _ | _ | j <;> rfl) (by rw [List.length_take]; simp only [List.length_nil]; unfold maxLen; omega) (by rw [List.length_take]; simp only [List.length_nil]; omega) (Nat.zero_le _) (fun v1 => ?_)
        refine ⟨sF, ?_⟩
        refine gb_only 7 (by decide +kernel) rfl rfl ?_
        refine mv_append rfl [e] rfl rfl rfl rfl elt_E (by intro _; first | ((repeat (first | with_reducible exact Upd.here _ | with_reducible apply Upd.there)); done) | ((repeat (first | exact Upd.here _ | apply Upd.there)); done) | fail) (src_blk mE rfl) rfl (by intro x j; rcases j with _ | _ | _ | j <;> rfl) (by rw [List.length_append, List.length_take]; simp only [List.length_nil, List.length_cons]; unfold maxLen; omega) (by rw [List.length_append, List.length_take]; simp only [List.length_nil, List.length_cons]; omega) (Nat.zero_le _) (fun v2 => ?_)
        refine ⟨sF, ?_⟩
        refine gb_only 11 (by decide +kernel) rfl rfl ?_
        refine mv_append rfl (M.drop q) rfl rfl rfl rfl elt_E (by intro _; first | ((repeat (first | with_reducible exact Upd.here _ | with_reducible apply Upd.there)); done) | ((repeat (first | exact Upd.here _ | apply Upd.there)); done) | fail) (src_R mE) (by rw [List.length_drop]; omega) (by intro x j; rcases j with _ | _ | _ | j <;> rfl) (by rw [List.length_append, List.length_append, List.length_take, List.length_drop]; simp only [List.length_nil, List.length_cons]; unfold maxLen; omega) (by rw [List.length_append, List.length_append, List.length_take, List.length_drop]; simp only [List.length_nil, List.length_cons]; omega) (Nat.zero_le _) (fun v3 => ?_)
        refine ⟨sF, ?_⟩
        refine gb_take 12 rfl (by decide +kernel) rfl rfl (ys_ev (nw := true) hT rfl sI) sF ?_
        refine gb_nil (by decide +kernel) ?_
        exact ⟨_, (by repeat (first | exact trivial | refine ⟨rfl, ?_⟩)), sA, sS⟩
      refine gball_not (by decide +kernel) ?_
      refine gball_not (by decide +kernel) ?_
      refine gball_not (by decide +kernel) ?_
      refine gball_not (by decide +kernel) ?_
      refine gball_not (by decide +kernel) ?_
      refine gball_not (by decide +kernel) ?_
      exact gball_end (by decide +kernel)
    refine gball_not (by decide +kernel) ?_
    refine gball_not (by decide +kernel) ?_
    refine gball_not (by decide +kernel) ?_
    refine gball_not (by decide +kernel) ?_
    refine gball_not (by decide +kernel) ?_
    refine gball_yes rfl rfl ?_ ?_
    · first | (refine mv_box rfl rfl rfl rfl ?_; intro _) | (refine mv_alloc rfl hT rfl rfl ?_; intro _) | refine mv_store hT rfl rfl rfl rfl rfl rfl sO rfl ?_ | (refine mv_buildSlice rfl hT rfl rfl rfl rfl rfl rfl rfl rfl ?_; intro _)
      refine ⟨sF, ?_⟩
      refine gb_only 0 (by decide +kernel) rfl rfl ?_
      refine mv_empty 4 EE rfl hT rfl rfl rfl rfl rfl (fun ge => ?_)
      refine ⟨sF, ?_⟩
      refine gb_only 4 (by decide +kernel) rfl rfl ?_
      refine mv_append (L := []) rfl (M.take q) rfl rfl rfl rfl elt_E (by intro _; first | ((repeat (first | with_reducible exact Upd.here _ | with_reducible apply Upd.there)); done) | ((repeat (first | exact Upd.here _ | apply Upd.there)); done) | fail) (src_R mE) (by rw [List.length_take]; omega) (by intro x j; rcases j with _ | _ | _ | j <;> rfl) (by rw [List.length_take]; simp only [List.length_nil]; unfold maxLen; omega) (by rw [List.length_take]; simp only [List.length_nil]; omega) (Nat.zero_le _) (fun v1 => ?_)
      refine ⟨sF, ?_⟩
      refine gb_only 7 (by decide +kernel) rfl rfl ?_
      refine mv_append rfl [e] rfl rfl rfl rfl elt_E (by intro _; first | ((repeat (first | with_reducible exact Upd.here _ | with_reducible apply Upd.there)); done) | ((repeat (first | exact Upd.here _ | apply Upd.there)); done) | fail) (src_blk mE rfl) rfl (by intro x j; rcases j with _ | _ | _ | j <;> rfl) (by rw [List.length_append, List.length_take]; simp only [List.length_nil, List.length_cons]; unfold maxLen; omega) (by rw [List.length_append, List.length_take]; simp only [List.length_nil, List.length_cons]; omega) (Nat.zero_le _) (fun v2 => ?_)
      refine ⟨sF, ?_⟩
      refine gb_only 11 (by decide +kernel) rfl rfl ?_
      refine mv_append rfl (M.drop q) rfl rfl rfl rfl elt_E (by intro _; first | ((repeat (first | with_reducible exact Upd.here _ | with_reducible apply Upd.there)); done) | ((repeat (first | exact Upd.here _ | apply Upd.there)); done) | fail) (src_R mE) (by rw [List.length_drop]; omega) (by intro x j; rcases j with _ | _ | _ | j <;> rfl) (by rw [List.length_append, List.length_append, List.length_take, List.length_drop]; simp only [List.length_nil, List.length_cons]; unfold maxLen; omega) (by rw [List.length_append, List.length_append, List.length_take, List.length_drop]; simp only [List.length_nil, List.length_cons]; omega) (Nat.zero_le _) (fun v3 => ?_)
      refine ⟨sF, ?_⟩
      refine gb_take 12 rfl (by decide +kernel) rfl rfl (ys_ev (nw := true) hT rfl sI) sF ?_
      refine gb_nil (by decide +kernel) ?_
      exact ⟨_, (by repeat (first | exact trivial | refine ⟨rfl, ?_⟩)), sA, sS⟩
    refine gball_not (by decide +kernel) ?_
    refine gball_not (by decide +kernel) ?_
    refine gball_not (by decide +kernel) ?_
    refine gball_not (by decide +kernel) ?_
    refine gball_not (by decide +kernel) ?_
    refine gball_not (by decide +kernel) ?_
    exact gball_end (by decide +kernel)
  · rw [List.nil_append, heq]
    refine gk_freeze _ (by intro _; first | ((repeat (first | with_reducible exact Upd.here _ | with_reducible apply Upd.there)); done) | ((repeat (first | exact Upd.here _ | apply Upd.there)); done) | fail) (fun A2 c2 hA2 hA21 hA22 hA23 => ?_); subst hA2
    (repeat (refine gG ?_; try intro _))
    refine gk_ret hT rfl rfl (.tmp rfl .nil) (fun w' hk => ?_)
    exact RetS.mk ⟨⟨A2, (setAt L e p).length, c2⟩, setAt L e p⟩ ⟨⟨rfl, hA21, hA22, hA23⟩, p, hp, rfl⟩ rfl hk (.cons (RS1.own hk mE) .nil)
end Go.Proofs.YtaghmffgoomebaaGreat.Tw
namespace Go.Proofs.YtaghmffgoomebaaGreat.Tw
open Go.RowKit Mem Nd Gx
open Go.ChangeShapes Go.WideShapes Go.Deep
set_option linter.unusedVariables false
set_option linter.unusedSimpArgs false
set_option maxRecDepth 100000
set_option maxHeartbeats 4000000
/-- A call. -/
structure OpD where
  del : Bool
  e : EntD
instance : Inhabited OpD := ⟨⟨false, default⟩⟩
def CE : OpD → Nat → Value
  | x, 0 => .bool x.del
  | x, 1 => .int .u16 x.e.k.v
  | x, 2 => .int .u32 x.e.k.b
  | x, 3 => .int .u64 x.e.k.s
  | x, _ + 4 => .int .u32 x.e.a
abbrev OpD.val (x : OpD) : Value := .agg #[.bool x.del, .int .u16 x.e.k.v, .int .u32 x.e.k.b, .int .u64 x.e.k.s, .int .u32 x.e.a]
end Go.Proofs.YtaghmffgoomebaaGreat.Tw
namespace Go.Proofs.YtaghmffgoomebaaGreat.Tw
open Go.RowKit Mem Nd Gx
open Tr hiding T row
set_option linter.unusedVariables false
set_option linter.unusedSimpArgs false
set_option maxRecDepth 100000
set_option maxHeartbeats 4000000
theorem oV_eq (x : Option EntD) : oV x = (x.getD default).val := by cases x <;> rfl
theorem HasO.asc : ∀ {a : Option AT} {L : List EntD}, HasO a L → AscK (keysOf L)
  | none, L, h => by
    obtain rfl : L = [] := h
    exact fun i j _ h2 => absurd h2 (by simp)
  | some a, L, h => Has.asc h
theorem new_mono {w : World} {RA RB : List Fact} {φ : Fact} (h : New w RA φ) (hs : RA ⊆ RB) : New w RB φ := fun b hb => (h b hb).imp id fun ⟨ψ, h1, h2⟩ => ⟨ψ, hs h1, h2⟩
theorem get_was {M : List EntD} {k : KeyD} {p : Nat} {had : Bool} {was : Int} (h1 : had = tB ((keysOf M)[p]? = some k)) (h2 : was = (if had = true then (M.getD p default).a else 0)) : was = ((getV M k p).getD default).a ∧ had = (getV M k p).isSome := by
  unfold getV
  by_cases hf : tB ((keysOf M)[p]? = some k) = true
  · have hlt := (List.getElem?_eq_some_iff.1 (tB_iff.1 hf)).1
    rw [List.length_map] at hlt
    rw [if_pos hf, h2, h1, if_pos hf]
    rw [List.getElem?_eq_getElem hlt, List.getD_eq_getElem?_getD, List.getElem?_eq_getElem hlt]
    exact ⟨rfl, hf⟩
  · rw [if_neg hf, h2, h1, if_neg hf]
    exact ⟨rfl, by cases hb : tB ((keysOf M)[p]? = some k) with | false => rfl | true => exact absurd hb hf⟩
/-- Behind a step. -/
structure StepO where
  a : Option AT
  M : List EntD
  s : SlV
structure StepI (a : Option AT) (M : List EntD) (o : OpD) (r : StepO) : Prop where
  has : HasO r.a r.M
  ok : r.s.Ok r.M.length
  p : ∃ p, PosK (keysOf M) o.e.k p ∧ r.M = (if o.del = true then delAt M o.e.k p else setAt M o.e p) ∧
    ((o.del = true → DelX a o.e.k (tB ((keysOf M)[p]? = some o.e.k)) r.a) ∧ (o.del = false → SetX a o.e r.a))
theorem step_any (a : Option AT) (M : List EntD) (s : SlV) (o : OpD) (tg : Nat) (w : World) (hh : HasO a M) (h9 : M.length ≤ 160) (hs : s.Ok M.length) (hB : w.heap[tg]? = some (.cells [rootV a, .int .i64 (M.length : Int)].toArray 55 (0, 0))) (hF : Rd1 w (stF a)) (hM : Rd1 w (sl s.A 4 EE M)) (hd1 : ¬ (stF a).S tg) (hd2 : ¬ (sl s.A 4 EE M).S tg) :
    Calls Tryz.prog 16 [.pointer (some ⟨tg, 0, none⟩), .slice s.A s.n s.c, o.val].toArray w (RetX tg 55 (StepI a M o) (fun r => .tuple #[r.s.v, .bool true]) (fun r => [rootV r.a, .int .i64 (r.M.length : Int)]) (fun r => [stF r.a, sl r.s.A 4 EE r.M]) [stF a, sl s.A 4 EE M] w) := by
  obtain ⟨xA, xn, xc⟩ := s
  obtain ⟨del, e⟩ := o
  have hsn : xn = M.length := hs.n
  have ha := hh.asc
  have hk0 : Kn [tg] w w [blk tg [rootV a, .int .i64 (M.length : Int)] 55] [stF a, sl xA 4 EE M] := ((Kn.startW hB).addR _ hM.1 hM.2 (fun φ hφ b hb hb' => by
    obtain rfl := List.mem_singleton.1 hφ
    have : b = tg := hb
    subst this
    exact hd2 hb')).addR _ hF.1 hF.2 (fun φ hφ b hb hb' => by
    obtain rfl := List.mem_singleton.1 hφ
    have : b = tg := hb
    subst this
    exact hd1 hb')
  refine g_enter0 T [tg] [blk tg [rootV a, .int .i64 (M.length : Int)] 55] [stF a, sl xA 4 EE M] Tryz.func16 rfl Tryz.ntmps16 rfl hk0 ?_
  (repeat (refine gG ?_; try intro _))
  rename_i g5
  refine g_mv rfl ?_; refine mv_call_rt (fun w hk => rget_any xA xn xc M e.k w hsn (by omega) ha (hk.rR mE)) rfl rfl rfl rfl rfl (by kernel_rfl) (fun _ => rfl) (fun p hp => ?_)
  rw [oV_eq]
  (repeat (refine gG ?_; try intro _))
  rename_i g8
  obtain ⟨z, hz⟩ : ∃ z, z = (getV M e.k p).getD default := ⟨_, rfl⟩
  obtain ⟨zb, hzb⟩ : ∃ zb, zb = (getV M e.k p).isSome := ⟨_, rfl⟩
  rw [← hz, ← hzb]
  cases del with
  | true =>
    (repeat (refine gG ?_; try intro _))
    refine g_mv rfl ?_; refine mv_call_rx (fun w hk => st_delete a M e.k tg w hh (by omega) (hk.pO (blk tg [rootV a, .int .i64 (M.length : Int)] 55) mE) (hk.rR mE) (fun h => hk.disR (blk tg [rootV a, .int .i64 (M.length : Int)] 55) mE (stF a) mE tg rfl h)) rfl rfl rfl rfl rfl (by kernel_rfl) (by intro _; first | ((repeat (first | with_reducible exact Upd.here _ | with_reducible apply Upd.there)); done) | ((repeat (first | exact Upd.here _ | apply Upd.there)); done) | fail) sS (fun _ => rfl) (fun r hr hnr => ?_)
    obtain ⟨p', hp', hrM, hrh, hrw⟩ := hr.p
    obtain rfl := pos_unique hp hp'
    obtain ⟨e1, e2⟩ := get_was hrh hrw
    rw [← hz] at e1
    rw [← hzb] at e2
    (repeat (refine gG ?_; try intro _))
    refine gk_any [0, 1] (Cut _ (fun q : { q : RowV // (q.s.Ok q.M.length ∧ ∃ p, PosK (keysOf M) e.k p ∧ q.M = delAt M e.k p) ∧ New w [sl xA 4 EE M] (sl q.s.A 4 EE q.M) } => [(6, q.1.s.v), (7, .bool true)]) (fun _ => [blk tg [rootV r.a, .int .i64 (r.M.length : Int)] 55]) (fun q => [sl q.1.s.A 4 EE q.1.M, stF r.a])) rfl rfl (by kernel_rfl) ?_ (cut_k fun q => ?_)
    · skip
      refine gb_take 0 rfl (by decide +kernel) rfl rfl (ys_ev (nw := true) hT rfl sI) sF ?_
      refine gb_take 1 rfl (by decide +kernel) rfl rfl (ys_ev (nw := true) hT rfl sI) sF ?_
      refine gb_take 2 rfl (by decide +kernel) rfl rfl (ys_ev (nw := true) hT rfl sI) sF ?_
      refine gb_take 3 rfl (by decide +kernel) rfl rfl (by first | exact ys_blk hT rfl rfl mE rfl rfl | exact ys_row hT rfl rfl mE rfl rfl | exact ys_row0 hT rfl rfl mE rfl rfl) sF ?_
      refine gb_take 5 rfl (by decide +kernel) rfl rfl (ys_ev (nw := true) hT rfl sI) sF ?_
      refine gb_take 6 rfl (by decide +kernel) rfl rfl (ys_ev (nw := true) hT rfl sI) sF ?_
      refine gb_take 7 rfl (by decide +kernel) rfl rfl (by first | exact ys_blk hT rfl rfl mE rfl rfl | exact ys_row hT rfl rfl mE rfl rfl | exact ys_row0 hT rfl rfl mE rfl rfl) sF ?_
      refine gb_take 8 rfl (by decide +kernel) rfl rfl (ys_ev (nw := true) hT rfl sI) sF ?_
      try (refine gb_say 40 (.bool true) rfl (congrArg Value.bool (tB_true e1)) ?_)
      refine gb_only 4 (by decide +kernel) rfl rfl ?_
      refine mv_call_rs (fun w hk => rwithout_any xA xn xc M e.k w hs (by omega) ha (hk.rR mE)) rfl rfl rfl rfl rfl (by kernel_rfl) sS (fun _ => rfl) (fun q hq hnq => ?_)
      refine ⟨sF, ?_⟩
      refine gb_take 9 rfl (by decide +kernel) rfl rfl (ys_ev (nw := true) hT rfl sI) sF ?_
      first | refine gb_take 10 rfl (by decide +kernel) rfl rfl (ys_ev (nw := true) hT rfl sI) sF ?_ | refine gb_skip 10 rfl (by decide +kernel) rfl rfl sF ?_
      first | refine gb_take 11 rfl (by decide +kernel) rfl rfl (ys_ev (nw := true) hT rfl sI) sF ?_ | refine gb_skip 11 rfl (by decide +kernel) rfl rfl sF ?_
      first | refine gb_take 12 rfl (by decide +kernel) rfl rfl (ys_ev (nw := true) hT rfl sI) sF ?_ | refine gb_skip 12 rfl (by decide +kernel) rfl rfl sF ?_
      try (refine gb_say 44 (.bool true) rfl (congrArg Value.bool (tB_true e2)) ?_)
      refine gb_take 13 rfl (by decide +kernel) rfl rfl (ys_ev (nw := true) hT rfl sI) sF ?_
      refine gb_take 14 rfl (by decide +kernel) rfl rfl (ys_ev (nw := true) hT rfl sI) sF ?_
      refine gb_take 15 rfl (by decide +kernel) rfl rfl (ys_ev (nw := true) hT rfl sI) sF ?_
      refine gb_nil (by decide +kernel) ?_
      exact ⟨⟨q, hq, hnq _ (.head _)⟩, (by repeat (first | exact trivial | refine ⟨rfl, ?_⟩)), sA, sS⟩
    · obtain ⟨q, ⟨hq1, p2, hq2, hq3⟩, hq4⟩ := q
      obtain rfl := pos_unique hq2 hp
      (repeat (refine gG ?_; try intro _))
      refine gk_ret hT rfl rfl (.tmp rfl (.tmp rfl .nil)) (fun w' hk => ?_)
      refine RetX.mk ⟨r.a, q.M, q.s⟩ ⟨by show HasO r.a q.M; rw [hq3, ← hrM]; exact hr.has, hq1, p2, hp, by rw [if_pos rfl]; exact hq3, fun _ => by rw [← hrh]; exact hr.x, fun h => by cases h⟩ rfl hk (by
        show SelAll [blk tg [rootV r.a, .int .i64 (q.M.length : Int)] 55] _
        rw [hq3, ← hrM]; exact sA) (.cons (RS1.rdE hk mE (new_mono (hnr _ (.head _)) sS)) (.cons (RS1.rdE hk mE (new_mono hq4 sS)) .nil))
  | false =>
    (repeat (refine gG ?_; try intro _))
    refine g_mv rfl ?_; refine mv_call_rx (fun w hk => st_set a M e tg w hh (by omega) (hk.pO (blk tg [rootV a, .int .i64 (M.length : Int)] 55) mE) (hk.rR mE) (fun h => hk.disR (blk tg [rootV a, .int .i64 (M.length : Int)] 55) mE (stF a) mE tg rfl h)) rfl rfl rfl rfl rfl (by kernel_rfl) (by intro _; first | ((repeat (first | with_reducible exact Upd.here _ | with_reducible apply Upd.there)); done) | ((repeat (first | exact Upd.here _ | apply Upd.there)); done) | fail) sS (fun _ => rfl) (fun r hr hnr => ?_)
    obtain ⟨p', hp', hrM, hrh, hrw⟩ := hr.p
    obtain rfl := pos_unique hp hp'
    obtain ⟨e1, e2⟩ := get_was hrh hrw
    rw [← hz] at e1
    rw [← hzb] at e2
    (repeat (refine gG ?_; try intro _))
    refine gk_any [0, 1] (Cut _ (fun q : { q : RowV // (q.s.Ok q.M.length ∧ ∃ p, PosK (keysOf M) e.k p ∧ q.M = setAt M e p) ∧ New w [sl xA 4 EE M] (sl q.s.A 4 EE q.M) } => [(6, q.1.s.v), (7, .bool true)]) (fun _ => [blk tg [rootV r.a, .int .i64 (r.M.length : Int)] 55]) (fun q => [sl q.1.s.A 4 EE q.1.M, stF r.a])) rfl rfl (by kernel_rfl) ?_ (cut_k fun q => ?_)
    · skip
      refine gb_take 0 rfl (by decide +kernel) rfl rfl (ys_ev (nw := true) hT rfl sI) sF ?_
      refine gb_take 1 rfl (by decide +kernel) rfl rfl (ys_ev (nw := true) hT rfl sI) sF ?_
      refine gb_take 2 rfl (by decide +kernel) rfl rfl (by first | exact ys_blk hT rfl rfl mE rfl rfl | exact ys_row hT rfl rfl mE rfl rfl | exact ys_row0 hT rfl rfl mE rfl rfl) sF ?_
      refine gb_take 4 rfl (by decide +kernel) rfl rfl (ys_ev (nw := true) hT rfl sI) sF ?_
      refine gb_take 5 rfl (by decide +kernel) rfl rfl (ys_ev (nw := true) hT rfl sI) sF ?_
      refine gb_take 6 rfl (by decide +kernel) rfl rfl (by first | exact ys_blk hT rfl rfl mE rfl rfl | exact ys_row hT rfl rfl mE rfl rfl | exact ys_row0 hT rfl rfl mE rfl rfl) sF ?_
      refine gb_take 7 rfl (by decide +kernel) rfl rfl (ys_ev (nw := true) hT rfl sI) sF ?_
      try (refine gb_say 60 (.bool true) rfl (congrArg Value.bool (tB_true e1)) ?_)
      refine gb_only 3 (by decide +kernel) rfl rfl ?_
      refine mv_call_rs (fun w hk => rset_any xA xn xc M e w hs (by omega) ha (hk.rR mE)) rfl rfl rfl rfl rfl (by kernel_rfl) sS (fun _ => rfl) (fun q hq hnq => ?_)
      refine ⟨sF, ?_⟩
      refine gb_take 8 rfl (by decide +kernel) rfl rfl (ys_ev (nw := true) hT rfl sI) sF ?_
      first | refine gb_take 9 rfl (by decide +kernel) rfl rfl (ys_ev (nw := true) hT rfl sI) sF ?_ | refine gb_skip 9 rfl (by decide +kernel) rfl rfl sF ?_
      first | refine gb_take 10 rfl (by decide +kernel) rfl rfl (ys_ev (nw := true) hT rfl sI) sF ?_ | refine gb_skip 10 rfl (by decide +kernel) rfl rfl sF ?_
      first | refine gb_take 11 rfl (by decide +kernel) rfl rfl (ys_ev (nw := true) hT rfl sI) sF ?_ | refine gb_skip 11 rfl (by decide +kernel) rfl rfl sF ?_
      try (refine gb_say 64 (.bool true) rfl (congrArg Value.bool (tB_true e2)) ?_)
      refine gb_take 12 rfl (by decide +kernel) rfl rfl (ys_ev (nw := true) hT rfl sI) sF ?_
      refine gb_take 13 rfl (by decide +kernel) rfl rfl (ys_ev (nw := true) hT rfl sI) sF ?_
      refine gb_take 14 rfl (by decide +kernel) rfl rfl (ys_ev (nw := true) hT rfl sI) sF ?_
      refine gb_nil (by decide +kernel) ?_
      exact ⟨⟨q, hq, hnq _ (.head _)⟩, (by repeat (first | exact trivial | refine ⟨rfl, ?_⟩)), sA, sS⟩
    · obtain ⟨q, ⟨hq1, p2, hq2, hq3⟩, hq4⟩ := q
      obtain rfl := pos_unique hq2 hp
      (repeat (refine gG ?_; try intro _))
      refine gk_ret hT rfl rfl (.tmp rfl (.tmp rfl .nil)) (fun w' hk => ?_)
      refine RetX.mk ⟨r.a, q.M, q.s⟩ ⟨by show HasO r.a q.M; rw [hq3, ← hrM]; exact hr.has, hq1, p2, hp, by rw [if_neg (fun h => by cases h)]; exact hq3, fun h => (by cases h), fun _ => hr.x⟩ rfl hk (by
        show SelAll [blk tg [rootV r.a, .int .i64 (q.M.length : Int)] 55] _
        rw [hq3, ← hrM]; exact sA) (.cons (RS1.rdE hk mE (new_mono (hnr _ (.head _)) sS)) (.cons (RS1.rdE hk mE (new_mono hq4 sS)) .nil))
end Go.Proofs.YtaghmffgoomebaaGreat.Tw
