/- record: Put; the reference's Put; the chapter's example. -/
import Derived.Test.YteajefmnbalofaaRc2
import Derived.Test.YteajefmnbalofaaGxC
namespace Go.Proofs.Yteajefmnbalofaa.Rec
open Go.RowKit Mem Gx Sls Bytes Rd OpA
set_option linter.unusedVariables false
set_option linter.unusedSimpArgs false
set_option maxRecDepth 100000
set_option maxHeartbeats 4000000
def recL (r : RecD) (B : List Int) : List Int := [] ++ le r.g 8 ++ le r.l 8 ++ le r.t 8 ++ B
theorem recL_len (r : RecD) (B : List Int) : (recL r B).length = 24 + B.length := by
  unfold recL
  simp only [List.length_append, le_length, List.length_nil]
theorem recL_isB (r : RecD) {B : List Int} (h : IsB B) : IsB (recL r B) := by
  unfold recL
  exact ((((IsB.nil).append (le_isB _ _)).append (le_isB _ _)).append (le_isB _ _)).append h
structure RecD.Bd (r : RecD) : Prop where
  g : 0 ≤ r.g ∧ r.g ≤ 18446744073709551615
  l : 0 ≤ r.l ∧ r.l ≤ 18446744073709551615
  t : 0 ≤ r.t ∧ r.t ≤ 18446744073709551615
  o : r.o.Bd
theorem rcput_no (r : RecD) (w : World) (ho : r.Ok) (hi : r.In w) (hM9 : r.o.M.length ≤ 100000) (h : ¬ (1 ≤ r.o.k ∧ r.o.k ≤ 14 ∧ rrightB r.o = true)) : Calls Try.prog 32 [r.val].toArray w fun e w' => e = .returned (.tuple #[.slice none 0 0, .int .i64 10]) ∧ Below w.heap.size w w' := by
  refine g_enter0 T [] [] [sl r.o.m.A 1 (IE .i64) r.o.M, sl r.o.a.A 1 (IE .u8) r.o.D] Try.func32 rfl Try.ntmps32 rfl (((Kn.start w).argR hi.o.a (by decide) (fun _ h => by cases h)).argR hi.o.m (by decide) (fun _ h => by cases h)) ?_
  (repeat' (first | (refine gG ?_; try intro _) | (refine g_mv rfl ?_; first | refine mv_call_bel (fun w hk => put_no r.o w ho.o ⟨hk.pR (sl r.o.a.A 1 (IE .u8) r.o.D) mE, hk.pR (sl r.o.m.A 1 (IE .i64) r.o.M) mE⟩ hM9 h) rfl rfl rfl rfl rfl (by kernel_rfl) ?_) | ((first | refine g_split rfl rfl tE (fun _ => ?_) (fun _ => ?_) | refine gk_cond rfl rfl tE (fun _ => ?_) (fun _ => ?_)) <;> (try first | (exfalso; omega; done) | (rename_i hx; exact absurd rfl hx) | (rename_i hx; cases hx; done)))))
  refine gk_ret hT rfl rfl (.tmp rfl (.tmp rfl .nil)) (fun w' hk => ?_)
  exact ⟨rfl, hk.toBelow⟩
theorem rcput_yes (r : RecD) (w : World) (ho : r.Ok) (hi : r.In w) (hb : r.Bd) (hD9 : r.o.D.length ≤ 100000) (hM9 : r.o.M.length ≤ 100000) (h : 1 ≤ r.o.k ∧ r.o.k ≤ 14 ∧ rrightB r.o = true) (B : List Int) (hB : ∀ p, PlainAt r.o (looks r.o.k) p → putL p = B) (hBB : IsB B) (hBl : B.length ≤ 96) :
    Calls Try.prog 32 [r.val].toArray w (RetB (fun v => .tuple #[v, .int .i64 0]) (Page.page 2 (recL r B)) w) := by
  refine g_enter0 T [] [] [sl r.o.m.A 1 (IE .i64) r.o.M, sl r.o.a.A 1 (IE .u8) r.o.D] Try.func32 rfl Try.ntmps32 rfl (((Kn.start w).argR hi.o.a (by decide) (fun _ h => by cases h)).argR hi.o.m (by decide) (fun _ h => by cases h)) ?_
  (repeat (refine gG ?_; try intro _))
  refine g_mv rfl ?_; refine mv_call_rt (fun w hk => put_yes r.o w ho.o ⟨hk.pR (sl r.o.a.A 1 (IE .u8) r.o.D) mE, hk.pR (sl r.o.m.A 1 (IE .i64) r.o.M) mE⟩ hD9 hM9 hb.o.bp h B hB) rfl rfl rfl rfl rfl (by kernel_rfl) (fun _ => rfl) (fun s hs => ?_)
  (repeat' (first | (refine gG ?_; try intro _) | ((first | refine g_split rfl rfl tE (fun _ => ?_) (fun _ => ?_) | refine gk_cond rfl rfl tE (fun _ => ?_) (fun _ => ?_)) <;> (try first | (exfalso; omega; done) | (rename_i hx; exact absurd rfl hx) | (rename_i hx; cases hx; done)))))
  refine gk_own 0 5 1 (IE .u8) ?_
  refine gk_rounds 3 rfl ?_
  (repeat' (first | (refine gG ?_; try intro _) | ((first | refine g_split rfl rfl tE (fun _ => ?_) (fun _ => ?_) | refine gk_cond rfl rfl tE (fun _ => ?_) (fun _ => ?_)) <;> (try first | (exfalso; omega; done) | (rename_i hx; exact absurd rfl hx) | (rename_i hx; cases hx; done)))))
  refine g_yd rfl rfl (yd_index_arr hT 0 rfl rfl rfl rfl rfl rfl rfl (by decide) rfl) ?_
  (repeat (refine gG ?_; try intro _))
  refine g_mv rfl ?_; refine mv_call_grow (fun w hk => Fix.put_any 0 (.slice none 0 0) [] r.g 8 8 w rfl (by omega) hb.g.1 (hk.pO (own 0 5 1 (.slice none 0 0) (IE .u8) ([] : List Int)) mE) (by simp) (Nat.zero_le _)) rfl rfl rfl rfl rfl (by kernel_rfl) (by intro _; first | ((repeat (first | with_reducible exact Upd.here _ | with_reducible apply Upd.there)); done) | ((repeat (first | exact Upd.here _ | apply Upd.there)); done) | fail) (fun v1 => ?_)
  (repeat (refine gG ?_; try intro _))
  refine gk_next rfl ?_
  (repeat' (first | (refine gG ?_; try intro _) | ((first | refine g_split rfl rfl tE (fun _ => ?_) (fun _ => ?_) | refine gk_cond rfl rfl tE (fun _ => ?_) (fun _ => ?_)) <;> (try first | (exfalso; omega; done) | (rename_i hx; exact absurd rfl hx) | (rename_i hx; cases hx; done)))))
  refine g_yd rfl rfl (yd_index_arr hT 1 rfl rfl rfl rfl rfl rfl rfl (by decide) rfl) ?_
  (repeat (refine gG ?_; try intro _))
  refine g_mv rfl ?_; refine mv_call_grow (fun w hk => Fix.put_any 0 v1 ([] ++ le r.g 8) r.l 8 8 w rfl (by omega) hb.l.1 (hk.pO (own 0 5 1 v1 (IE .u8) ([] ++ le r.g 8)) mE) (by simp only [List.length_append, List.length_nil, le_length]; omega) (Nat.zero_le _)) rfl rfl rfl rfl rfl (by kernel_rfl) (by intro _; first | ((repeat (first | with_reducible exact Upd.here _ | with_reducible apply Upd.there)); done) | ((repeat (first | exact Upd.here _ | apply Upd.there)); done) | fail) (fun v2 => ?_)
  (repeat (refine gG ?_; try intro _))
  refine gk_next rfl ?_
  (repeat' (first | (refine gG ?_; try intro _) | ((first | refine g_split rfl rfl tE (fun _ => ?_) (fun _ => ?_) | refine gk_cond rfl rfl tE (fun _ => ?_) (fun _ => ?_)) <;> (try first | (exfalso; omega; done) | (rename_i hx; exact absurd rfl hx) | (rename_i hx; cases hx; done)))))
  refine g_yd rfl rfl (yd_index_arr hT 2 rfl rfl rfl rfl rfl rfl rfl (by decide) rfl) ?_
  (repeat (refine gG ?_; try intro _))
  refine g_mv rfl ?_; refine mv_call_grow (fun w hk => Fix.put_any 0 v2 ([] ++ le r.g 8 ++ le r.l 8) r.t 8 8 w rfl (by omega) hb.t.1 (hk.pO (own 0 5 1 v2 (IE .u8) ([] ++ le r.g 8 ++ le r.l 8)) mE) (by simp only [List.length_append, List.length_nil, le_length]; omega) (Nat.zero_le _)) rfl rfl rfl rfl rfl (by kernel_rfl) (by intro _; first | ((repeat (first | with_reducible exact Upd.here _ | with_reducible apply Upd.there)); done) | ((repeat (first | exact Upd.here _ | apply Upd.there)); done) | fail) (fun v3 => ?_)
  (repeat (refine gG ?_; try intro _))
  refine gk_next rfl ?_
  (repeat' (first | (refine gG ?_; try intro _) | ((first | refine g_split rfl rfl tE (fun _ => ?_) (fun _ => ?_) | refine gk_cond rfl rfl tE (fun _ => ?_) (fun _ => ?_)) <;> (try first | (exfalso; omega; done) | (rename_i hx; exact absurd rfl hx) | (rename_i hx; cases hx; done)))))
  refine g_mv rfl (mv_append rfl B rfl rfl rfl rfl elt_B (by intro _; first | ((repeat (first | with_reducible exact Upd.here _ | with_reducible apply Upd.there)); done) | ((repeat (first | exact Upd.here _ | apply Upd.there)); done) | fail) (src_O mE) hs.n (by intro x j; rfl) (by simp only [maxLen, List.length_append, List.length_nil, le_length]; omega) (by simp only [List.length_append, List.length_nil, le_length]; omega) (Nat.zero_le _) (fun v4 => ?_))
  refine g_freeze _ (by intro _; first | ((repeat (first | with_reducible exact Upd.here _ | with_reducible apply Upd.there)); done) | ((repeat (first | exact Upd.here _ | apply Upd.there)); done) | fail) (fun A2 c2 hA2 hA21 hA22 hA23 => ?_); subst hA2
  have hl := recL_len r B
  refine g_mv rfl ?_; refine mv_call_rt (fun w hk => pput_any 2 ⟨A2, (recL r B).length, c2⟩ (recL r B) w (by omega) (by omega) ⟨rfl, hA21, hA22, hA23⟩ (by omega) (hk.pO (sl A2 1 (IE .u8) (recL r B)) mE) (recL_isB r hBB)) rfl rfl rfl rfl rfl (by kernel_rfl) (fun _ => rfl) (fun u hu => ?_)
  (repeat (refine gG ?_; try intro _))
  refine gk_ret hT rfl rfl (.tmp rfl (.tmp rfl .nil)) (fun w' hk => ?_)
  exact Ret.mk u hu rfl hk sA
end Go.Proofs.Yteajefmnbalofaa.Rec
