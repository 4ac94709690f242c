/- refs.Parted: the walk. -/
import Derived.Test.YtdkgmgfadpnhbaaRf6
import Derived.Test.YtdkgmgfadpnhbaaSoU5
namespace Go.Proofs.Ytdkgmgfadpnhbaa.Rf
open Go.RowKit Mem Gx Gm KyU Dd
set_option linter.unusedVariables false
set_option linter.unusedSimpArgs false
set_option maxRecDepth 100000
set_option maxHeartbeats 1000000
/-- A table's map, if there is one. -/
def moF : Option Nat → List (Int × Value) → Fact
  | none, M => ⟨fun _ => False, fun _ => M = [], fun _ _ _ h => h⟩
  | some r, M => mpk r (Value.int .u32) M
theorem tbF_mo {w : World} {t : Nat} {T : TabS} {l : List Int} (hI : RfI T l) (h : Rd1 w (tbF t T)) : Rd1 w (moF T.r T.M) := by
  cases e : T.r with
  | none => exact ⟨hI.none_nil e, fun b hb => hb.elim⟩
  | some r => exact tbF_map h e
theorem ys_cnt {X : Cx} {S : List Fact} {f : Fr} {o : Oper} {T : TabS} {l : List Int} (hI : RfI T l) {ty tk te : Nat} {x y : Operand} (q : Int) (ho : o.op = .lookup ty x y false) (hx : Gx.look X.n f x = some (.map T.r)) (hy : Gx.look X.n f y = some (.int .u32 q))
    (ht : X.P.underlying ty = some (.map tk te)) (hu : KOk X.P tk (Value.int .u32)) (hz : ∀ w, (zeroValue te).run X.P w = .ok (.int .i64 0) w) (hm : moF T.r T.M ∈ S) : Ys X S f o (.int .i64 (l.count q : Int)) := by
  have hlk := hI.look q
  cases e : T.r with
  | none =>
    rw [e] at hx
    have h := ys_lookupG_nil (X := X) (S := S) (f := f) (o := o) (ek := Value.int .u32) q ho hx hy rfl ht hu hz
    rw [hI.nil e]
    exact h
  | some r =>
    rw [e] at hx hm
    have h := ys_lookupG (X := X) (S := S) (f := f) (o := o) (ek := Value.int .u32) q ho hx hy rfl ht hu hz hm
    rw [← hlk]
    exact h
theorem oneU : ∀ (x : Int) (j : Nat), (IE .u32 x j).oneCell' = true := by intro x j; rfl
theorem elt_U : Elt Try.prog 85 87 1 4 := Elt.mk' (z := .int .u32 0) Try.underlying85 (by kernel_rfl) rfl (by decide)
theorem takeAt {L : List Int} {i : Nat} {x : Int} (h : L[i]? = some x) : L.take (i + 1) = L.take i ++ [x] := by
  rw [List.take_add_one, h]
  rfl
theorem parted_any (t1 t2 : Nat) (T1 T2 : TabS) (l1 l2 : List Int) (w : World) (i1 : RfI T1 l1) (i2 : RfI T2 l2) (h1 : Rd1 w (tbF t1 T1)) (h2 : Rd1 w (tbF t2 T2)) :
    Calls Try.prog 39 [.pointer (some ⟨t1, 0, none⟩), .pointer (some ⟨t2, 0, none⟩)].toArray w (Ret (fun _ : Value => True) (fun v => v) (fun v => [own 0 87 1 v (IE .u32) (partP l1 l2)]) w) := by
  have b1 := tbF_blk h1
  have b2 := tbF_blk h2
  have m1 := tbF_mo i1 h1
  have m2 := tbF_mo i2 h2
  have n1 : (setP l1).length ≤ 1000 := Nat.le_trans (setP_len l1) i1.len
  have n2 : (setP l2).length ≤ 1000 := Nat.le_trans (setP_len l2) i2.len
  refine g_enter0 T [] [] [blk t1 [.map T1.r, .int .i64 T1.sum] 83, blk t2 [.map T2.r, .int .i64 T2.sum] 83, moF T1.r T1.M, moF T2.r T2.M, tbF t1 T1, tbF t2 T2] Try.func39 rfl Try.ntmps39 rfl (Rds.cons b1 (.cons b2 (.cons m1 (.cons m2 (.cons h1 (.cons h2 .nil)))))).kn ?_
  (repeat (refine gG ?_; try intro _))
  refine g_mv rfl ?_; refine mv_call_rt (fun w hk => all_any t1 T1 l1 w i1 (hk.rR (φ := tbF t1 T1) mE)) rfl rfl rfl rfl rfl (by kernel_rfl) (fun _ => rfl) (fun v1 _ => ?_)
  refine g_freeze _ (by intro _; first | ((repeat (first | with_reducible exact Upd.here _ | with_reducible apply Upd.there)); done) | ((repeat (first | exact Upd.here _ | apply Upd.there)); done) | fail) (fun A1 c1 hA1 hA11 hA12 hA13 => ?_); subst hA1
  (repeat (refine gG ?_; try intro _))
  refine gk_share (φ := sl A1 1 (IE .u32) (setP l1)) (by repeat (first | with_reducible exact Sel.here | with_reducible apply Sel.there)) ?_
  refine gk_own 0 87 1 (IE .u32) ?_
  refine gk_loop_sel (fun (q : Nat × Value) => match q with | (i, v) => (i ≤ (setP l1).length)) (fun (q : Nat × Value) => match q with | (i, v) => [(0, .pointer (some ⟨t1, 0, none⟩)), (1, .pointer (some ⟨t2, 0, none⟩)), (5, v), (11, .slice A1 (setP l1).length c1), (12, .int .i64 ((setP l1).length : Int)), (13, .int .i64 (i : Int))]) (fun (q : Nat × Value) => match q with | (i, v) => [own 0 87 1 v (IE .u32) (gatA l1 l2 ((setP l1).take i))]) (fun (q : Nat × Value) => match q with | (i, v) => [blk t1 [.map T1.r, .int .i64 T1.sum] 83, blk t2 [.map T2.r, .int .i64 T2.sum] 83, moF T1.r T1.M, moF T2.r T2.M, tbF t1 T1, tbF t2 T2, sl A1 1 (IE .u32) (setP l1)]) (fun (q : Nat × Value) => match q with | (i, v) => (setP l1).length - i) (0, .slice none 0 0) rfl (Nat.zero_le _) (by repeat (first | exact trivial | refine ⟨rfl, ?_⟩)) sA sS ?_
  rintro ⟨i, v⟩ hI
  replace hI : (i ≤ (setP l1).length) := hI
  change GK _ _ [(0, .pointer (some ⟨t1, 0, none⟩)), (1, .pointer (some ⟨t2, 0, none⟩)), (5, v), (11, .slice A1 (setP l1).length c1), (12, .int .i64 ((setP l1).length : Int)), (13, .int .i64 (i : Int))] [own 0 87 1 v (IE .u32) (gatA l1 l2 ((setP l1).take i))] [blk t1 [.map T1.r, .int .i64 T1.sum] 83, blk t2 [.map T2.r, .int .i64 T2.sum] 83, moF T1.r T1.M, moF T2.r T2.M, tbF t1 T1, tbF t2 T2, sl A1 1 (IE .u32) (setP l1)]
  by_cases hlt : i < (setP l1).length
  · obtain ⟨x, hx⟩ : ∃ b, (setP l1)[i]? = some b := ⟨(setP l1)[i], List.getElem?_eq_getElem hlt⟩
    have htk := takeAt hx
    have hgs := gatA_snoc l1 l2 ((setP l1).take i) x
    rw [← htk] at hgs
    refine gk_elem (enc := IE .u32) (L := setP l1) i mE hlt (by decide) (fun g o y eA hy => ?_)
    subst eA
    obtain rfl : x = y := by rw [hx] at hy; exact Option.some.inj hy
    refine gk_rowR (g := t1) mE ?_
    refine gk_rowR (g := t2) mE ?_
    (repeat' (first | (refine gG ?_; try intro _) | ((first | refine g_split rfl rfl tE (fun _ => ?_) (fun _ => ?_) | refine gk_cond rfl rfl tE (fun _ => ?_) (fun _ => ?_)) <;> (try first | (exfalso; omega; done) | (rename_i hx; exact absurd rfl hx) | (rename_i hx; cases hx; done)))))
    by_cases hc : l2.count x = l1.count x
    · rw [if_neg (fun h => h hc), List.append_nil] at hgs
      refine gk_any [0, 1, 2, 3, 4, 5, 6, 7] (Cut _ (fun _ : Unit => [(0, .pointer (some ⟨t1, 0, none⟩)), (1, .pointer (some ⟨t2, 0, none⟩)), (5, v), (7, .int .u32 x), (11, .slice (some ⟨g, o, none⟩) (setP l1).length c1), (12, .int .i64 ((setP l1).length : Int)), (13, .int .i64 (i : Int)), (29, .bool false)]) (fun _ => [own 0 87 1 v (IE .u32) (gatA l1 l2 ((setP l1).take i))]) (fun _ => [blk t1 [.map T1.r, .int .i64 T1.sum] 83, blk t2 [.map T2.r, .int .i64 T2.sum] 83, moF T1.r T1.M, moF T2.r T2.M, tbF t1 T1, tbF t2 T2, sl (some ⟨g, o, none⟩) 1 (IE .u32) (setP l1)])) rfl rfl (by kernel_rfl) ?_ (cut_k fun _ => ?_)
      · skip
        refine gb_take 0 rfl (by decide +kernel) rfl rfl (ys_ev (nw := true) hT rfl sI) sF ?_
        refine gb_take 1 rfl (by decide +kernel) rfl rfl (ys_ev (nw := true) hT rfl sI) sF ?_
        refine gb_take 2 rfl (by decide +kernel) rfl rfl (ys_ev (nw := true) hT rfl sI) sF ?_
        refine gb_take 3 rfl (by decide +kernel) rfl rfl (by first | exact ys_blk hT rfl rfl mE rfl rfl | exact ys_row hT rfl rfl mE rfl rfl | exact ys_row0 hT rfl rfl mE rfl rfl) sF ?_
        refine gb_take 4 rfl (by decide +kernel) rfl rfl (ys_ev (nw := true) hT rfl sI) sF ?_
        refine gb_take 5 rfl (by decide +kernel) rfl rfl (ys_cnt i2 x rfl rfl rfl Try.underlying81 kok_u zero_I mE) sF ?_
        refine gb_take 6 rfl (by decide +kernel) rfl rfl (ys_ev (nw := true) hT rfl sI) sF ?_
        refine gb_take 7 rfl (by decide +kernel) rfl rfl (ys_ev (nw := true) hT rfl sI) sF ?_
        refine gb_take 8 rfl (by decide +kernel) rfl rfl (ys_ev (nw := true) hT rfl sI) sF ?_
        refine gb_take 9 rfl (by decide +kernel) rfl rfl (by first | exact ys_blk hT rfl rfl mE rfl rfl | exact ys_row hT rfl rfl mE rfl rfl | exact ys_row0 hT rfl rfl mE rfl rfl) sF ?_
        refine gb_take 10 rfl (by decide +kernel) rfl rfl (ys_ev (nw := true) hT rfl sI) sF ?_
        refine gb_take 11 rfl (by decide +kernel) rfl rfl (ys_cnt i1 x rfl rfl rfl Try.underlying81 kok_u zero_I mE) sF ?_
        refine gb_take 12 rfl (by decide +kernel) rfl rfl (ys_ev (nw := true) hT rfl sI) sF ?_
        try (refine gb_say 29 (.bool false) rfl (congrArg Value.bool (tB_false (by omega))) ?_)
        refine gb_nil (by decide +kernel) ?_
        exact ⟨(), (by repeat (first | exact trivial | refine ⟨rfl, ?_⟩)), sA, sS⟩
      · (repeat (refine gG ?_; try intro _))
        refine gk_say 13 (.int .i64 ((i + 1 : Nat) : Int)) rfl (by first | (congr 1; done) | (congr 1; omega)) ?_
        rw [← hgs]
        refine gk_again_sel rfl (i + 1, v) (by omega) (by dsimp only; omega) (by repeat (first | exact trivial | refine ⟨rfl, ?_⟩)) sA sS
    · rw [if_pos hc] at hgs
      have hg1 := (gat_len l1 l2 ((setP l1).take i)).1
      rw [List.length_take] at hg1
      refine gk_any [0, 1, 2, 3, 4, 5, 6, 7] (Cut _ (fun _ : Unit => [(0, .pointer (some ⟨t1, 0, none⟩)), (1, .pointer (some ⟨t2, 0, none⟩)), (5, v), (7, .int .u32 x), (11, .slice (some ⟨g, o, none⟩) (setP l1).length c1), (12, .int .i64 ((setP l1).length : Int)), (13, .int .i64 (i : Int)), (29, .bool true)]) (fun _ => [own 0 87 1 v (IE .u32) (gatA l1 l2 ((setP l1).take i))]) (fun _ => [blk t1 [.map T1.r, .int .i64 T1.sum] 83, blk t2 [.map T2.r, .int .i64 T2.sum] 83, moF T1.r T1.M, moF T2.r T2.M, tbF t1 T1, tbF t2 T2, sl (some ⟨g, o, none⟩) 1 (IE .u32) (setP l1)])) rfl rfl (by kernel_rfl) ?_ (cut_k fun _ => ?_)
      · skip
        refine gb_take 0 rfl (by decide +kernel) rfl rfl (ys_ev (nw := true) hT rfl sI) sF ?_
        refine gb_take 1 rfl (by decide +kernel) rfl rfl (ys_ev (nw := true) hT rfl sI) sF ?_
        refine gb_take 2 rfl (by decide +kernel) rfl rfl (ys_ev (nw := true) hT rfl sI) sF ?_
        refine gb_take 3 rfl (by decide +kernel) rfl rfl (by first | exact ys_blk hT rfl rfl mE rfl rfl | exact ys_row hT rfl rfl mE rfl rfl | exact ys_row0 hT rfl rfl mE rfl rfl) sF ?_
        refine gb_take 4 rfl (by decide +kernel) rfl rfl (ys_ev (nw := true) hT rfl sI) sF ?_
        refine gb_take 5 rfl (by decide +kernel) rfl rfl (ys_cnt i2 x rfl rfl rfl Try.underlying81 kok_u zero_I mE) sF ?_
        refine gb_take 6 rfl (by decide +kernel) rfl rfl (ys_ev (nw := true) hT rfl sI) sF ?_
        refine gb_take 7 rfl (by decide +kernel) rfl rfl (ys_ev (nw := true) hT rfl sI) sF ?_
        refine gb_take 8 rfl (by decide +kernel) rfl rfl (ys_ev (nw := true) hT rfl sI) sF ?_
        refine gb_take 9 rfl (by decide +kernel) rfl rfl (by first | exact ys_blk hT rfl rfl mE rfl rfl | exact ys_row hT rfl rfl mE rfl rfl | exact ys_row0 hT rfl rfl mE rfl rfl) sF ?_
        refine gb_take 10 rfl (by decide +kernel) rfl rfl (ys_ev (nw := true) hT rfl sI) sF ?_
        refine gb_take 11 rfl (by decide +kernel) rfl rfl (ys_cnt i1 x rfl rfl rfl Try.underlying81 kok_u zero_I mE) sF ?_
        refine gb_take 12 rfl (by decide +kernel) rfl rfl (ys_ev (nw := true) hT rfl sI) sF ?_
        try (refine gb_say 29 (.bool true) rfl (congrArg Value.bool (tB_true (by omega))) ?_)
        refine gb_nil (by decide +kernel) ?_
        exact ⟨(), (by repeat (first | exact trivial | refine ⟨rfl, ?_⟩)), sA, sS⟩
      · (repeat (refine gG ?_; try intro _))
        refine g_mv rfl (mv_append (L := gatA l1 l2 ((setP l1).take i)) rfl [x] rfl rfl rfl rfl elt_U (by intro _; first | ((repeat (first | with_reducible exact Upd.here _ | with_reducible apply Upd.there)); done) | ((repeat (first | exact Upd.here _ | apply Upd.there)); done) | fail) (src_blk mE rfl) rfl oneU (by simp only [maxLen, List.length_append, List.length_cons, List.length_nil]; omega) (by simp only [List.length_append, List.length_cons, List.length_nil]; omega) (Nat.zero_le _) (fun v1 => ?_))
        (repeat (refine gG ?_; try intro _))
        refine gk_say 13 (.int .i64 ((i + 1 : Nat) : Int)) rfl (by first | (congr 1; done) | (congr 1; omega)) ?_
        rw [← hgs]
        refine gk_again_sel rfl (i + 1, v1) (by omega) (by dsimp only; omega) (by repeat (first | exact trivial | refine ⟨rfl, ?_⟩)) sA sS
  · have ht : (setP l1).take i = setP l1 := List.take_of_length_le (by omega)
    rw [ht]
    have hga := (gat_len l1 l2 (setP l1)).1
    (repeat' (first | (refine gG ?_; try intro _) | ((first | refine g_split rfl rfl tE (fun _ => ?_) (fun _ => ?_) | refine gk_cond rfl rfl tE (fun _ => ?_) (fun _ => ?_)) <;> (try first | (exfalso; omega; done) | (rename_i hx; exact absurd rfl hx) | (rename_i hx; cases hx; done)))))
    refine g_mv rfl ?_; refine mv_call_rt (fun w hk => all_any t2 T2 l2 w i2 (hk.rR (φ := tbF t2 T2) mE)) rfl rfl rfl rfl rfl (by kernel_rfl) (fun _ => rfl) (fun v2 _ => ?_)
    refine g_freeze _ (by intro _; first | ((repeat (first | with_reducible exact Upd.here _ | with_reducible apply Upd.there)); done) | ((repeat (first | exact Upd.here _ | apply Upd.there)); done) | fail) (fun A2 c2 hA2 hA21 hA22 hA23 => ?_); subst hA2
    (repeat (refine gG ?_; try intro _))
    refine gk_share (φ := sl A2 1 (IE .u32) (setP l2)) (by repeat (first | with_reducible exact Sel.here | with_reducible apply Sel.there)) ?_
    rw [show gatA l1 l2 (setP l1) = gatA l1 l2 (setP l1) ++ gatB l1 ((setP l2).take 0) by simp [gatB]]
    refine gk_loop_sel (fun (q : Nat × Value) => match q with | (j, v') => (j ≤ (setP l2).length)) (fun (q : Nat × Value) => match q with | (j, v') => [(0, .pointer (some ⟨t1, 0, none⟩)), (5, v'), (36, .slice A2 (setP l2).length c2), (37, .int .i64 ((setP l2).length : Int)), (38, .int .i64 (j : Int))]) (fun (q : Nat × Value) => match q with | (j, v') => [own 0 87 1 v' (IE .u32) (gatA l1 l2 (setP l1) ++ gatB l1 ((setP l2).take j))]) (fun (q : Nat × Value) => match q with | (j, v') => [blk t1 [.map T1.r, .int .i64 T1.sum] 83, moF T1.r T1.M, sl A2 1 (IE .u32) (setP l2)]) (fun (q : Nat × Value) => match q with | (j, v') => (setP l2).length - j) (0, v) rfl (Nat.zero_le _) (by repeat (first | exact trivial | refine ⟨rfl, ?_⟩)) sA sS ?_
    rintro ⟨j, v'⟩ hI
    replace hI : (j ≤ (setP l2).length) := hI
    change GK _ _ [(0, .pointer (some ⟨t1, 0, none⟩)), (5, v'), (36, .slice A2 (setP l2).length c2), (37, .int .i64 ((setP l2).length : Int)), (38, .int .i64 (j : Int))] [own 0 87 1 v' (IE .u32) (gatA l1 l2 (setP l1) ++ gatB l1 ((setP l2).take j))] [blk t1 [.map T1.r, .int .i64 T1.sum] 83, moF T1.r T1.M, sl A2 1 (IE .u32) (setP l2)]
    by_cases hlt2 : j < (setP l2).length
    · obtain ⟨x, hx⟩ : ∃ b, (setP l2)[j]? = some b := ⟨(setP l2)[j], List.getElem?_eq_getElem hlt2⟩
      have htk := takeAt hx
      have hgs := gatB_snoc l1 ((setP l2).take j) x
      rw [← htk] at hgs
      have hgb := (gat_len l1 l2 ((setP l2).take j))
      have hgb2 : (gatB l1 ((setP l2).take j)).length ≤ ((setP l2).take j).length := List.length_filter_le _ _
      rw [List.length_take] at hgb2
      refine gk_elem (enc := IE .u32) (L := setP l2) j mE hlt2 (by decide) (fun g o y eA hy => ?_)
      subst eA
      obtain rfl : x = y := by rw [hx] at hy; exact Option.some.inj hy
      refine gk_rowR (g := t1) mE ?_
      by_cases hc : l1.count x = 0
      · rw [if_pos hc] at hgs
        (repeat' (first | (refine gG ?_; try intro _) | ((first | refine g_split rfl rfl tE (fun _ => ?_) (fun _ => ?_) | refine gk_cond rfl rfl tE (fun _ => ?_) (fun _ => ?_)) <;> (try first | (exfalso; omega; done) | (rename_i hx; exact absurd rfl hx) | (rename_i hx; cases hx; done)))))
        refine g_yd rfl rfl ((ys_cnt i1 (S := [moF T1.r T1.M]) x rfl rfl rfl Try.underlying81 kok_u zero_I (.head _)).ydS sF) ?_
        (repeat' (first | (refine gG ?_; try intro _) | ((first | refine g_split rfl rfl tE (fun _ => ?_) (fun _ => ?_) | refine gk_cond rfl rfl tE (fun _ => ?_) (fun _ => ?_)) <;> (try first | (exfalso; omega; done) | (rename_i hx; exact absurd rfl hx) | (rename_i hx; cases hx; done)))))
        refine g_mv rfl (mv_append (L := gatA l1 l2 (setP l1) ++ gatB l1 ((setP l2).take j)) rfl [x] rfl rfl rfl rfl elt_U (by intro _; first | ((repeat (first | with_reducible exact Upd.here _ | with_reducible apply Upd.there)); done) | ((repeat (first | exact Upd.here _ | apply Upd.there)); done) | fail) (src_blk mE rfl) rfl oneU (by simp only [maxLen, List.length_append, List.length_cons, List.length_nil]; omega) (by simp only [List.length_append, List.length_cons, List.length_nil]; omega) (Nat.zero_le _) (fun v3 => ?_))
        (repeat (refine gG ?_; try intro _))
        refine gk_say 38 (.int .i64 ((j + 1 : Nat) : Int)) rfl (by first | (congr 1; done) | (congr 1; omega)) ?_
        rw [List.append_assoc, ← hgs]
        refine gk_again_sel rfl (j + 1, v3) (by omega) (by dsimp only; omega) (by repeat (first | exact trivial | refine ⟨rfl, ?_⟩)) sA sS
      · rw [if_neg hc, List.append_nil] at hgs
        (repeat' (first | (refine gG ?_; try intro _) | ((first | refine g_split rfl rfl tE (fun _ => ?_) (fun _ => ?_) | refine gk_cond rfl rfl tE (fun _ => ?_) (fun _ => ?_)) <;> (try first | (exfalso; omega; done) | (rename_i hx; exact absurd rfl hx) | (rename_i hx; cases hx; done)))))
        refine g_yd rfl rfl ((ys_cnt i1 (S := [moF T1.r T1.M]) x rfl rfl rfl Try.underlying81 kok_u zero_I (.head _)).ydS sF) ?_
        (repeat' (first | (refine gG ?_; try intro _) | ((first | refine g_split rfl rfl tE (fun _ => ?_) (fun _ => ?_) | refine gk_cond rfl rfl tE (fun _ => ?_) (fun _ => ?_)) <;> (try first | (exfalso; omega; done) | (rename_i hx; exact absurd rfl hx) | (rename_i hx; cases hx; done)))))
        refine gk_say 38 (.int .i64 ((j + 1 : Nat) : Int)) rfl (by first | (congr 1; done) | (congr 1; omega)) ?_
        rw [← hgs]
        refine gk_again_sel rfl (j + 1, v') (by omega) (by dsimp only; omega) (by repeat (first | exact trivial | refine ⟨rfl, ?_⟩)) sA sS
    · have ht2 : (setP l2).take j = setP l2 := List.take_of_length_le (by omega)
      rw [ht2]
      have hp := gat_perm l1 l2
      have hg2 : (gatB l1 (setP l2)).length ≤ (setP l2).length := List.length_filter_le _ _
      generalize hG : gatA l1 l2 (setP l1) ++ gatB l1 (setP l2) = G at hp ⊢
      have hGl : G.length ≤ 1000000 := by rw [← hG, List.length_append]; omega
      (repeat' (first | (refine gG ?_; try intro _) | ((first | refine g_split rfl rfl tE (fun _ => ?_) (fun _ => ?_) | refine gk_cond rfl rfl tE (fun _ => ?_) (fun _ => ?_)) <;> (try first | (exfalso; omega; done) | (rename_i hx; exact absurd rfl hx) | (rename_i hx; cases hx; done)))))
      refine g_mv rfl (mv_call_mod (φ := own 0 87 1 v' (IE .u32) G) (ψ := fun L' : List Int => own 0 87 1 v' (IE .u32) L') (fun w1 hk => by exact SoU.sort_any v' G w1 hGl (hk.rO (φ := own 0 87 1 v' (IE .u32) G) mE)) rfl rfl rfl rfl rfl (by kernel_rfl) (by intro _; first | ((repeat (first | with_reducible exact Upd.here _ | with_reducible apply Upd.there)); done) | ((repeat (first | exact Upd.here _ | apply Upd.there)); done) | fail) (fun S hS => ?_))
      have e := sorted_rise (partP_rise l1 l2) (hS.1.trans hp) (by have h2 := hS.2; rw [← hS.1.length_eq] at h2; exact h2)
      subst e
      (repeat (refine gG ?_; try intro _))
      refine gk_ret hT rfl rfl (.tmp rfl .nil) (fun w' hk => ?_)
      exact Ret.mk v' trivial rfl hk sA
end Go.Proofs.Ytdkgmgfadpnhbaa.Rf

