/- merge.All, Rows, Last; the law's all: rows as one, as a row. -/
import Derived.Test.YtmbphmckakigaaaMi
import Derived.Test.YtmbphmckakigaaaWc
import Derived.Test.YtmbphmckakigaaaNdL
namespace Go.Proofs.Ytmbphmckakigaaa.Mg
open Go.RowKit Mem Gx Hp Nd
set_option linter.unusedVariables false
set_option linter.unusedSimpArgs false
set_option maxRecDepth 100000
set_option maxHeartbeats 1000000
theorem all_any (rA : Option Addr) (rn rc : Nat) (w : World) :
    Calls Try.prog 35 [.slice rA rn rc].toArray w (Ret (fun _ : Nat => True) (fun s => .func (.func 58) #[] #[.pointer (some ⟨s, 0, none⟩)]) (fun s => [blk s [.slice rA rn rc] 22]) w) := by
  refine g_enter0 T [] [] [] Try.func35 rfl Try.ntmps35 rfl (Kn.start _) ?_
  (repeat (refine gG ?_; try intro _))
  rename_i g1
  refine g_yd rfl rfl (Ys.yd (ys_makeFunc rfl rfl)) ?_
  (repeat (refine gG ?_; try intro _))
  refine gk_ret hT rfl rfl (.tmp rfl .nil) (fun w' hk => ?_)
  exact Ret.mk g1 trivial rfl hk sA
theorem lstep_nil (e : EntD) : lstep [] e = [e] := rfl
theorem last_take {W : List EntD} {q : Nat} {x : EntD} (h : W[q]? = some x) : lastS (W.take (q + 1)) = lstep (lastS (W.take q)) x := by
  obtain ⟨h1, h2⟩ := List.getElem?_eq_some_iff.1 h
  rw [List.take_succ_eq_append_getElem h1, h2]
  unfold lastS
  rw [List.foldl_append]
  rfl
theorem lstep_len (M : List EntD) (e : EntD) : (lstep M e).length ≤ M.length + 1 := by
  rcases List.eq_nil_or_concat M with rfl | ⟨K, z, rfl⟩
  · exact Nat.le_refl _
  · rw [List.concat_eq_append, lstep_snoc]
    split <;> simp
theorem last_le (W : List EntD) : ∀ q, (lastS (W.take q)).length ≤ q
  | 0 => by rw [List.take_zero]; exact Nat.le_refl _
  | q + 1 => by
    cases h : W[q]? with
    | some x =>
      rw [last_take h]
      exact Nat.le_trans (lstep_len _ _) (Nat.succ_le_succ (last_le W q))
    | none =>
      have h1 : W.length ≤ q := List.getElem?_eq_none_iff.1 h
      have := last_le W q
      rw [List.take_of_length_le h1] at this
      rw [List.take_of_length_le (by omega)]
      omega
theorem rows_any (RS : List RwD) (rA : Option Addr) (rn rc : Nat) (w : World) (hrn : rn = RS.length) (h8 : RS.length ≤ 8) (hok : ∀ r, r ∈ RS → r.Ok) (h9 : (insAll (RS.map RwD.E)).length ≤ 10000) (hB : Rds w [sl rA 1 RE RS, allF RS rwF]) :
    Calls Try.prog 11 [.slice rA rn rc].toArray w (Ret (fun _ : Value => True) (fun v => v) (fun v => [own 0 31 4 v EE (insAll (RS.map RwD.E))]) w) := by
  refine g_enter0 T [] [] [sl rA 1 RE RS, allF RS rwF] Try.func11 rfl Try.ntmps11 rfl hB.kn ?_
  (repeat (refine gG ?_; try intro _))
  rename_i g3
  refine g_mv rfl ?_; refine mv_call_rt (fun w hk => all_any rA rn rc w) rfl rfl rfl rfl rfl (by kernel_rfl) (fun _ => rfl) (fun bt _ => ?_)
  refine g_share (φ := blk bt [.slice rA rn rc] 22) (by repeat (first | with_reducible exact Sel.here | with_reducible apply Sel.there)) ?_
  (repeat (refine gG ?_; try intro _))
  refine gk_own 0 31 4 EE ?_
  refine gk_range (σ := Value × List EntD) (σx := Unit) (α := EntD) (enc := fun e : EntD => [e.val]) (xs := insAll (RS.map RwD.E)) (RA := mgR RS rA rn rc bt) (pl := [7]) (gf := 58) (caps := [.pointer (some ⟨bt, 0, none⟩)]) (fun q s => s.2 = (insAll (RS.map RwD.E)).take q) (fun s => [blk g3 [s.1] 23, own 0 31 4 s.1 EE s.2]) (fun _ _ => False) (fun _ _ => []) (.slice none 0 0, []) [] rfl rfl (by kernel_rfl) rfl (fun _ => rfl) (fun w hk => all_iter RS rA rn rc bt w hrn h8 hok (.cons (hk.rR mE) (.cons (hk.rR mE) (.cons (hk.rR mE) .nil)))) sS rfl sA (fun L q x s w hX hRc hI hOO hOut hOX hx hi hup => ?_) (fun D s hi => ?_) (fun D c y h => h.elim)
  · skip
    obtain ⟨X', l, D, rc, Inv', OO', Out', OX'⟩ := L
    dsimp only at hX hI hOO hOut hOX
    subst hX hI hOO hOut hOX
    obtain ⟨v, M⟩ := s
    dsimp only at hi
    subst hi
    change GK _ _ _ [recF l (rc .ready none), dfr D, blk g3 [v] 23, own 0 31 4 v EE ((insAll (RS.map RwD.E)).take q)] _
    (repeat (refine gG ?_; try intro _))
    refine gk_begin rfl (by repeat (first | with_reducible exact Sel.here | with_reducible apply Sel.there)) (hRc.st _ _) (fun bF hbF => ?_)
    (repeat (refine gG ?_; try intro _))
    refine g_mv rfl (mv_append (L := (insAll (RS.map RwD.E)).take q) rfl [x] rfl rfl rfl rfl elt_E (by intro _; first | ((repeat (first | with_reducible exact Upd.here _ | with_reducible apply Upd.there)); done) | ((repeat (first | exact Upd.here _ | apply Upd.there)); done) | fail) (src_blk mE rfl) rfl oneE (by have := List.length_take_le' q (insAll (RS.map RwD.E)); simp only [maxLen, List.length_cons, List.length_nil]; omega) (by have := List.length_take_le' q (insAll (RS.map RwD.E)); simp only [List.length_cons, List.length_nil]; omega) (Nat.zero_le _) (fun v1 => ?_))
    refine g_ownv v1 mE (fun A1 c1 hv1 _ _ _ => ?_)
    subst hv1
    (repeat (refine gG ?_; try intro _))
    refine gk_round hRc (.slice A1 ((insAll (RS.map RwD.E)).take q ++ [x]).length c1, (insAll (RS.map RwD.E)).take q ++ [x]) rfl (by obtain ⟨h1, h2⟩ := List.getElem?_eq_some_iff.1 hx; show (insAll (RS.map RwD.E)).take q ++ [x] = (insAll (RS.map RwD.E)).take (q + 1); rw [List.take_succ_eq_append_getElem h1, h2]) [blk g3 [.slice A1 ((insAll (RS.map RwD.E)).take q ++ [x]).length c1] 23, own 0 31 4 (.slice A1 ((insAll (RS.map RwD.E)).take q ++ [x]).length c1) EE ((insAll (RS.map RwD.E)).take q ++ [x])] rfl hbF sA
  · obtain ⟨v, M⟩ := s
    dsimp only at hi
    subst hi
    change GK _ _ _ [dfr D, blk g3 [v] 23, own 0 31 4 v EE ((insAll (RS.map RwD.E)).take (insAll (RS.map RwD.E)).length)] _
    (repeat (refine gG ?_; try intro _))
    rw [List.take_length]
    refine gk_retM hT (.cons (by repeat (first | with_reducible exact Sel.here | with_reducible apply Sel.there)) .nil) rfl rfl (.tmp rfl .nil) (fun w' hk => ?_)
    exact Ret.mk v trivial rfl hk sA
theorem all17_any (RS : List RwD) (rA : Option Addr) (rn rc : Nat) (w : World) (hrn : rn = RS.length) (h8 : RS.length ≤ 8) (hok : ∀ r, r ∈ RS → r.Ok) (h9 : (insAll (RS.map RwD.E)).length ≤ 10000) (hB : Rds w [sl rA 1 RE RS, allF RS rwF]) :
    Calls Try.prog 12 [.slice rA rn rc].toArray w (Ret (fun _ : Value => True) (fun v => v) (fun v => [own 0 31 4 v EE (insAll (RS.map RwD.E))]) w) := by
  refine g_enter0 T [] [] [sl rA 1 RE RS, allF RS rwF] Try.func12 rfl Try.ntmps12 rfl hB.kn ?_
  (repeat (refine gG ?_; try intro _))
  refine g_mv rfl ?_; refine mv_call_rt (fun w hk => all_any rA rn rc w) rfl rfl rfl rfl rfl (by kernel_rfl) (fun _ => rfl) (fun bt _ => ?_)
  refine g_share (φ := blk bt [.slice rA rn rc] 22) (by repeat (first | with_reducible exact Sel.here | with_reducible apply Sel.there)) ?_
  (repeat (refine gG ?_; try intro _))
  refine g_yd rfl rfl (Ys.yd (ys_func_nil rfl rfl rfl Try.underlying77)) ?_
  (repeat (refine gG ?_; try intro _))
  rename_i g3
  refine gk_own 0 31 4 EE ?_
  refine gk_range (σ := Value × List EntD) (σx := Unit) (α := EntD) (enc := fun e : EntD => [e.val]) (xs := insAll (RS.map RwD.E)) (RA := mgR RS rA rn rc bt) (pl := [11]) (gf := 58) (caps := [.pointer (some ⟨bt, 0, none⟩)]) (fun q s => s.2 = (insAll (RS.map RwD.E)).take q) (fun s => [blk g3 [s.1] 23, own 0 31 4 s.1 EE s.2]) (fun _ _ => False) (fun _ _ => []) (.slice none 0 0, []) [] rfl rfl (by kernel_rfl) rfl (fun _ => rfl) (fun w hk => all_iter RS rA rn rc bt w hrn h8 hok (.cons (hk.rR mE) (.cons (hk.rR mE) (.cons (hk.rR mE) .nil)))) sS rfl sA (fun L q x s w hX hRc hI hOO hOut hOX hx hi hup => ?_) (fun D s hi => ?_) (fun D c y h => h.elim)
  · skip
    obtain ⟨X', l, D, rc, Inv', OO', Out', OX'⟩ := L
    dsimp only at hX hI hOO hOut hOX
    subst hX hI hOO hOut hOX
    obtain ⟨v, M⟩ := s
    dsimp only at hi
    subst hi
    change GK _ _ _ [recF l (rc .ready none), dfr D, blk g3 [v] 23, own 0 31 4 v EE ((insAll (RS.map RwD.E)).take q)] _
    (repeat (refine gG ?_; try intro _))
    refine gk_begin rfl (by repeat (first | with_reducible exact Sel.here | with_reducible apply Sel.there)) (hRc.st _ _) (fun bF hbF => ?_)
    (repeat (refine gG ?_; try intro _))
    refine g_mv rfl (mv_append (L := (insAll (RS.map RwD.E)).take q) rfl [x] rfl rfl rfl rfl elt_E (by intro _; first | ((repeat (first | with_reducible exact Upd.here _ | with_reducible apply Upd.there)); done) | ((repeat (first | exact Upd.here _ | apply Upd.there)); done) | fail) (src_blk mE rfl) rfl oneE (by have := List.length_take_le' q (insAll (RS.map RwD.E)); simp only [maxLen, List.length_cons, List.length_nil]; omega) (by have := List.length_take_le' q (insAll (RS.map RwD.E)); simp only [List.length_cons, List.length_nil]; omega) (Nat.zero_le _) (fun v1 => ?_))
    refine g_ownv v1 mE (fun A1 c1 hv1 _ _ _ => ?_)
    subst hv1
    (repeat (refine gG ?_; try intro _))
    refine gk_round hRc (.slice A1 ((insAll (RS.map RwD.E)).take q ++ [x]).length c1, (insAll (RS.map RwD.E)).take q ++ [x]) rfl (by obtain ⟨h1, h2⟩ := List.getElem?_eq_some_iff.1 hx; show (insAll (RS.map RwD.E)).take q ++ [x] = (insAll (RS.map RwD.E)).take (q + 1); rw [List.take_succ_eq_append_getElem h1, h2]) [blk g3 [.slice A1 ((insAll (RS.map RwD.E)).take q ++ [x]).length c1] 23, own 0 31 4 (.slice A1 ((insAll (RS.map RwD.E)).take q ++ [x]).length c1) EE ((insAll (RS.map RwD.E)).take q ++ [x])] rfl hbF sA
  · obtain ⟨v, M⟩ := s
    dsimp only at hi
    subst hi
    change GK _ _ _ [dfr D, blk g3 [v] 23, own 0 31 4 v EE ((insAll (RS.map RwD.E)).take (insAll (RS.map RwD.E)).length)] _
    (repeat (refine gG ?_; try intro _))
    rw [List.take_length]
    refine gk_retM hT (.cons (by repeat (first | with_reducible exact Sel.here | with_reducible apply Sel.there)) .nil) rfl rfl (.tmp rfl .nil) (fun w' hk => ?_)
    exact Ret.mk v trivial rfl hk sA
end Go.Proofs.Ytmbphmckakigaaa.Mg

