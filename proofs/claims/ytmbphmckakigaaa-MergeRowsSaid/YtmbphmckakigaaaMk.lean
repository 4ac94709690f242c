/- merge.Last: of each key the last one. -/
import Derived.Test.YtmbphmckakigaaaMj
import Derived.Test.YtmbphmckakigaaaGxX
namespace Go.Proofs.Ytmbphmckakigaaa.Mg
open Go.RowKit Mem Gx Hp Nd
set_option linter.unusedVariables false
set_option linter.unusedSimpArgs false
set_option maxRecDepth 100000
set_option maxHeartbeats 1000000
theorem last_any (RS : List RwD) (rA : Option Addr) (rn rc : Nat) (w : World) (hrn : rn = RS.length) (h8 : RS.length ≤ 8) (hok : ∀ r, r ∈ RS → r.Ok) (h9 : (insAll (RS.map RwD.E)).length ≤ 10000) (hB : Rds w [sl rA 1 RE RS, allF RS rwF]) :
    Calls Try.prog 13 [.slice rA rn rc].toArray w (Ret (fun _ : Value => True) (fun v => v) (fun v => [own 0 31 4 v EE (lastS (insAll (RS.map RwD.E)))]) w) := by
  refine g_enter0 T [] [] [sl rA 1 RE RS, allF RS rwF] Try.func13 rfl Try.ntmps13 rfl hB.kn ?_
  (repeat (refine gG ?_; try intro _))
  rename_i g3
  refine g_mv rfl ?_; refine mv_call_rt (fun w hk => all_any rA rn rc w) rfl rfl rfl rfl rfl (by kernel_rfl) (fun _ => rfl) (fun bt _ => ?_)
  refine g_share (φ := blk bt [.slice rA rn rc] 22) (by repeat (first | with_reducible exact Sel.here | with_reducible apply Sel.there)) ?_
  (repeat (refine gG ?_; try intro _))
  refine gk_own 0 31 4 EE ?_
  refine gk_range (σ := Value × List EntD) (σx := Unit) (α := EntD) (enc := fun e : EntD => [e.val]) (xs := insAll (RS.map RwD.E)) (RA := mgR RS rA rn rc bt) (pl := [8]) (gf := 58) (caps := [.pointer (some ⟨bt, 0, none⟩)]) (fun q s => s.2 = lastS ((insAll (RS.map RwD.E)).take q)) (fun s => [blk g3 [s.1] 23, own 0 31 4 s.1 EE s.2]) (fun _ _ => False) (fun _ _ => []) (.slice none 0 0, []) [] rfl rfl (by kernel_rfl) rfl (fun _ => rfl) (fun w hk => all_iter RS rA rn rc bt w hrn h8 hok (.cons (hk.rR mE) (.cons (hk.rR mE) (.cons (hk.rR mE) .nil)))) sS rfl sA (fun L q x s w hX hRc hI hOO hOut hOX hx hi hup => ?_) (fun D s hi => ?_) (fun D c y h => h.elim)
  · skip
    obtain ⟨X', l, D, rc, Inv', OO', Out', OX'⟩ := L
    dsimp only at hX hI hOO hOut hOX
    subst hX hI hOO hOut hOX
    obtain ⟨v, M⟩ := s
    dsimp only at hi
    subst hi
    have hq := (List.getElem?_eq_some_iff.1 hx).1
    have hll := last_le (insAll (RS.map RwD.E)) q
    have hstp := last_take hx
    change GK _ _ _ [recF l (rc .ready none), dfr D, blk g3 [v] 23, own 0 31 4 v EE (lastS ((insAll (RS.map RwD.E)).take q))] _
    generalize lastS ((insAll (RS.map RwD.E)).take q) = M at hll hstp ⊢
    (repeat (refine gG ?_; try intro _))
    refine gk_begin rfl (by repeat (first | with_reducible exact Sel.here | with_reducible apply Sel.there)) (hRc.st _ _) (fun bF hbF => ?_)
    (repeat (refine gG ?_; try intro _))
    rename_i g4
    rcases List.eq_nil_or_concat M with rfl | ⟨K, z, rfl⟩
    · refine g_ownv v mE (fun A1 c1 hv1 _ _ _ => ?_)
      subst hv1
      rw [lstep_nil] at hstp
      (repeat (refine gG ?_; try intro _))
      refine gk_anyX LX.noOut [] (Cut _ (fun _ : Unit => [(3, .pointer (some ⟨g3, 0, none⟩)), (4, .pointer (some ⟨g4, 0, none⟩)), (23, .bool false)]) (fun _ => [bF, blk g4 [.int .u16 x.k.v, .int .u32 x.k.b, .int .u64 x.k.s, .int .u32 x.a] 31, dfr D, blk g3 [.slice A1 0 c1] 23, own 0 31 4 (.slice A1 0 c1) EE []]) (fun _ => [])) rfl rfl (by decide) (by kernel_rfl) ?_ (cut_k fun _ => ?_)
      · skip
        refine gb_take 0 rfl (by decide +kernel) rfl rfl (ys_ev (nw := true) hT rfl sI) sF ?_
        refine gb_take 1 rfl (by decide +kernel) rfl rfl (ys_ev (nw := true) hT rfl sI) sF ?_
        try (refine gb_say 12 (.bool false) rfl (congrArg Value.bool (tB_false (by simp))) ?_)
        refine gb_take 2 rfl (by decide +kernel) rfl rfl (ys_ev (nw := true) hT rfl sI) sF ?_
        first | refine gb_take 3 rfl (by decide +kernel) rfl rfl (by first | exact ys_blk hT rfl rfl mE rfl rfl | exact ys_row hT rfl rfl mE rfl rfl | exact ys_row0 hT rfl rfl mE rfl rfl) sF ?_ | refine gb_skip 3 rfl (by decide +kernel) rfl rfl sF ?_
        first | refine gb_take 4 rfl (by decide +kernel) rfl rfl (ys_ev (nw := true) hT rfl sI) sF ?_ | refine gb_skip 4 rfl (by decide +kernel) rfl rfl sF ?_
        first | refine gb_take 5 rfl (by decide +kernel) rfl rfl (ys_ev (nw := true) hT rfl sI) sF ?_ | refine gb_skip 5 rfl (by decide +kernel) rfl rfl sF ?_
        first | refine gb_take 6 rfl (by decide +kernel) rfl rfl (ys_ev (nw := true) hT rfl sI) sF ?_ | refine gb_skip 6 rfl (by decide +kernel) rfl rfl sF ?_
        first | refine gb_take 7 rfl (by decide +kernel) rfl rfl (ys_ev (nw := true) hT rfl sI) sF ?_ | refine gb_skip 7 rfl (by decide +kernel) rfl rfl sF ?_
        first | refine gb_take 8 rfl (by decide +kernel) rfl rfl (by first | exact ys_blk hT rfl rfl mE rfl rfl | exact ys_row hT rfl rfl mE rfl rfl | exact ys_row0 hT rfl rfl mE rfl rfl) sF ?_ | refine gb_skip 8 rfl (by decide +kernel) rfl rfl sF ?_
        first | refine gb_take 9 rfl (by decide +kernel) rfl rfl (ys_ev (nw := true) hT rfl sI) sF ?_ | refine gb_skip 9 rfl (by decide +kernel) rfl rfl sF ?_
        first | refine gb_take 10 rfl (by decide +kernel) rfl rfl (by first | exact ys_blk hT rfl rfl mE rfl rfl | exact ys_row hT rfl rfl mE rfl rfl | exact ys_row0 hT rfl rfl mE rfl rfl) sF ?_ | refine gb_skip 10 rfl (by decide +kernel) rfl rfl sF ?_
        first | refine gb_take 11 rfl (by decide +kernel) rfl rfl (ys_ev (nw := true) hT rfl sI) sF ?_ | refine gb_skip 11 rfl (by decide +kernel) rfl rfl sF ?_
        refine gb_take 12 rfl (by decide +kernel) rfl rfl (ys_ev (nw := true) hT rfl sI) sF ?_
        refine gb_nil (by decide +kernel) ?_
        exact ⟨(), (by repeat (first | exact trivial | refine ⟨rfl, ?_⟩)), sA, sS⟩
      · (repeat (refine gG ?_; try intro _))
        refine g_mv rfl (mv_append (L := ([] : List EntD)) rfl [x] rfl rfl rfl rfl elt_E (by intro _; first | ((repeat (first | with_reducible exact Upd.here _ | with_reducible apply Upd.there)); done) | ((repeat (first | exact Upd.here _ | apply Upd.there)); done) | fail) (src_blk mE rfl) rfl oneE (by simp only [maxLen, List.length_cons, List.length_nil]; omega) (by simp only [List.length_cons, List.length_nil]; omega) (Nat.zero_le _) (fun v1 => ?_))
        refine g_ownv v1 mE (fun A2 c2 hv2 _ _ _ => ?_)
        subst hv2
        (repeat (refine gG ?_; try intro _))
        refine gk_round hRc (.slice A2 ([] ++ [x]).length c2, [] ++ [x]) rfl hstp.symm [blk g3 [.slice A2 ([] ++ [x]).length c2] 23, own 0 31 4 (.slice A2 ([] ++ [x]).length c2) EE ([] ++ [x])] rfl hbF sA
    · rw [List.concat_eq_append] at hll hstp ⊢
      have hlk : (K ++ [z]).length = K.length + 1 := by simp
      rw [hlk] at hll
      refine g_own0 v mE (by omega) (fun b c hv hc1 hc2 => ?_)
      subst hv
      rw [lstep_snoc] at hstp
      rw [hlk]
      (repeat (refine gG ?_; try intro _))
      by_cases hzx : z.k = x.k
      · rw [if_pos (tB_true hzx)] at hstp
        refine gk_anyX LX.noOut [1, 3, 4] (Cut _ (fun _ : Unit => [(3, .pointer (some ⟨g3, 0, none⟩)), (4, .pointer (some ⟨g4, 0, none⟩)), (5, .int .i64 ((K.length + 1 : Nat) : Int)), (23, .bool true)]) (fun _ => [bF, blk g4 [.int .u16 x.k.v, .int .u32 x.k.b, .int .u64 x.k.s, .int .u32 x.a] 31, dfr D, blk g3 [.slice (some ⟨b, 0, none⟩) (K.length + 1) c] 23, own 0 31 4 (.slice (some ⟨b, 0, none⟩) (K.length + 1) c) EE (K ++ [z])]) (fun _ => [])) rfl rfl (by decide) (by kernel_rfl) ?_ (cut_k fun _ => ?_)
        · skip
          refine gb_take 0 rfl (by decide +kernel) rfl rfl (ys_ev (nw := true) hT rfl sI) sF ?_
          refine gb_take 1 rfl (by decide +kernel) rfl rfl (ys_ev (nw := true) hT rfl sI) sF ?_
          try (refine gb_say 12 (.bool true) rfl (congrArg Value.bool (tB_true (by omega))) ?_)
          refine gb_take 2 rfl (by decide +kernel) rfl rfl (ys_ev (nw := true) hT rfl sI) sF ?_
          first | refine gb_take 3 rfl (by decide +kernel) rfl rfl (by first | exact ys_blk hT rfl rfl mE rfl rfl | exact ys_row hT rfl rfl mE rfl rfl | exact ys_row0 hT rfl rfl mE rfl rfl) sF ?_ | refine gb_skip 3 rfl (by decide +kernel) rfl rfl sF ?_
          first | refine gb_take 4 rfl (by decide +kernel) rfl rfl (ys_ev (nw := true) hT rfl sI) sF ?_ | refine gb_skip 4 rfl (by decide +kernel) rfl rfl sF ?_
          first | refine gb_take 5 rfl (by decide +kernel) rfl rfl (ys_ev (nw := true) hT rfl sI) sF ?_ | refine gb_skip 5 rfl (by decide +kernel) rfl rfl sF ?_
          try (refine gb_say 16 (.int .i64 (K.length : Int)) rfl (by first | (congr 1; done) | (congr 1; omega)) ?_)
          first | refine gb_take 6 rfl (by decide +kernel) rfl rfl (ys_ev (nw := true) hT rfl sI) sF ?_ | refine gb_skip 6 rfl (by decide +kernel) rfl rfl sF ?_
          first | refine gb_take 7 rfl (by decide +kernel) rfl rfl (ys_ev (nw := true) hT rfl sI) sF ?_ | refine gb_skip 7 rfl (by decide +kernel) rfl rfl sF ?_
          first | refine gb_take 9 rfl (by decide +kernel) rfl rfl (ys_ev (nw := true) hT rfl sI) sF ?_ | refine gb_skip 9 rfl (by decide +kernel) rfl rfl sF ?_
          first | refine gb_take 10 rfl (by decide +kernel) rfl rfl (by first | exact ys_blk hT rfl rfl mE rfl rfl | exact ys_row hT rfl rfl mE rfl rfl | exact ys_row0 hT rfl rfl mE rfl rfl) sF ?_ | refine gb_skip 10 rfl (by decide +kernel) rfl rfl sF ?_
          first | refine gb_skip 8 rfl (by decide +kernel) rfl rfl sF ?_ | (refine gb_only 8 (by decide +kernel) rfl rfl ?_; (refine mv_yd rfl ((ys_load_el (S := [own 0 31 4 (.slice (some ⟨b, 0, none⟩) (K.length + 1) c) EE (K ++ [z])]) (o0 := 0) (sz := 4) (enc := EE) (L := K ++ [z]) hT K.length z 0 rfl rfl rfl rfl (by simp) (at_own mE) rfl rfl).ydS sF) ?_); refine ⟨sF, ?_⟩)
          try (refine gb_say 19 (.agg #[.int .u16 z.k.v, .int .u32 z.k.b, .int .u64 z.k.s]) rfl rfl ?_)
          first | refine gb_take 11 rfl (by decide +kernel) rfl rfl (ys_eql rfl rfl rfl rfl rfl (by kernel_rfl)) sF ?_ | refine gb_skip 11 rfl (by decide +kernel) rfl rfl sF ?_
          try (refine gb_say 22 (.bool true) rfl (congrArg Value.bool (tB_true (by rw [hzx]; exact ⟨rfl, rfl, rfl, trivial⟩))) ?_)
          refine gb_take 12 rfl (by decide +kernel) rfl rfl (ys_ev (nw := true) hT rfl sI) sF ?_
          refine gb_nil (by decide +kernel) ?_
          exact ⟨(), (by repeat (first | exact trivial | refine ⟨rfl, ?_⟩)), sA, sS⟩
        · (repeat (refine gG ?_; try intro _))
          refine g_say 26 (.int .i64 (K.length : Int)) rfl (by first | (congr 1; done) | (congr 1; omega)) ?_
          refine g_say 28 (.pointer (some ⟨b, 0 + K.length * 4, none⟩)) rfl (by have h : (((K.length + 1 : Nat) : Int) - 1).toNat = K.length := (by omega); rw [h]) ?_
          refine g_mv rfl (mv_store_ownW (α := EntD) (enc := EE) (L := K ++ [z]) hT K.length z x rfl rfl (Nat.zero_add _) rfl rfl rfl rfl (by simp) (by decide) (by first | ((repeat (first | with_reducible exact Upd.here _ | with_reducible apply Upd.there)); done) | ((repeat (first | exact Upd.here _ | apply Upd.there)); done) | fail) rfl ?_)
          rw [show (K ++ [z]).set K.length x = K ++ [x] by simp]
          (repeat (refine gG ?_; try intro _))
          refine gk_round hRc (.slice (some ⟨b, 0, none⟩) (K.length + 1) c, K ++ [x]) rfl hstp.symm [blk g3 [.slice (some ⟨b, 0, none⟩) (K.length + 1) c] 23, own 0 31 4 (.slice (some ⟨b, 0, none⟩) (K.length + 1) c) EE (K ++ [x])] rfl hbF sA
      · rw [if_neg (by rw [tB_false hzx]; decide)] at hstp
        have hzx' : ¬ (z.k.v = x.k.v ∧ z.k.b = x.k.b ∧ z.k.s = x.k.s ∧ True) := fun h => hzx (by
          obtain ⟨h1, h2, h3, _⟩ := h
          cases hz : z.k
          cases hx9 : x.k
          rw [hz, hx9] at h1 h2 h3
          dsimp only at h1 h2 h3
          rw [h1, h2, h3])
        refine gk_anyX LX.noOut [1, 3, 4] (Cut _ (fun _ : Unit => [(3, .pointer (some ⟨g3, 0, none⟩)), (4, .pointer (some ⟨g4, 0, none⟩)), (23, .bool false)]) (fun _ => [bF, blk g4 [.int .u16 x.k.v, .int .u32 x.k.b, .int .u64 x.k.s, .int .u32 x.a] 31, dfr D, blk g3 [.slice (some ⟨b, 0, none⟩) (K.length + 1) c] 23, own 0 31 4 (.slice (some ⟨b, 0, none⟩) (K.length + 1) c) EE (K ++ [z])]) (fun _ => [])) rfl rfl (by decide) (by kernel_rfl) ?_ (cut_k fun _ => ?_)
        · skip
          refine gb_take 0 rfl (by decide +kernel) rfl rfl (ys_ev (nw := true) hT rfl sI) sF ?_
          refine gb_take 1 rfl (by decide +kernel) rfl rfl (ys_ev (nw := true) hT rfl sI) sF ?_
          try (refine gb_say 12 (.bool true) rfl (congrArg Value.bool (tB_true (by omega))) ?_)
          refine gb_take 2 rfl (by decide +kernel) rfl rfl (ys_ev (nw := true) hT rfl sI) sF ?_
          first | refine gb_take 3 rfl (by decide +kernel) rfl rfl (by first | exact ys_blk hT rfl rfl mE rfl rfl | exact ys_row hT rfl rfl mE rfl rfl | exact ys_row0 hT rfl rfl mE rfl rfl) sF ?_ | refine gb_skip 3 rfl (by decide +kernel) rfl rfl sF ?_
          first | refine gb_take 4 rfl (by decide +kernel) rfl rfl (ys_ev (nw := true) hT rfl sI) sF ?_ | refine gb_skip 4 rfl (by decide +kernel) rfl rfl sF ?_
          first | refine gb_take 5 rfl (by decide +kernel) rfl rfl (ys_ev (nw := true) hT rfl sI) sF ?_ | refine gb_skip 5 rfl (by decide +kernel) rfl rfl sF ?_
          try (refine gb_say 16 (.int .i64 (K.length : Int)) rfl (by first | (congr 1; done) | (congr 1; omega)) ?_)
          first | refine gb_take 6 rfl (by decide +kernel) rfl rfl (ys_ev (nw := true) hT rfl sI) sF ?_ | refine gb_skip 6 rfl (by decide +kernel) rfl rfl sF ?_
          first | refine gb_take 7 rfl (by decide +kernel) rfl rfl (ys_ev (nw := true) hT rfl sI) sF ?_ | refine gb_skip 7 rfl (by decide +kernel) rfl rfl sF ?_
          first | refine gb_take 9 rfl (by decide +kernel) rfl rfl (ys_ev (nw := true) hT rfl sI) sF ?_ | refine gb_skip 9 rfl (by decide +kernel) rfl rfl sF ?_
          first | refine gb_take 10 rfl (by decide +kernel) rfl rfl (by first | exact ys_blk hT rfl rfl mE rfl rfl | exact ys_row hT rfl rfl mE rfl rfl | exact ys_row0 hT rfl rfl mE rfl rfl) sF ?_ | refine gb_skip 10 rfl (by decide +kernel) rfl rfl sF ?_
          first | refine gb_skip 8 rfl (by decide +kernel) rfl rfl sF ?_ | (refine gb_only 8 (by decide +kernel) rfl rfl ?_; (refine mv_yd rfl ((ys_load_el (S := [own 0 31 4 (.slice (some ⟨b, 0, none⟩) (K.length + 1) c) EE (K ++ [z])]) (o0 := 0) (sz := 4) (enc := EE) (L := K ++ [z]) hT K.length z 0 rfl rfl rfl rfl (by simp) (at_own mE) rfl rfl).ydS sF) ?_); refine ⟨sF, ?_⟩)
          try (refine gb_say 19 (.agg #[.int .u16 z.k.v, .int .u32 z.k.b, .int .u64 z.k.s]) rfl rfl ?_)
          first | refine gb_take 11 rfl (by decide +kernel) rfl rfl (ys_eql rfl rfl rfl rfl rfl (by kernel_rfl)) sF ?_ | refine gb_skip 11 rfl (by decide +kernel) rfl rfl sF ?_
          try (refine gb_say 22 (.bool false) rfl (congrArg Value.bool (tB_false hzx')) ?_)
          refine gb_take 12 rfl (by decide +kernel) rfl rfl (ys_ev (nw := true) hT rfl sI) sF ?_
          refine gb_nil (by decide +kernel) ?_
          exact ⟨(), (by repeat (first | exact trivial | refine ⟨rfl, ?_⟩)), sA, sS⟩
        · (repeat (refine gG ?_; try intro _))
          refine g_mv rfl (mv_append (L := K ++ [z]) rfl [x] rfl rfl rfl rfl elt_E (by intro _; first | ((repeat (first | with_reducible exact Upd.here _ | with_reducible apply Upd.there)); done) | ((repeat (first | exact Upd.here _ | apply Upd.there)); done) | fail) (src_blk mE rfl) rfl oneE (by simp only [maxLen, List.length_cons, List.length_nil]; omega) (by simp only [List.length_cons, List.length_nil]; omega) (Nat.zero_le _) (fun v1 => ?_))
          refine g_ownv v1 mE (fun A2 c2 hv2 _ _ _ => ?_)
          subst hv2
          (repeat (refine gG ?_; try intro _))
          refine gk_round hRc (.slice A2 (K ++ [z] ++ [x]).length c2, K ++ [z] ++ [x]) rfl hstp.symm [blk g3 [.slice A2 (K ++ [z] ++ [x]).length c2] 23, own 0 31 4 (.slice A2 (K ++ [z] ++ [x]).length c2) EE (K ++ [z] ++ [x])] rfl hbF sA
  · obtain ⟨v, M⟩ := s
    dsimp only at hi
    subst hi
    change GK _ _ _ [dfr D, blk g3 [v] 23, own 0 31 4 v EE (lastS ((insAll (RS.map RwD.E)).take (insAll (RS.map RwD.E)).length))] _
    (repeat (refine gG ?_; try intro _))
    rw [List.take_length]
    refine gk_retM hT (.cons (by repeat (first | with_reducible exact Sel.here | with_reducible apply Sel.there)) .nil) rfl rfl (.tmp rfl .nil) (fun w' hk => ?_)
    exact Ret.mk v trivial rfl hk sA
end Go.Proofs.Ytmbphmckakigaaa.Mg

