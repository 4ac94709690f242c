/- The law CheckFinds. -/
import Derived.Test.YtahfjkibononfaaCw
namespace Go.Proofs.Ytahfjkibononfaa.Ck
open Go.RowKit Mem Nd Gx Sk Tw Wk
open Tr hiding T row
set_option linter.unusedVariables false
set_option linter.unusedSimpArgs false
set_option maxRecDepth 100000
set_option maxHeartbeats 1000000
def mkL (d : NodeD) (E : List EntD) : Tr.T 0 := ((d, E) : NodeD × List EntD)
/-- What the law has made of the first leaves. -/
structure Mk (LS : List LfD) (i : Nat) (ls : List (Tr.T 0)) (K : List EntD) : Prop where
  le : i ≤ LS.length
  E : ls.map (fun l => l.2) = (LS.take i).map LfD.E
  lf : ∀ l ∈ ls, IsLeaf l.2 l.1
  sz : ∀ l ∈ ls, 1 ≤ l.2.length ∧ l.2.length ≤ 9
  K : keysOf K = ls.map fun l => fstK l.2
theorem Mk.len {LS : List LfD} {i : Nat} {ls : List (Tr.T 0)} {K : List EntD} (m : Mk LS i ls K) : ls.length = i ∧ K.length = i := by
  have h1 := congrArg List.length m.E
  rw [List.length_map, List.length_map, List.length_take] at h1
  have h2 := congrArg List.length m.K
  rw [List.length_map, List.length_map] at h2
  have := m.le
  exact ⟨by omega, by omega⟩
theorem Mk.next {LS : List LfD} {i : Nat} {ls : List (Tr.T 0)} {K : List EntD} (m : Mk LS i ls K) {x : LfD} {d : NodeD} {e : EntD} (hx : LS[i]? = some x) (hd : IsLeaf x.E d) (h19 : 1 ≤ x.E.length ∧ x.E.length ≤ 9) (he : x.E[0]? = some e) : Mk LS (i + 1) (ls ++ [mkL d x.E]) (K ++ [e]) := by
  obtain ⟨h1, h2⟩ := List.getElem?_eq_some_iff.1 hx
  refine ⟨h1, ?_, fun l hl => ?_, fun l hl => ?_, ?_⟩
  · rw [List.map_append, m.E, List.take_succ_eq_append_getElem h1, h2, List.map_append]
    rfl
  · rcases List.mem_append.1 hl with hl | hl
    · exact m.lf l hl
    · obtain rfl := List.mem_singleton.1 hl
      exact hd
  · rcases List.mem_append.1 hl with hl | hl
    · exact m.sz l hl
    · obtain rfl := List.mem_singleton.1 hl
      exact h19
  · have hf : fstK x.E = e.k := by
      obtain ⟨y, r, hyr, hyk⟩ := fstK_at (B := x.E) (by omega)
      rw [hyk]
      rw [hyr] at he
      rw [Option.some.inj he]
    show (K ++ [e]).map EntD.k = _
    rw [List.map_append, List.map_append]
    show keysOf K ++ [e.k] = ls.map _ ++ [fstK x.E]
    rw [m.K, hf]
theorem two_cnt {d : NodeD} {ls : List (Tr.T 0)} : (two d ls).cnt = 1 + ls.length := by
  rw [AT.cnt_eq, two_kids, List.map_map]
  congr 1
  induction ls with
  | nil => rfl
  | cons l r ih => rw [List.map_cons, List.sum_cons, ih, List.length_cons]; show 1 + _ = _; omega
theorem two_sz {d : NodeD} {ls : List (Tr.T 0)} (h : Two d ls) (hl : ls.length ≤ 9) (h9 : ∀ l ∈ ls, l.2.length ≤ 9) {P : List AT} {i : Nat} (hP : BfsR (two d ls) P i) : ∀ q ∈ P, (nd q.h q.t).Ks.length ≤ 1000 ∧ (nd q.h q.t).Vs.length ≤ 1000 := by
  have h1 : ∀ q, q = two d ls ∨ q ∈ (two d ls).kids → (nd q.h q.t).Ks.length ≤ 1000 ∧ (nd q.h q.t).Vs.length ≤ 1000 := fun q hq => by
    rcases hq with rfl | hq
    · show d.Ks.length ≤ 1000 ∧ d.Vs.length ≤ 1000
      rw [h.Kl, h.Vs]
      exact ⟨by omega, Nat.zero_le _⟩
    · rw [two_kids] at hq
      obtain ⟨l, hl', rfl⟩ := List.mem_map.1 hq
      have h2 := h.lf l hl'
      have h3 := h9 l hl'
      show l.1.Ks.length ≤ 1000 ∧ l.1.Vs.length ≤ 1000
      rw [h2.Ks, h2.Vs, List.length_map, List.length_map]
      omega
  intro q hq
  rcases two_bfs hP with ⟨_, rfl⟩ | ⟨_, rfl⟩
  · exact h1 q (.inl (List.mem_singleton.1 hq))
  · rcases List.mem_cons.1 hq with rfl | hq
    · exact h1 _ (.inl rfl)
    · exact h1 q (.inr hq)
theorem der_two (d : NodeD) (ls : List (Tr.T 0)) : Der [nodeF d, allF (ls.map (nd 0)) nodeF] (stF (some (two d ls))) :=
  (der_st (two d ls)).trans fun ψ hψ => by
    obtain rfl := List.mem_singleton.1 hψ
    refine der_mk (Der.mem (.head _)) (Der.all fun l hl => ?_)
    exact Der.elem (L := ls.map (nd 0)) (F := nodeF) (x := nd 0 l) (Der.mem (.tail _ (.head _))) (List.mem_map.2 ⟨l, hl, rfl⟩)
theorem der_nil (A : Option Addr) : Der [] (sl A 1 (IE .u32) ([] : List Int)) := ⟨fun w _ => Sl.nil, fun b hb => absurd hb.1 (by simp)⟩
theorem two_fin {d : NodeD} {ls : List (Tr.T 0)} (h : Two d ls) (hbd : ∀ l ∈ ls, ∀ e ∈ l.2, e.k.Bd) (h9 : ∀ l ∈ ls, l.2.length ≤ 9) (hl : ls.length ≤ 9) (hall : AllGood (two d ls)) :
    LvO (some (two d ls)) ⟨0, 0, 0⟩ ls ∧ UpTo maxK (rows ls) ∧ (rows ls).length ≤ 10000 ∧ win ⟨0, 0, 0⟩ maxK (rows ls) = (ls.map fun l => l.2).flatten := by
  obtain ⟨e1, e2, e3, e4⟩ := two_end h hbd hall
  refine ⟨e1, e2, ?_, e4⟩
  rw [e3]
  have := flat_le (ls.map fun l => l.2) fun E hE => by
    obtain ⟨l, hl', rfl⟩ := List.mem_map.1 hE
    exact h9 l hl'
  rw [List.length_map] at this
  omega
theorem checkFinds_any (A : Option Addr) (n c : Nat) (LS : List LfD) (cn : Int) (at0 : EntD) (w : World) (hs0 : (SlV.mk A n c).Ok LS.length) (hL : Sl w A 1 SE LS) (hin : ∀ x ∈ LS, x.s.Ok x.E.length ∧ Sl w x.s.A 4 EE x.E ∧ ∀ e ∈ x.E, e.k.Bd) (hat0 : at0.Bd2) :
    Calls Try.prog 3 [.slice A n c, .int .i64 cn, at0.val].toArray w fun e' w' => e' = .returned (.bool true) ∧ Below w.heap.size w w' := by
  have hn : n = LS.length := hs0.n
  have hn9 : n ≤ 9223372036854775807 := by
    have h1 : n ≤ c := hs0.c
    have h2 : c ≤ maxLen := hs0.mx
    unfold maxLen at h2; omega
  have ha1 := hat0.a
  refine g_enter0 T [] [] [sl A 1 SE LS, allF LS lfF] Try.func3 rfl Try.ntmps3 rfl (Rds.cons (Nd.rd_sl hL (by decide)) (.cons (Rd1.all fun x hx => Nd.rd_sl (hin x hx).2.1 (by decide)) .nil)).kn ?_
  by_cases h19 : 1 ≤ n ∧ n ≤ 9
  · obtain ⟨lb, lo, rfl, _⟩ := hL (by omega)
    (repeat' (first | (refine gG ?_; try intro _) | ((first | refine g_split rfl rfl tE (fun _ => ?_) (fun _ => ?_) | refine gk_cond rfl rfl tE (fun _ => ?_) (fun _ => ?_)) <;> (try first | (exfalso; omega; done) | (rename_i hx; exact absurd rfl hx) | (rename_i hx; cases hx; done)))))
    rename_i g5 _ _
    refine gk_own 0 33 1 PE ?_
    refine gk_own 0 29 4 EE ?_
    refine gk_allNil nodeF ?_
    refine gk_loop_sel (fun (q : Value × Value × Nat × (List (Tr.T 0)) × (List EntD)) => match q with | (v1, v2, i, ls, K) => (Mk LS i ls K)) (fun (q : Value × Value × Nat × (List (Tr.T 0)) × (List EntD)) => match q with | (v1, v2, i, ls, K) => [(0, .slice (some ⟨lb, lo, none⟩) n c), (1, .int .i64 cn), (5, .pointer (some ⟨g5, 0, none⟩)), (7, v1), (8, v2), (9, .int .i64 i)]) (fun (q : Value × Value × Nat × (List (Tr.T 0)) × (List EntD)) => match q with | (v1, v2, i, ls, K) => [own 0 29 4 v2 EE K, own 0 33 1 v1 PE ((ls.map (nd 0)).map NodeD.g), blk g5 [.int .u16 at0.k.v, .int .u32 at0.k.b, .int .u64 at0.k.s, .int .u32 at0.a] 29]) (fun (q : Value × Value × Nat × (List (Tr.T 0)) × (List EntD)) => match q with | (v1, v2, i, ls, K) => [allF (ls.map (nd 0)) nodeF, sl (some ⟨lb, lo, none⟩) 1 SE LS, allF LS lfF]) (fun (q : Value × Value × Nat × (List (Tr.T 0)) × (List EntD)) => match q with | (v1, v2, i, ls, K) => n - i) (.slice none 0 0, .slice none 0 0, 0, [], []) rfl ⟨Nat.zero_le _, rfl, fun l hl => (by cases hl), fun l hl => (by cases hl), rfl⟩ (by repeat (first | exact trivial | refine ⟨rfl, ?_⟩)) sA sS ?_
    rintro ⟨v1, v2, i, ls, K⟩ hI
    replace hI : (Mk LS i ls K) := hI
    change GK _ _ [(0, .slice (some ⟨lb, lo, none⟩) n c), (1, .int .i64 cn), (5, .pointer (some ⟨g5, 0, none⟩)), (7, v1), (8, v2), (9, .int .i64 i)] [own 0 29 4 v2 EE K, own 0 33 1 v1 PE ((ls.map (nd 0)).map NodeD.g), blk g5 [.int .u16 at0.k.v, .int .u32 at0.k.b, .int .u64 at0.k.s, .int .u32 at0.a] 29] [allF (ls.map (nd 0)) nodeF, sl (some ⟨lb, lo, none⟩) 1 SE LS, allF LS lfF]
    obtain ⟨hll, hKl⟩ := hI.len
    have hle := hI.le
    by_cases hlt : i < n
    · obtain ⟨x, hx⟩ : ∃ x, LS[i]? = some x := ⟨LS[i], List.getElem?_eq_getElem (by omega)⟩
      have hxm := List.mem_of_getElem? hx
      obtain ⟨hxo, hxs, hxb⟩ := hin x hxm
      refine gk_elem (enc := SE) (L := LS) i mE (by omega) (by decide) (fun b1 o1 y1 e1 hy1 => ?_)
      injection e1 with e1
      injection e1 with e2 e3
      subst e2 e3
      obtain rfl : x = y1 := by rw [hx] at hy1; exact Option.some.inj hy1
      refine gk_allR (l := LS) (F := lfF) (x := x) mE hxm ?_
      obtain ⟨⟨xA, xn, xc⟩, E⟩ := x
      have hxn : xn = E.length := hxo.n
      change GK _ _ _ _ (sl xA 4 EE E :: row lb (lo + i * 1) [.slice xA xn xc] :: _)
      by_cases hE19 : 1 ≤ E.length ∧ E.length ≤ 9
      · (repeat' (first | (refine gG ?_; try intro _) | ((first | refine g_split rfl rfl tE (fun _ => ?_) (fun _ => ?_) | refine gk_cond rfl rfl tE (fun _ => ?_) (fun _ => ?_)) <;> (try first | (exfalso; omega; done) | (rename_i hx; exact absurd rfl hx) | (rename_i hx; cases hx; done)))))
        refine g_mv rfl ?_; refine mv_call_rt (fun w hk => leaf_any xA xn xc E w hxn (by omega) (hk.pR (sl xA 4 EE E) mE)) rfl rfl rfl rfl rfl (by kernel_rfl) (fun _ => rfl) (fun d hd => ?_)
        (repeat (refine gG ?_; try intro _))
        obtain ⟨e, he⟩ : ∃ e, E[0]? = some e := ⟨E[0], List.getElem?_eq_getElem (by omega)⟩
        have hnext := hI.next hx hd hE19 he
        have hdn : d.K.n = E.length := by rw [hd.ok.K.n, hd.Ks, List.length_map]
        refine gk_share (φ := blk d.g [.bool d.leaf, d.K.v, d.V.v, d.C.v, .int .u32 d.a] 40) (by repeat (first | with_reducible exact Sel.here | with_reducible apply Sel.there)) ?_
        refine gk_share (φ := sl d.K.A 3 KE d.Ks) (by repeat (first | with_reducible exact Sel.here | with_reducible apply Sel.there)) ?_
        refine gk_share (φ := sl d.V.A 1 (IE .u32) d.Vs) (by repeat (first | with_reducible exact Sel.here | with_reducible apply Sel.there)) ?_
        refine gk_share (φ := sl d.C.A 1 PE d.Cs) (by repeat (first | with_reducible exact Sel.here | with_reducible apply Sel.there)) ?_
        refine gk_der [blk d.g [.bool d.leaf, d.K.v, d.V.v, d.C.v, .int .u32 d.a] 40, sl d.K.A 3 KE d.Ks, sl d.V.A 1 (IE .u32) d.Vs, sl d.C.A 1 PE d.Cs] (der_node d) sS ?_
        refine gk_say 10 (.pointer (some ⟨d.g, 0, none⟩)) rfl rfl ?_
        refine gk_elem (enc := EE) (L := E) 0 mE (by omega) (by decide) (fun b3 o3 y3 eA hy3 => ?_)
        subst eA
        obtain rfl : e = y3 := by rw [he] at hy3; exact Option.some.inj hy3
        refine gk_any [10] (Cut _ (fun _ : Unit => [(0, .slice (some ⟨lb, lo, none⟩) n c), (1, .int .i64 cn), (5, .pointer (some ⟨g5, 0, none⟩)), (7, v1), (8, v2), (9, .int .i64 i), (10, .pointer (some ⟨d.g, 0, none⟩)), (56, .bool false)]) (fun _ => [own 0 29 4 v2 EE K, own 0 33 1 v1 PE ((ls.map (nd 0)).map NodeD.g), blk g5 [.int .u16 at0.k.v, .int .u32 at0.k.b, .int .u64 at0.k.s, .int .u32 at0.a] 29]) (fun _ => [row b3 (o3 + 0 * 4) (encF EE e 0 4), nodeF d, row lb (lo + i * 1) [.slice (some ⟨b3, o3, none⟩) xn xc], allF (ls.map (nd 0)) nodeF, sl (some ⟨lb, lo, none⟩) 1 SE LS, allF LS lfF])) rfl rfl (by kernel_rfl) ?_ (cut_k fun _ => ?_)
        · skip
          refine gb_take 0 rfl (by decide +kernel) rfl rfl (ys_ev (nw := true) hT rfl sI) sF ?_
          refine gb_take 1 rfl (by decide +kernel) rfl rfl (ys_ev (nw := true) hT rfl sI) sF ?_
          refine gb_take 2 rfl (by decide +kernel) rfl rfl (ys_ev (nw := true) hT rfl sI) sF ?_
          first | refine gb_take 3 rfl (by decide +kernel) rfl rfl (ys_ev (nw := true) hT rfl sI) sF ?_ | refine gb_skip 3 rfl (by decide +kernel) rfl rfl sF ?_
          first | refine gb_take 5 rfl (by decide +kernel) rfl rfl (ys_ev (nw := true) hT rfl sI) sF ?_ | refine gb_skip 5 rfl (by decide +kernel) rfl rfl sF ?_
          first | refine gb_take 6 rfl (by decide +kernel) rfl rfl (ys_ev (nw := true) hT rfl sI) sF ?_ | refine gb_skip 6 rfl (by decide +kernel) rfl rfl sF ?_
          first | refine gb_take 7 rfl (by decide +kernel) rfl rfl (ys_ev (nw := true) hT rfl sI) sF ?_ | refine gb_skip 7 rfl (by decide +kernel) rfl rfl sF ?_
          first | refine gb_take 8 rfl (by decide +kernel) rfl rfl (by first | exact ys_blk hT rfl rfl mE rfl rfl | exact ys_row hT rfl rfl mE rfl rfl | exact ys_row0 hT rfl rfl mE rfl rfl) sF ?_ | refine gb_skip 8 rfl (by decide +kernel) rfl rfl sF ?_
          first | refine gb_take 9 rfl (by decide +kernel) rfl rfl (ys_ev (nw := true) hT rfl sI) sF ?_ | refine gb_skip 9 rfl (by decide +kernel) rfl rfl sF ?_
          first | refine gb_skip 4 rfl (by decide +kernel) rfl rfl sF ?_ | (refine gb_only 4 (by decide +kernel) rfl rfl ?_; (refine mv_call_bel (fun w hk => nlen_any d.g [] d.leaf d.K d.V d.C d.a w (rd_nb (hk.rR (φ := nodeF d) mE)).1) rfl rfl rfl rfl rfl (by kernel_rfl) ?_); refine ⟨sF, ?_⟩)
          first | refine gb_take 10 rfl (by decide +kernel) rfl rfl (ys_ev (nw := true) hT rfl sI) sF ?_ | refine gb_skip 10 rfl (by decide +kernel) rfl rfl sF ?_
          try (refine gb_say 55 (.bool false) rfl (congrArg Value.bool (tB_false (by omega))) ?_)
          refine gb_take 11 rfl (by decide +kernel) rfl rfl (ys_ev (nw := true) hT rfl sI) sF ?_
          refine gb_nil (by decide +kernel) ?_
          exact ⟨(), (by repeat (first | exact trivial | refine ⟨rfl, ?_⟩)), sA, sS⟩
        · (repeat (refine gG ?_; try intro _))
          refine g_mv rfl (mv_append (L := (ls.map (nd 0)).map NodeD.g) rfl [d.g] rfl rfl rfl rfl elt_P (by intro _; first | ((repeat (first | with_reducible exact Upd.here _ | with_reducible apply Upd.there)); done) | ((repeat (first | exact Upd.here _ | apply Upd.there)); done) | fail) (src_blk mE rfl) rfl (by intro x j; rfl) (by rw [List.length_map, List.length_map]; simp only [maxLen, List.length_cons, List.length_nil]; omega) (by rw [List.length_map, List.length_map]; simp only [List.length_cons, List.length_nil]; omega) (Nat.zero_le _) (fun u1 => ?_))
          rw [show (ls.map (nd 0)).map NodeD.g ++ [d.g] = ((ls ++ [mkL d E]).map (nd 0)).map NodeD.g by rw [List.map_append, List.map_append]; rfl]
          (repeat (refine gG ?_; try intro _))
          refine g_mv rfl (mv_append (L := K) rfl [e] rfl rfl rfl rfl elt_E (by intro _; first | ((repeat (first | with_reducible exact Upd.here _ | with_reducible apply Upd.there)); done) | ((repeat (first | exact Upd.here _ | apply Upd.there)); done) | fail) (src_blk mE rfl) rfl oneE (by simp only [maxLen, List.length_cons, List.length_nil]; omega) (by simp only [List.length_cons, List.length_nil]; omega) (Nat.zero_le _) (fun u2 => ?_))
          refine g_allSnoc (l := ls.map (nd 0)) (F := nodeF) (x := d) mE mE ?_
          rw [show ls.map (nd 0) ++ [d] = (ls ++ [mkL d E]).map (nd 0) by rw [List.map_append]; rfl]
          (repeat (refine gG ?_; try intro _))
          refine gk_again_sel rfl (u1, u2, i + 1, ls ++ [mkL d E], K ++ [e]) hnext (by dsimp only; omega) (by repeat (first | exact trivial | refine ⟨rfl, ?_⟩)) sA sS
      · (repeat' (first | (refine gG ?_; try intro _) | ((first | refine g_split rfl rfl tE (fun _ => ?_) (fun _ => ?_) | refine gk_cond rfl rfl tE (fun _ => ?_) (fun _ => ?_)) <;> (try first | (exfalso; omega; done) | (rename_i hx; exact absurd rfl hx) | (rename_i hx; cases hx; done)))))
        all_goals first | (refine gk_ret hT rfl rfl (.tmp rfl .nil) (fun w' hk => ?_); exact ⟨rfl, hk.toBelow⟩) | (exfalso; omega)
    · have hin' : i = LS.length := by omega
      have hE := hI.E
      rw [hin', List.take_length] at hE
      have hml : ((ls.map (nd 0)).map NodeD.g).length = ls.length := by rw [List.length_map, List.length_map]
      have hlen : ls.length = n := by omega
      have h9l : ∀ l ∈ ls, l.2.length ≤ 9 := fun l hl => (hI.sz l hl).2
      have hx9 : ∀ x ∈ LS, x.E.length ≤ 9 := fun x hx => by
        have : x.E ∈ LS.map LfD.E := List.mem_map.2 ⟨x, hx, rfl⟩
        rw [← hE] at this
        obtain ⟨l, hl, hle⟩ := List.mem_map.1 this
        rw [← hle]
        exact h9l l hl
      have hbl : ∀ l ∈ ls, ∀ e ∈ l.2, e.k.Bd := fun l hl e he => by
        have : l.2 ∈ ls.map fun l => l.2 := List.mem_map.2 ⟨l, hl, rfl⟩
        rw [hE] at this
        obtain ⟨x, hx, hxe⟩ := List.mem_map.1 this
        exact (hin x hx).2.2 e (by rw [hxe]; exact he)
      (repeat' (first | (refine gG ?_; try intro _) | ((first | refine g_split rfl rfl tE (fun _ => ?_) (fun _ => ?_) | refine gk_cond rfl rfl tE (fun _ => ?_) (fun _ => ?_)) <;> (try first | (exfalso; omega; done) | (rename_i hx; exact absurd rfl hx) | (rename_i hx; cases hx; done)))))
      refine g_freeze v1 (by intro _; first | ((repeat (first | with_reducible exact Upd.here _ | with_reducible apply Upd.there)); done) | ((repeat (first | exact Upd.here _ | apply Upd.there)); done) | fail) (fun uA uc hv1 _ _ _ => ?_)
      rw [hml] at hv1
      subst hv1
      refine g_mv rfl ?_; refine mv_call_rt (fun w hk => innerO_any uA ls.length uc (ls.map (nd 0)) w (by rw [List.length_map]) (by omega) (by omega) (fun x hx => by
        obtain ⟨l, hl, rfl⟩ := List.mem_map.1 hx
        have h1 := hI.lf l hl
        have h2 := hI.sz l hl
        exact ⟨(by show 0 < l.1.Ks.length; rw [h1.Ks, List.length_map]; omega), h1.ok⟩) (.cons (rd_kidB (hk.rR (φ := allF (ls.map (nd 0)) nodeF) mE)) (.cons (rd_kidK (hk.rR (φ := allF (ls.map (nd 0)) nodeF) mE)) (.cons (hk.rO (φ := sl uA 1 PE ((ls.map (nd 0)).map NodeD.g)) mE) .nil)))) rfl rfl rfl rfl rfl (by kernel_rfl) (fun _ => rfl) (fun d hd => ?_)
      obtain ⟨hd, hdA⟩ := hd
      obtain ⟨dg, dl, ⟨KA, Kn, Kc⟩, Ks, V, Vs, C, Cs, da⟩ := d
      have hdl : dl = false := hd.leaf
      have hdV : Vs = [] := hd.Vs
      have hda : da = 0 := hd.a
      have hdC : Cs = (ls.map (nd 0)).map NodeD.g := hd.Cs
      have hKn : Kn = Ks.length := hd.ok.K.n
      have hdK : Ks = (ls.map (nd 0)).map (fun x => x.Ks.getD 0 default) := hd.Ks
      have hKl2 : Ks.length = ls.length := by rw [hdK, List.length_map, List.length_map]
      have hKK : Ks = keysOf K := by
        rw [hdK, hI.K, List.map_map]
        refine List.map_congr_left fun l hl => ?_
        have h1 := hI.lf l hl
        have h2 := hI.sz l hl
        exact (lf_fst h1).2 (by omega)
      change G _ _ _ _ _ (own 0 27 3 (.slice KA Kn Kc) KE Ks :: blk dg [.bool dl, .slice KA Kn Kc, V.v, C.v, .int .u32 da] 40 :: sl C.A 1 PE Cs :: _) _
      refine g_own0 (.slice KA Kn Kc) mE (by omega) (fun kb kc hkv _ hkm => ?_)
      injection hkv with q1 q2 q3
      subst q1 q3
      clear q2
      refine g_say 71 (.pointer (some ⟨dg, 0, none⟩)) rfl rfl ?_
      by_cases hat : 0 < at0.a ∧ at0.a ≤ n
      · obtain ⟨j, hj⟩ : ∃ j, j = (at0.a - 1).toNat := ⟨_, rfl⟩
        obtain ⟨k0, hk0⟩ : ∃ k, Ks[j]? = some k := ⟨Ks[j], List.getElem?_eq_getElem (by omega)⟩
        obtain ⟨e0, he0⟩ : ∃ e, K[j]? = some e := ⟨K[j], List.getElem?_eq_getElem (by omega)⟩
        (repeat' (first | (refine gG ?_; try intro _) | ((first | refine g_split rfl rfl tE (fun _ => ?_) (fun _ => ?_) | refine gk_cond rfl rfl tE (fun _ => ?_) (fun _ => ?_)) <;> (try first | (exfalso; omega; done) | (rename_i hx; exact absurd rfl hx) | (rename_i hx; cases hx; done)))))
        refine gk_any [1, 5] (Cut _ (fun _ : Unit => [(0, .slice (some ⟨lb, lo, none⟩) n c), (1, .int .i64 cn), (5, .pointer (some ⟨g5, 0, none⟩)), (8, v2), (11, .pointer (some ⟨dg, 0, none⟩))]) (fun _ => [own 0 27 3 (.slice (some ⟨kb, 0, none⟩) Kn Kc) KE (Ks.set j at0.k), blk dg [.bool dl, .slice (some ⟨kb, 0, none⟩) Kn Kc, V.v, C.v, .int .u32 da] 40, sl C.A 1 PE Cs, own 0 29 4 v2 EE K, blk g5 [.int .u16 at0.k.v, .int .u32 at0.k.b, .int .u64 at0.k.s, .int .u32 at0.a] 29]) (fun _ => [allF (ls.map (nd 0)) nodeF, sl (some ⟨lb, lo, none⟩) 1 SE LS, allF LS lfF])) rfl rfl (by kernel_rfl) ?_ (cut_k fun _ => ?_)
        · skip
          refine gb_take 0 rfl (by decide +kernel) rfl rfl (ys_ev (nw := true) hT rfl sI) sF ?_
          refine gb_take 1 rfl (by decide +kernel) rfl rfl (ys_ev (nw := true) hT rfl sI) sF ?_
          refine gb_take 2 rfl (by decide +kernel) rfl rfl (ys_ev (nw := true) hT rfl sI) sF ?_
          refine gb_take 3 rfl (by decide +kernel) rfl rfl (by first | exact ys_blk hT rfl rfl mE rfl rfl | exact ys_row hT rfl rfl mE rfl rfl | exact ys_row0 hT rfl rfl mE rfl rfl) sF ?_
          refine gb_take 4 rfl (by decide +kernel) rfl rfl (ys_ev (nw := true) hT rfl sI) sF ?_
          refine gb_take 5 rfl (by decide +kernel) rfl rfl (by first | exact ys_blk hT rfl rfl mE rfl rfl | exact ys_row hT rfl rfl mE rfl rfl | exact ys_row0 hT rfl rfl mE rfl rfl) sF ?_
          refine gb_take 6 rfl (by decide +kernel) rfl rfl (ys_ev (nw := true) hT rfl sI) sF ?_
          refine gb_take 7 rfl (by decide +kernel) rfl rfl (ys_ev (nw := true) hT rfl sI) sF ?_
          refine gb_take 8 rfl (by decide +kernel) rfl rfl (by first | exact ys_blk hT rfl rfl mE rfl rfl | exact ys_row hT rfl rfl mE rfl rfl | exact ys_row0 hT rfl rfl mE rfl rfl) sF ?_
          refine gb_take 9 rfl (by decide +kernel) rfl rfl (ys_ev (nw := true) hT rfl sI) sF ?_
          refine gb_only 10 (by decide +kernel) rfl rfl ?_
          refine mv_store_ownW (α := KeyD) (enc := KE) (L := Ks) hT j k0 at0.k rfl rfl (by rw [hj, Nat.zero_add]) rfl rfl rfl rfl hk0 (by decide) (by first | ((repeat (first | with_reducible exact Upd.here _ | with_reducible apply Upd.there)); done) | ((repeat (first | exact Upd.here _ | apply Upd.there)); done) | fail) rfl ?_
          refine ⟨sF, ?_⟩
          refine gb_nil (by decide +kernel) ?_
          exact ⟨(), (by repeat (first | exact trivial | refine ⟨rfl, ?_⟩)), sA, sS⟩
        · refine gk_own0 v2 mE (by omega) (fun b2 c2 hv2 _ hcm2 => ?_)
          subst hv2
          (repeat (refine gG ?_; try intro _))
          refine g_mv rfl (mv_store_ownW (α := EntD) (enc := EE) (L := K) hT j e0 at0 rfl rfl (by rw [hj, Nat.zero_add]) rfl rfl rfl rfl he0 (by decide) (by first | ((repeat (first | with_reducible exact Upd.here _ | with_reducible apply Upd.there)); done) | ((repeat (first | exact Upd.here _ | apply Upd.there)); done) | fail) rfl ?_)
          obtain ⟨v2, hv2⟩ : ∃ v, v = Value.slice (some ⟨b2, 0, none⟩) K.length c2 := ⟨_, rfl⟩
          rw [← hv2]
          obtain ⟨K', hK'⟩ : ∃ K', K' = K.set j at0 := ⟨_, rfl⟩
          obtain ⟨Ks', hKs'⟩ : ∃ K', K' = Ks.set j at0.k := ⟨_, rfl⟩
          rw [← hK', ← hKs']
          have hK'l : K'.length = K.length := by rw [hK', List.length_set]
          have hKs'l : Ks'.length = Ks.length := by rw [hKs', List.length_set]
          have hKK' : Ks' = keysOf K' := by rw [hKs', hK', hKK]; exact List.map_set.symm
          (repeat (refine gG ?_; try intro _))
          refine g_mv rfl ?_; refine mv_call_rt (fun w hk => tnew_some dg cn w) rfl rfl rfl rfl rfl (by kernel_rfl) (fun _ => rfl) (fun tg _ => ?_)
          refine g_freeze (.slice (some ⟨kb, 0, none⟩) Kn Kc) (by intro _; first | ((repeat (first | with_reducible exact Upd.here _ | with_reducible apply Upd.there)); done) | ((repeat (first | exact Upd.here _ | apply Upd.there)); done) | fail) (fun fA fc hf _ _ _ => ?_)
          injection hf with q1 q2 q3
          subst q1 q3
          refine g_freeze v2 (by intro _; first | ((repeat (first | with_reducible exact Upd.here _ | with_reducible apply Upd.there)); done) | ((repeat (first | exact Upd.here _ | apply Upd.there)); done) | fail) (fun wA wc hv2 _ _ _ => ?_)
          subst hv2
          refine g_share (φ := sl (some ⟨kb, 0, none⟩) 3 KE Ks') (by repeat (first | with_reducible exact Sel.here | with_reducible apply Sel.there)) ?_
          refine g_share (φ := blk dg [.bool dl, .slice (some ⟨kb, 0, none⟩) Kn Kc, V.v, C.v, .int .u32 da] 40) (by repeat (first | with_reducible exact Sel.here | with_reducible apply Sel.there)) ?_
          refine g_share (φ := sl C.A 1 PE Cs) (by repeat (first | with_reducible exact Sel.here | with_reducible apply Sel.there)) ?_
          refine g_der [] (der_nil V.A) (List.nil_subset _) ?_
          refine g_der [blk dg [.bool dl, .slice (some ⟨kb, 0, none⟩) Kn Kc, V.v, C.v, .int .u32 da] 40, sl (some ⟨kb, 0, none⟩) 3 KE Ks', sl V.A 1 (IE .u32) [], sl C.A 1 PE Cs] (show Der _ (nodeF ⟨dg, dl, ⟨some ⟨kb, 0, none⟩, Kn, Kc⟩, Ks', V, [], C, Cs, da⟩) from der_node ⟨dg, dl, ⟨some ⟨kb, 0, none⟩, Kn, Kc⟩, Ks', V, [], C, Cs, da⟩) sS ?_
          refine g_der [nodeF ⟨dg, dl, ⟨some ⟨kb, 0, none⟩, Kn, Kc⟩, Ks', V, [], C, Cs, da⟩, allF (ls.map (nd 0)) nodeF] (der_two ⟨dg, dl, ⟨some ⟨kb, 0, none⟩, Kn, Kc⟩, Ks', V, [], C, Cs, da⟩ ls) sS ?_
          have hTwo : Two ⟨dg, dl, ⟨some ⟨kb, 0, none⟩, Kn, Kc⟩, Ks', V, [], C, Cs, da⟩ ls := ⟨⟨by show (SlV.mk (some ⟨kb, 0, none⟩) Kn Kc).Ok Ks'.length; rw [hKs'l]; exact hd.ok.K, by show V.Ok 0; have := hd.ok.V; rw [show (NodeD.mk dg dl ⟨some ⟨kb, 0, none⟩, Kn, Kc⟩ Ks V Vs C Cs da).Vs = [] from hdV] at this; exact this, hd.ok.C⟩, hdl, rfl, hdC, hda, by show Ks'.length = ls.length; rw [hKs'l]; exact hKl2, hI.lf⟩
          refine g_mv rfl ?_; refine mv_call_rt (fun w hk => ctree_any (two ⟨dg, dl, ⟨some ⟨kb, 0, none⟩, Kn, Kc⟩, Ks', V, [], C, Cs, da⟩ ls) tg cn ⟨0, 0, 0⟩ maxK ls (ls.map fun l => l.2).flatten w rfl rfl hTwo.wok (by show 1 ≤ 12; omega) (by rw [two_cnt]; omega) (fun P i hP => two_sz hTwo (by omega) h9l hP) (fun hall => two_fin hTwo hbl h9l (by omega) hall) (hk.rO (φ := blk tg [.pointer (some ⟨dg, 0, none⟩), .int .i64 cn] 63) mE) (hk.rR (φ := stF (some (two ⟨dg, dl, ⟨some ⟨kb, 0, none⟩, Kn, Kc⟩, Ks', V, [], C, Cs, da⟩ ls))) mE)) rfl rfl rfl rfl rfl (by kernel_rfl) (fun _ => rfl) (fun r hr => ?_)
          have hr2 := two_wrong hTwo hr
          subst hr2
          (repeat (refine gG ?_; try intro _))
          refine g_mv rfl ?_; refine mv_call_bel (fun w hk => wrong_any lb lo n c LS wA K'.length wc K' cn w hn (by omega) rfl (by rw [hK'l]; omega) (fun x hx => ⟨(hin x hx).1, hx9 x hx⟩) (hk.rR (φ := sl (some ⟨lb, lo, none⟩) 1 SE LS) mE) (hk.rR (φ := allF LS lfF) mE) (hk.rO (φ := sl wA 4 EE K') mE)) rfl rfl rfl rfl rfl (by kernel_rfl) ?_
          rw [show wrongP (LS.map LfD.E) (keysOf K') cn = wrongP (ls.map fun l => l.2) Ks' cn by rw [hE, hKK']]
          (repeat (refine gG ?_; try intro _))
          rw [tB_true rfl]
          (repeat' (first | (refine gG ?_; try intro _) | (refine g_mv rfl ?_; first | refine mv_call_bel (fun w hk => alive35_any w) rfl rfl rfl rfl rfl (by kernel_rfl) ?_) | ((first | refine g_split rfl rfl tE (fun _ => ?_) (fun _ => ?_) | refine gk_cond rfl rfl tE (fun _ => ?_) (fun _ => ?_)) <;> (try first | (exfalso; omega; done) | (rename_i hx; exact absurd rfl hx) | (rename_i hx; cases hx; done)))))
          refine gk_ret hT rfl rfl (.tmp rfl .nil) (fun w' hk => ?_)
          exact ⟨ret_bool (by simp [tB_eq]), hk.toBelow⟩
      · obtain ⟨K', hK'⟩ : ∃ K', K' = K := ⟨_, rfl⟩
        obtain ⟨Ks', hKs'⟩ : ∃ K', K' = Ks := ⟨_, rfl⟩
        have hK'l : K'.length = K.length := by rw [hK']
        have hKs'l : Ks'.length = Ks.length := by rw [hKs']
        have hKK' : Ks' = keysOf K' := by rw [hKs', hK', hKK]
        (repeat' (first | (refine gG ?_; try intro _) | ((first | refine g_split rfl rfl tE (fun _ => ?_) (fun _ => ?_) | refine gk_cond rfl rfl tE (fun _ => ?_) (fun _ => ?_)) <;> (try first | (exfalso; omega; done) | (rename_i hx; exact absurd rfl hx) | (rename_i hx; cases hx; done)))))
        · rw [show own 0 27 3 (.slice (some ⟨kb, 0, none⟩) Kn Kc) KE Ks = own 0 27 3 (.slice (some ⟨kb, 0, none⟩) Kn Kc) KE Ks' by rw [hKs'], show own 0 29 4 v2 EE K = own 0 29 4 v2 EE K' by rw [hK']]
          refine g_mv rfl ?_; refine mv_call_rt (fun w hk => tnew_some dg cn w) rfl rfl rfl rfl rfl (by kernel_rfl) (fun _ => rfl) (fun tg _ => ?_)
          refine g_freeze (.slice (some ⟨kb, 0, none⟩) Kn Kc) (by intro _; first | ((repeat (first | with_reducible exact Upd.here _ | with_reducible apply Upd.there)); done) | ((repeat (first | exact Upd.here _ | apply Upd.there)); done) | fail) (fun fA fc hf _ _ _ => ?_)
          injection hf with q1 q2 q3
          subst q1 q3
          refine g_freeze v2 (by intro _; first | ((repeat (first | with_reducible exact Upd.here _ | with_reducible apply Upd.there)); done) | ((repeat (first | exact Upd.here _ | apply Upd.there)); done) | fail) (fun wA wc hv2 _ _ _ => ?_)
          subst hv2
          refine g_share (φ := sl (some ⟨kb, 0, none⟩) 3 KE Ks') (by repeat (first | with_reducible exact Sel.here | with_reducible apply Sel.there)) ?_
          refine g_share (φ := blk dg [.bool dl, .slice (some ⟨kb, 0, none⟩) Kn Kc, V.v, C.v, .int .u32 da] 40) (by repeat (first | with_reducible exact Sel.here | with_reducible apply Sel.there)) ?_
          refine g_share (φ := sl C.A 1 PE Cs) (by repeat (first | with_reducible exact Sel.here | with_reducible apply Sel.there)) ?_
          refine g_der [] (der_nil V.A) (List.nil_subset _) ?_
          refine g_der [blk dg [.bool dl, .slice (some ⟨kb, 0, none⟩) Kn Kc, V.v, C.v, .int .u32 da] 40, sl (some ⟨kb, 0, none⟩) 3 KE Ks', sl V.A 1 (IE .u32) [], sl C.A 1 PE Cs] (show Der _ (nodeF ⟨dg, dl, ⟨some ⟨kb, 0, none⟩, Kn, Kc⟩, Ks', V, [], C, Cs, da⟩) from der_node ⟨dg, dl, ⟨some ⟨kb, 0, none⟩, Kn, Kc⟩, Ks', V, [], C, Cs, da⟩) sS ?_
          refine g_der [nodeF ⟨dg, dl, ⟨some ⟨kb, 0, none⟩, Kn, Kc⟩, Ks', V, [], C, Cs, da⟩, allF (ls.map (nd 0)) nodeF] (der_two ⟨dg, dl, ⟨some ⟨kb, 0, none⟩, Kn, Kc⟩, Ks', V, [], C, Cs, da⟩ ls) sS ?_
          have hTwo : Two ⟨dg, dl, ⟨some ⟨kb, 0, none⟩, Kn, Kc⟩, Ks', V, [], C, Cs, da⟩ ls := ⟨⟨by show (SlV.mk (some ⟨kb, 0, none⟩) Kn Kc).Ok Ks'.length; rw [hKs'l]; exact hd.ok.K, by show V.Ok 0; have := hd.ok.V; rw [show (NodeD.mk dg dl ⟨some ⟨kb, 0, none⟩, Kn, Kc⟩ Ks V Vs C Cs da).Vs = [] from hdV] at this; exact this, hd.ok.C⟩, hdl, rfl, hdC, hda, by show Ks'.length = ls.length; rw [hKs'l]; exact hKl2, hI.lf⟩
          refine g_mv rfl ?_; refine mv_call_rt (fun w hk => ctree_any (two ⟨dg, dl, ⟨some ⟨kb, 0, none⟩, Kn, Kc⟩, Ks', V, [], C, Cs, da⟩ ls) tg cn ⟨0, 0, 0⟩ maxK ls (ls.map fun l => l.2).flatten w rfl rfl hTwo.wok (by show 1 ≤ 12; omega) (by rw [two_cnt]; omega) (fun P i hP => two_sz hTwo (by omega) h9l hP) (fun hall => two_fin hTwo hbl h9l (by omega) hall) (hk.rO (φ := blk tg [.pointer (some ⟨dg, 0, none⟩), .int .i64 cn] 63) mE) (hk.rR (φ := stF (some (two ⟨dg, dl, ⟨some ⟨kb, 0, none⟩, Kn, Kc⟩, Ks', V, [], C, Cs, da⟩ ls))) mE)) rfl rfl rfl rfl rfl (by kernel_rfl) (fun _ => rfl) (fun r hr => ?_)
          have hr2 := two_wrong hTwo hr
          subst hr2
          (repeat (refine gG ?_; try intro _))
          refine g_mv rfl ?_; refine mv_call_bel (fun w hk => wrong_any lb lo n c LS wA K'.length wc K' cn w hn (by omega) rfl (by rw [hK'l]; omega) (fun x hx => ⟨(hin x hx).1, hx9 x hx⟩) (hk.rR (φ := sl (some ⟨lb, lo, none⟩) 1 SE LS) mE) (hk.rR (φ := allF LS lfF) mE) (hk.rO (φ := sl wA 4 EE K') mE)) rfl rfl rfl rfl rfl (by kernel_rfl) ?_
          rw [show wrongP (LS.map LfD.E) (keysOf K') cn = wrongP (ls.map fun l => l.2) Ks' cn by rw [hE, hKK']]
          (repeat (refine gG ?_; try intro _))
          rw [tB_true rfl]
          (repeat' (first | (refine gG ?_; try intro _) | (refine g_mv rfl ?_; first | refine mv_call_bel (fun w hk => alive35_any w) rfl rfl rfl rfl rfl (by kernel_rfl) ?_) | ((first | refine g_split rfl rfl tE (fun _ => ?_) (fun _ => ?_) | refine gk_cond rfl rfl tE (fun _ => ?_) (fun _ => ?_)) <;> (try first | (exfalso; omega; done) | (rename_i hx; exact absurd rfl hx) | (rename_i hx; cases hx; done)))))
          refine gk_ret hT rfl rfl (.tmp rfl .nil) (fun w' hk => ?_)
          exact ⟨ret_bool (by simp [tB_eq]), hk.toBelow⟩
        · rw [show own 0 27 3 (.slice (some ⟨kb, 0, none⟩) Kn Kc) KE Ks = own 0 27 3 (.slice (some ⟨kb, 0, none⟩) Kn Kc) KE Ks' by rw [hKs'], show own 0 29 4 v2 EE K = own 0 29 4 v2 EE K' by rw [hK']]
          refine g_mv rfl ?_; refine mv_call_rt (fun w hk => tnew_some dg cn w) rfl rfl rfl rfl rfl (by kernel_rfl) (fun _ => rfl) (fun tg _ => ?_)
          refine g_freeze (.slice (some ⟨kb, 0, none⟩) Kn Kc) (by intro _; first | ((repeat (first | with_reducible exact Upd.here _ | with_reducible apply Upd.there)); done) | ((repeat (first | exact Upd.here _ | apply Upd.there)); done) | fail) (fun fA fc hf _ _ _ => ?_)
          injection hf with q1 q2 q3
          subst q1 q3
          refine g_freeze v2 (by intro _; first | ((repeat (first | with_reducible exact Upd.here _ | with_reducible apply Upd.there)); done) | ((repeat (first | exact Upd.here _ | apply Upd.there)); done) | fail) (fun wA wc hv2 _ _ _ => ?_)
          subst hv2
          refine g_share (φ := sl (some ⟨kb, 0, none⟩) 3 KE Ks') (by repeat (first | with_reducible exact Sel.here | with_reducible apply Sel.there)) ?_
          refine g_share (φ := blk dg [.bool dl, .slice (some ⟨kb, 0, none⟩) Kn Kc, V.v, C.v, .int .u32 da] 40) (by repeat (first | with_reducible exact Sel.here | with_reducible apply Sel.there)) ?_
          refine g_share (φ := sl C.A 1 PE Cs) (by repeat (first | with_reducible exact Sel.here | with_reducible apply Sel.there)) ?_
          refine g_der [] (der_nil V.A) (List.nil_subset _) ?_
          refine g_der [blk dg [.bool dl, .slice (some ⟨kb, 0, none⟩) Kn Kc, V.v, C.v, .int .u32 da] 40, sl (some ⟨kb, 0, none⟩) 3 KE Ks', sl V.A 1 (IE .u32) [], sl C.A 1 PE Cs] (show Der _ (nodeF ⟨dg, dl, ⟨some ⟨kb, 0, none⟩, Kn, Kc⟩, Ks', V, [], C, Cs, da⟩) from der_node ⟨dg, dl, ⟨some ⟨kb, 0, none⟩, Kn, Kc⟩, Ks', V, [], C, Cs, da⟩) sS ?_
          refine g_der [nodeF ⟨dg, dl, ⟨some ⟨kb, 0, none⟩, Kn, Kc⟩, Ks', V, [], C, Cs, da⟩, allF (ls.map (nd 0)) nodeF] (der_two ⟨dg, dl, ⟨some ⟨kb, 0, none⟩, Kn, Kc⟩, Ks', V, [], C, Cs, da⟩ ls) sS ?_
          have hTwo : Two ⟨dg, dl, ⟨some ⟨kb, 0, none⟩, Kn, Kc⟩, Ks', V, [], C, Cs, da⟩ ls := ⟨⟨by show (SlV.mk (some ⟨kb, 0, none⟩) Kn Kc).Ok Ks'.length; rw [hKs'l]; exact hd.ok.K, by show V.Ok 0; have := hd.ok.V; rw [show (NodeD.mk dg dl ⟨some ⟨kb, 0, none⟩, Kn, Kc⟩ Ks V Vs C Cs da).Vs = [] from hdV] at this; exact this, hd.ok.C⟩, hdl, rfl, hdC, hda, by show Ks'.length = ls.length; rw [hKs'l]; exact hKl2, hI.lf⟩
          refine g_mv rfl ?_; refine mv_call_rt (fun w hk => ctree_any (two ⟨dg, dl, ⟨some ⟨kb, 0, none⟩, Kn, Kc⟩, Ks', V, [], C, Cs, da⟩ ls) tg cn ⟨0, 0, 0⟩ maxK ls (ls.map fun l => l.2).flatten w rfl rfl hTwo.wok (by show 1 ≤ 12; omega) (by rw [two_cnt]; omega) (fun P i hP => two_sz hTwo (by omega) h9l hP) (fun hall => two_fin hTwo hbl h9l (by omega) hall) (hk.rO (φ := blk tg [.pointer (some ⟨dg, 0, none⟩), .int .i64 cn] 63) mE) (hk.rR (φ := stF (some (two ⟨dg, dl, ⟨some ⟨kb, 0, none⟩, Kn, Kc⟩, Ks', V, [], C, Cs, da⟩ ls))) mE)) rfl rfl rfl rfl rfl (by kernel_rfl) (fun _ => rfl) (fun r hr => ?_)
          have hr2 := two_wrong hTwo hr
          subst hr2
          (repeat (refine gG ?_; try intro _))
          refine g_mv rfl ?_; refine mv_call_bel (fun w hk => wrong_any lb lo n c LS wA K'.length wc K' cn w hn (by omega) rfl (by rw [hK'l]; omega) (fun x hx => ⟨(hin x hx).1, hx9 x hx⟩) (hk.rR (φ := sl (some ⟨lb, lo, none⟩) 1 SE LS) mE) (hk.rR (φ := allF LS lfF) mE) (hk.rO (φ := sl wA 4 EE K') mE)) rfl rfl rfl rfl rfl (by kernel_rfl) ?_
          rw [show wrongP (LS.map LfD.E) (keysOf K') cn = wrongP (ls.map fun l => l.2) Ks' cn by rw [hE, hKK']]
          (repeat (refine gG ?_; try intro _))
          rw [tB_true rfl]
          (repeat' (first | (refine gG ?_; try intro _) | (refine g_mv rfl ?_; first | refine mv_call_bel (fun w hk => alive35_any w) rfl rfl rfl rfl rfl (by kernel_rfl) ?_) | ((first | refine g_split rfl rfl tE (fun _ => ?_) (fun _ => ?_) | refine gk_cond rfl rfl tE (fun _ => ?_) (fun _ => ?_)) <;> (try first | (exfalso; omega; done) | (rename_i hx; exact absurd rfl hx) | (rename_i hx; cases hx; done)))))
          refine gk_ret hT rfl rfl (.tmp rfl .nil) (fun w' hk => ?_)
          exact ⟨ret_bool (by simp [tB_eq]), hk.toBelow⟩
  · (repeat' (first | (refine gG ?_; try intro _) | ((first | refine g_split rfl rfl tE (fun _ => ?_) (fun _ => ?_) | refine gk_cond rfl rfl tE (fun _ => ?_) (fun _ => ?_)) <;> (try first | (exfalso; omega; done) | (rename_i hx; exact absurd rfl hx) | (rename_i hx; cases hx; done)))))
    all_goals first | (refine gk_ret hT rfl rfl (.tmp rfl .nil) (fun w' hk => ?_); exact ⟨rfl, hk.toBelow⟩) | (exfalso; omega)
end Go.Proofs.Ytahfjkibononfaa.Ck

