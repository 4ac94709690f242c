/- node.Inner. -/
import Derived.Test.YtahfjkibononfaaNdC
import Derived.Test.YtahfjkibononfaaGxI
namespace Go.Proofs.Ytahfjkibononfaa.Nd
open Go.RowKit Mem Gx
set_option linter.unusedVariables false
set_option linter.unusedSimpArgs false
set_option maxRecDepth 100000
set_option maxHeartbeats 4000000
/-- What of a kid is looked at: its block; its keys. -/
abbrev kidB (d : NodeD) : Fact := row d.g 0 [.bool d.leaf, d.K.v, d.V.v, d.C.v, .int .u32 d.a]
abbrev kidK (d : NodeD) : Fact := sl d.K.A 3 KE d.Ks
structure IsInner (ds : List NodeD) (d : NodeD) : Prop where
  ok : d.Ok
  leaf : d.leaf = false
  Ks : d.Ks = ds.map (fun x => x.Ks.getD 0 default)
  Vs : d.Vs = []
  Cs : d.Cs = ds.map NodeD.g
  a : d.a = 0
theorem inner_any (A : Option Addr) (n c : Nat) (ds : List NodeD) (w : World) (hn : n = ds.length) (h9 : n ≤ 1000) (hne : ∀ d ∈ ds, 0 < d.Ks.length ∧ d.Ok) (hB : Rds w [allF ds kidB, allF ds kidK, sl A 1 PE (ds.map NodeD.g)]) :
    Calls Try.prog 9 [.slice A n c].toArray w (Ret (IsInner ds) NodeD.ptr NodeD.fs w) := by
  refine g_enter0 T [] [] [allF ds kidB, allF ds kidK, sl A 1 PE (ds.map NodeD.g)] Try.func9 rfl Try.ntmps9 rfl hB.kn ?_
  (repeat (refine gG ?_; try intro _))
  refine g_mv rfl ?_; refine mv_call_rt (fun w hk => clone_Pn A n c (ds.map NodeD.g) w (by rw [List.length_map]; exact hn) (by omega) (hk.pR (sl A 1 PE (ds.map NodeD.g)) mE)) rfl rfl rfl rfl rfl (by kernel_rfl) (fun _ => rfl) (fun cs hcs => ?_)
  (repeat (refine gG ?_; try intro _))
  rename_i g
  refine gk_own 0 27 3 KE ?_
  refine gk_loop_sel (fun (q : Nat × Value × (List KeyD)) => match q with | (j, a, M) => j ≤ ds.length ∧ M = (ds.take j).map (fun x => x.Ks.getD 0 default)) (fun (q : Nat × Value × (List KeyD)) => match q with | (j, a, M) => [(3, .pointer (some ⟨g, 0, none⟩)), (10, .slice A n c), (11, .int .i64 n), (12, .int .i64 j)]) (fun (q : Nat × Value × (List KeyD)) => match q with | (j, a, M) => [own 0 27 3 a KE M, blk g [.bool false, a, .slice none 0 0, cs.v, .int .u32 0] 40, sl cs.A 1 PE (ds.map NodeD.g)]) (fun (q : Nat × Value × (List KeyD)) => match q with | (j, a, M) => [allF ds kidB, allF ds kidK, sl A 1 PE (ds.map NodeD.g)]) (fun (q : Nat × Value × (List KeyD)) => match q with | (j, a, M) => ds.length - j) (0, .slice none 0 0, []) rfl ⟨Nat.zero_le _, rfl⟩ (by repeat (first | exact trivial | refine ⟨rfl, ?_⟩)) sA sS ?_
  rintro ⟨j, a, M⟩ hI
  replace hI : j ≤ ds.length ∧ M = (ds.take j).map (fun x => x.Ks.getD 0 default) := hI
  change GK _ _ [(3, .pointer (some ⟨g, 0, none⟩)), (10, .slice A n c), (11, .int .i64 n), (12, .int .i64 j)] [own 0 27 3 a KE M, blk g [.bool false, a, .slice none 0 0, cs.v, .int .u32 0] 40, sl cs.A 1 PE (ds.map NodeD.g)] [allF ds kidB, allF ds kidK, sl A 1 PE (ds.map NodeD.g)]
  obtain ⟨hj, hM⟩ := hI
  have hMl : M.length = j := by rw [hM, List.length_map, List.length_take]; omega
  (repeat (refine gG ?_; try intro _))
  refine gk_cond rfl rfl (tells_tB _) (fun h1 => ?_) (fun h1 => ?_)
  · have hjL : j < ds.length := by omega
    obtain ⟨d, hd⟩ : ∃ d, ds[j]? = some d := ⟨ds[j], List.getElem?_eq_getElem hjL⟩
    have hdm := List.mem_of_getElem? hd
    refine gk_allR (l := ds) (F := kidB) (x := d) mE hdm ?_
    refine gk_allR (l := ds) (F := kidK) (x := d) mE hdm ?_
    refine gk_elem (enc := PE) (L := ds.map NodeD.g) j mE (by rw [List.length_map]; omega) (by decide) (fun b0 off y eA hy => ?_)
    subst eA
    obtain rfl : d.g = y := by
      rw [List.getElem?_map, hd] at hy
      exact Option.some.inj hy
    have hd0 : 0 < d.K.n := by rw [(hne d hdm).2.K.n]; exact (hne d hdm).1
    refine gk_elem (enc := KE) (L := d.Ks) 0 mE (hne d hdm).1 (by decide) (fun b1 o1 k eA hk0 => ?_)
    (repeat (refine gG ?_; try intro _))
    refine gk_any [3, 6] (Cut _ (fun v : Value => [(3, .pointer (some ⟨g, 0, none⟩)), (10, .slice (some ⟨b0, off, none⟩) n c), (11, .int .i64 n), (12, .int .i64 j)]) (fun v => [own 0 27 3 v KE (M ++ [k]), blk g [.bool false, v, .slice none 0 0, cs.v, .int .u32 0] 40, sl cs.A 1 PE (ds.map NodeD.g)]) (fun _ => [allF ds kidB, allF ds kidK, sl (some ⟨b0, off, none⟩) 1 PE (ds.map NodeD.g)])) rfl rfl (by kernel_rfl) ?_ (cut_k fun v => ?_)
    · skip
      refine gb_take 0 rfl (by decide +kernel) rfl rfl (ys_ev (nw := true) hT rfl sI) sF ?_
      refine gb_take 1 rfl (by decide +kernel) rfl rfl (ys_ev (nw := true) hT rfl sI) sF ?_
      refine gb_take 2 rfl (by decide +kernel) rfl rfl (ys_ev (nw := true) hT rfl sI) sF ?_
      refine gb_take 3 rfl (by decide +kernel) rfl rfl (ys_ev (nw := true) hT rfl sI) sF ?_
      refine gb_take 5 rfl (by decide +kernel) rfl rfl (ys_ev (nw := true) hT rfl sI) sF ?_
      refine gb_take 6 rfl (by decide +kernel) rfl rfl (ys_ev (nw := true) hT rfl sI) sF ?_
      refine gb_take 7 rfl (by decide +kernel) rfl rfl (ys_ev (nw := true) hT rfl sI) sF ?_
      refine gb_take 8 rfl (by decide +kernel) rfl rfl (by first | exact ys_blk hT rfl rfl mE rfl rfl | exact ys_row hT rfl rfl mE rfl rfl | exact ys_row0 hT rfl rfl mE rfl rfl) sF ?_
      try (refine gb_say 24 (.slice (some ⟨b1, o1, none⟩) d.K.n d.K.c) rfl (by show d.K.v = _; unfold SlV.v; rw [eA]) ?_)
      refine gb_take 9 rfl (by decide +kernel) rfl rfl (ys_ev (nw := true) hT rfl sI) sF ?_
      refine gb_take 10 rfl (by decide +kernel) rfl rfl (by first | exact ys_blk hT rfl rfl mE rfl rfl | exact ys_row hT rfl rfl mE rfl rfl | exact ys_row0 hT rfl rfl mE rfl rfl) sF ?_
      refine gb_all (by decide +kernel) ?_
      refine gball_not (by decide +kernel) ?_
      refine gball_not (by decide +kernel) ?_
      refine gball_not (by decide +kernel) ?_
      refine gball_not (by decide +kernel) ?_
      refine gball_yes rfl rfl ?_ ?_
      · refine mv_yd rfl (yd_load_blk hT rfl rfl mE rfl rfl) ?_
        refine ⟨sF, ?_⟩
        refine gb_only 11 (by decide +kernel) rfl rfl ?_
        (refine mv_buildSlice (len := 1) rfl hT rfl rfl rfl rfl rfl rfl rfl rfl ?_; intro g6)
        refine ⟨sF, ?_⟩
        refine gb_only 12 (by decide +kernel) rfl rfl ?_
        refine mv_append rfl [k] rfl rfl rfl rfl elt_K (by intro _; first | ((repeat (first | with_reducible exact Upd.here _ | with_reducible apply Upd.there)); done) | ((repeat (first | exact Upd.here _ | apply Upd.there)); done) | fail) (src_blk mE rfl) rfl (by intro x j; rcases j with _ | _ | _ | j <;> rfl) (by simp only [maxLen, List.length_cons, List.length_nil]; omega) (by simp only [List.length_cons, List.length_nil]; omega) (Nat.zero_le _) (fun v1 => ?_)
        refine ⟨sF, ?_⟩
        (refine gb_ownv v1 mE (fun A1 c1 hv1 _ _ _ => ?_); subst hv1)
        refine gb_take 13 rfl (by decide +kernel) rfl rfl (ys_ev (nw := true) hT rfl sI) sF ?_
        refine gb_take 14 rfl (by decide +kernel) rfl rfl (ys_ev (nw := true) hT rfl sI) sF ?_
        refine gb_only 15 (by decide +kernel) rfl rfl ?_
        first | (refine mv_box rfl rfl rfl rfl ?_; intro _) | (refine mv_alloc rfl hT rfl rfl ?_; intro _) | refine mv_store hT rfl rfl rfl rfl rfl rfl sO rfl ?_ | (refine mv_buildSlice rfl hT rfl rfl rfl rfl rfl rfl rfl rfl ?_; intro _)
        refine ⟨sF, ?_⟩
        refine gb_nil (by decide +kernel) ?_
        exact ⟨.slice A1 (M ++ [k]).length c1, (by repeat (first | exact trivial | refine ⟨rfl, ?_⟩)), sA, sS⟩
      refine gball_not (by decide +kernel) ?_
      refine gball_not (by decide +kernel) ?_
      refine gball_not (by decide +kernel) ?_
      refine gball_not (by decide +kernel) ?_
      refine gball_not (by decide +kernel) ?_
      refine gball_not (by decide +kernel) ?_
      refine gball_yes rfl rfl ?_ ?_
      · (refine mv_buildSlice (len := 1) rfl hT rfl rfl rfl rfl rfl rfl rfl rfl ?_; intro g6)
        refine ⟨sF, ?_⟩
        refine gb_only 4 (by decide +kernel) rfl rfl ?_
        refine mv_yd rfl (yd_load_blk hT rfl rfl mE rfl rfl) ?_
        refine ⟨sF, ?_⟩
        refine gb_only 12 (by decide +kernel) rfl rfl ?_
        refine mv_append rfl [k] rfl rfl rfl rfl elt_K (by intro _; first | ((repeat (first | with_reducible exact Upd.here _ | with_reducible apply Upd.there)); done) | ((repeat (first | exact Upd.here _ | apply Upd.there)); done) | fail) (src_blk mE rfl) rfl (by intro x j; rcases j with _ | _ | _ | j <;> rfl) (by simp only [maxLen, List.length_cons, List.length_nil]; omega) (by simp only [List.length_cons, List.length_nil]; omega) (Nat.zero_le _) (fun v1 => ?_)
        refine ⟨sF, ?_⟩
        (refine gb_ownv v1 mE (fun A1 c1 hv1 _ _ _ => ?_); subst hv1)
        refine gb_take 13 rfl (by decide +kernel) rfl rfl (ys_ev (nw := true) hT rfl sI) sF ?_
        refine gb_take 14 rfl (by decide +kernel) rfl rfl (ys_ev (nw := true) hT rfl sI) sF ?_
        refine gb_only 15 (by decide +kernel) rfl rfl ?_
        first | (refine mv_box rfl rfl rfl rfl ?_; intro _) | (refine mv_alloc rfl hT rfl rfl ?_; intro _) | refine mv_store hT rfl rfl rfl rfl rfl rfl sO rfl ?_ | (refine mv_buildSlice rfl hT rfl rfl rfl rfl rfl rfl rfl rfl ?_; intro _)
        refine ⟨sF, ?_⟩
        refine gb_nil (by decide +kernel) ?_
        exact ⟨.slice A1 (M ++ [k]).length c1, (by repeat (first | exact trivial | refine ⟨rfl, ?_⟩)), sA, sS⟩
      refine gball_not (by decide +kernel) ?_
      refine gball_not (by decide +kernel) ?_
      refine gball_not (by decide +kernel) ?_
      refine gball_not (by decide +kernel) ?_
      exact gball_end (by decide +kernel)
    · (repeat (refine gG ?_; try intro _))
      refine gk_again_sel rfl (j + 1, v, M ++ [k]) ⟨by omega, by
        rw [hM, List.take_succ_eq_append_getElem hjL, List.map_append]
        rw [List.getElem?_eq_getElem hjL] at hd
        injection hd with hd
        rw [hd]
        show _ = _ ++ [d.Ks.getD 0 default]
        rw [List.getD_eq_getElem?_getD, hk0]; rfl⟩ (by dsimp only; omega) (by repeat (first | exact trivial | refine ⟨rfl, ?_⟩)) sA sS
  · have hjn : j = ds.length := by omega
    (repeat (refine gG ?_; try intro _))
    refine gk_freeze _ (by intro _; first | ((repeat (first | with_reducible exact Upd.here _ | with_reducible apply Upd.there)); done) | ((repeat (first | exact Upd.here _ | apply Upd.there)); done) | fail) (fun A1 c1 hA1 hA11 hA12 hA13 => ?_); subst hA1
    refine gk_nilsl none 1 (IE .u32) ?_
    (repeat (refine gG ?_; try intro _))
    refine gk_ret hT rfl rfl (.tmp rfl .nil) (fun w' hk => ?_)
    exact Ret.mk ⟨g, false, ⟨A1, M.length, c1⟩, M, ⟨none, 0, 0⟩, [], cs, ds.map NodeD.g, 0⟩ ⟨⟨⟨rfl, hA11, hA12, hA13⟩, SlV.ok_nil, hcs⟩, rfl, by rw [hM, hjn, List.take_length], rfl, rfl, rfl⟩ rfl hk sA
end Go.Proofs.Ytahfjkibononfaa.Nd

