/- slices.Delete at entries. slices.Clone at nodes. node.Inner. -/
import Derived.Test.YtaghmffgoomebaaGreatNdL
import Derived.Test.YtaghmffgoomebaaGreatNd2
import Derived.Test.YtaghmffgoomebaaGreatNd3
namespace Go.Proofs.YtaghmffgoomebaaGreat.Nd
open Go.RowKit Mem Gx
set_option linter.unusedVariables false
set_option linter.unusedSimpArgs false
set_option maxRecDepth 100000
set_option maxHeartbeats 4000000
theorem zero_E : ∃ u, (∀ w, (zeroValue 31).run Tryz.prog w = .ok u w) ∧ u.cells.size = 4 ∧ ∀ v ∈ u.cells, v.oneCell' = true := by
  have h : (Tryz.prog.info? 31).map (fun i => i.zero) = some (some (.agg #[.int .u16 0, .int .u32 0, .int .u64 0, .int .u32 0])) := by kernel_rfl
  refine ⟨.agg #[.int .u16 0, .int .u32 0, .int .u64 0, .int .u32 0], fun w => ?_, rfl, ?_⟩
  · cases hi : Tryz.prog.info? 31 with
    | none => rw [hi] at h; cases h
    | some i =>
      rw [hi] at h
      have hz : i.zero = some (.agg #[.int .u16 0, .int .u32 0, .int .u64 0, .int .u32 0]) := by simpa using h
      simp [zeroValue, typeInfo, hi, hz]
  · intro v hv
    simp [Value.cells] at hv
    rcases hv with h | h | h | h <;> (subst h; rfl)
theorem delete_any (base g n c : Nat) (L : List EntD) (i : Nat) (w : World) (h : OwnL w base 31 4 (.slice (some ⟨g, 0, none⟩) n c) EE L) (h9 : L.length ≤ 100000) (hi : i < L.length) :
    Calls Tryz.prog 98 [.slice (some ⟨g, 0, none⟩) n c, .int .i64 i, .int .i64 ((i : Int) + 1)].toArray w fun e w' => ∃ v', e = .returned v' ∧ OwnL w' base 31 4 v' EE (L.take i ++ L.drop (i + 1)) ∧ Grew w w' (.slice (some ⟨g, 0, none⟩) n c) v' := by
  have hnl : n = L.length ∧ n ≤ c := by
    obtain ⟨A', c', hv, _, h1, _⟩ := OwnL.sl h
    injection hv with e1 e2 e3
    exact ⟨e2, by omega⟩
  obtain ⟨hn, hnc⟩ := hnl
  refine g_enter0 T (ownE (.slice (some ⟨g, 0, none⟩) n c)) [own base 31 4 (.slice (some ⟨g, 0, none⟩) n c) EE L] [] Tryz.func98 rfl Tryz.ntmps98 rfl (Kn.startG h) ?_
  have e4 : flatF 4 EE L = flatF 4 EE (L.take i) ++ flatF 4 EE (L.drop i) := by rw [← flatF_append, List.take_append_drop]
  have lT : (flatF 4 EE (L.take i)).length = i * 4 := by rw [flatF_length, List.length_take, Nat.min_eq_left (by omega)]
  have lD : (flatF 4 EE (L.drop (i + 1))).length = (n - (i + 1)) * 4 := by rw [flatF_length, List.length_drop, hn]
  have eN : i + (n - (i + 1)) = n - 1 := by omega
  (repeat (refine gG ?_; try intro _))
  refine g_yd rfl rfl (Ys.yd (ys_slice_lhm hT i (i + 1) n rfl rfl rfl rfl rfl rfl rfl (by push_cast; rfl) rfl (by omega) (by omega) hnc)) ?_
  (repeat' (first | (refine gG ?_; try intro _) | ((first | refine g_split rfl rfl tE (fun _ => ?_) (fun _ => ?_) | refine gk_cond rfl rfl tE (fun _ => ?_) (fun _ => ?_)) <;> (try first | (exfalso; omega; done) | (rename_i hx; exact absurd rfl hx) | (rename_i hx; cases hx; done)))))
  refine gk_own_blk (α := EntD) (sz := 4) (enc := EE) (L := L) (by decide) (by intro _; first | ((repeat (first | with_reducible exact Upd.here _ | with_reducible apply Upd.there)); done) | ((repeat (first | exact Upd.here _ | apply Upd.there)); done) | fail) (fun rest hl0 _ _ hcm hbg => ?_)
  obtain ⟨o', ho', ho2⟩ := shA_any (g := g) (l := i + 1) (m := c) (s := 4)
  have hsrc : flatF 4 EE (L.drop (i + 1)) = ((flatF 4 EE L ++ rest).drop ((i + 1) * 4)).take ((n - (i + 1)) * 4) := by
    rw [List.drop_append_of_le_length (by rw [flatF_length]; omega), flatF_drop 4 EE L (i + 1) (by omega), List.take_left' lD]
  refine gk_any [] (Cut _ (fun _ : Unit => [(0, .slice (some ⟨g, 0, none⟩) (n - 1) c), (7, .int .i64 n)]) (fun _ => [blk g (lay (flatF 4 EE L ++ rest) (i * 4) (flatF 4 EE (L.drop (i + 1)))) 31]) (fun _ => [])) rfl rfl (by kernel_rfl) ?_ (cut_k fun _ => ?_)
  · skip
    refine gb_take 0 rfl (by decide +kernel) rfl rfl (ys_ev (nw := true) hT rfl sI) sF ?_
    refine gb_take 1 rfl (by decide +kernel) rfl rfl (ys_ev (nw := true) hT rfl sI) sF ?_
    refine gb_take 2 rfl (by decide +kernel) rfl rfl (ys_slice_h hT i rfl rfl rfl rfl rfl (by omega)) sF ?_
    try (refine gb_say 22 (.slice (some ⟨g, 0, none⟩) i c) rfl (by rw [shA_0]) ?_)
    refine gb_take 3 rfl (by decide +kernel) rfl rfl (ys_ev (nw := true) hT rfl sI) sF ?_
    refine gb_take 4 rfl (by decide +kernel) rfl rfl (ys_ev (nw := true) hT rfl sI) sF ?_
    refine gb_take 5 rfl (by decide +kernel) rfl rfl (ys_slice_l hT (i + 1) rfl rfl rfl rfl (by push_cast; rfl) (by omega)) sF ?_
    try (refine gb_say 25 (.slice (some ⟨g, o', none⟩) (n - (i + 1)) (c - (i + 1))) rfl (by rw [ho']) ?_)
    refine gb_only 6 (by decide +kernel) rfl rfl ?_
    refine mv_room rfl (flatF 4 EE (L.drop (i + 1))) rfl rfl rfl rfl elt_E (by first | ((repeat (first | with_reducible exact Upd.here _ | with_reducible apply Upd.there)); done) | ((repeat (first | exact Upd.here _ | apply Upd.there)); done) | fail) (by
        by_cases hc1 : c = i + 1
        · rw [show L.drop (i + 1) = [] from List.drop_of_length_le (by omega)]; exact srcc_nil
        · rw [ho2 hc1]; exact srcc_blk mE _ hsrc) lD (by omega) (by rw [lD, hl0]; omega) (flatF_one 4 EE oneE _) ?_
    refine ⟨sF, ?_⟩
    try (refine gb_say 26 (.slice (some ⟨g, 0, none⟩) (n - 1) c) rfl (by rw [eN]) ?_)
    refine gb_take 7 rfl (by decide +kernel) rfl rfl (ys_ev (nw := true) hT rfl sI) sF ?_
    refine gb_nil (by decide +kernel) ?_
    exact ⟨(), (by repeat (first | exact trivial | refine ⟨rfl, ?_⟩)), sA, sS⟩
  · (repeat (refine gG ?_; try intro _))
    refine g_yd rfl rfl (Ys.yd (ys_slice_lh hT (n - 1) n rfl rfl rfl rfl rfl rfl rfl (by omega) hnc)) ?_
    refine g_say 31 (.slice (some ⟨g, (n - 1) * 4, none⟩) (n - (n - 1)) (c - (n - 1))) rfl (by rw [shA_at (by omega)]) ?_
    (repeat (refine gG ?_; try intro _))
    have hll : (lay (flatF 4 EE L ++ rest) (i * 4) (flatF 4 EE (L.drop (i + 1)))).length = c * 4 := by rw [lay_len (by rw [lD, hl0]; omega), hl0]
    refine g_mv rfl (mv_clear rfl hT rfl rfl rfl rfl rfl zero_E (by intro _; first | ((repeat (first | with_reducible exact Upd.here _ | with_reducible apply Upd.there)); done) | ((repeat (first | exact Upd.here _ | apply Upd.there)); done) | fail) (by rw [hll]; omega) (fun vs hvs => ?_))
    (repeat (refine gG ?_; try intro _))
    refine gk_blk_own (sz := 4) (enc := EE) (n := n - 1) (c := c) (base := base) (L.take i ++ L.drop (i + 1)) (by decide) (by first | ((repeat (first | with_reducible exact Upd.here _ | with_reducible apply Upd.there)); done) | ((repeat (first | exact Upd.here _ | apply Upd.there)); done) | fail) (by rw [lay_len (by rw [hvs, hll]; omega), hll]) (by rw [List.length_append, List.length_take, List.length_drop]; omega) (by omega) hcm hbg ?_ ?_
    · rw [e4, List.append_assoc, lay_app _ _ _ lT.symm, lay_app _ _ _ (by rw [List.length_append, lT, lD]; omega), flatF_append, List.append_assoc (flatF 4 EE (L.take i) ++ flatF 4 EE (L.drop (i + 1)))]
      exact List.take_left' (by rw [List.length_append, lT, lD]; omega)
    · refine gk_ret hT rfl rfl (.tmp rfl .nil) (fun w' hk => ?_)
      obtain ⟨q1, q2⟩ := Kn.outG' (L := L.take i ++ L.drop (i + 1)) (base := base) (e := 31) (sz := 4) (enc := EE) (v := .slice (some ⟨g, 0, none⟩) n c) hk mE
      exact ⟨_, rfl, q1, q2⟩
end Go.Proofs.YtaghmffgoomebaaGreat.Nd
namespace Go.Proofs.YtaghmffgoomebaaGreat.Nd
open Go.RowKit Mem Gx
set_option linter.unusedVariables false
set_option linter.unusedSimpArgs false
set_option maxRecDepth 100000
set_option maxHeartbeats 2000000
theorem elt_Pn : Elt Tryz.prog 107 53 1 8 := elt_P
theorem clone_Pn (A : Option Addr) (n c : Nat) (L : List Nat) (w : World) (hn : n = L.length) (hb : n ≤ 100000000) (hs : Sl w A 1 PE L) :
    Calls Tryz.prog 63 [.slice A n c].toArray w (Ret (fun s : SlV => s.Ok L.length) SlV.v (fun s => [sl s.A 1 PE L]) w) := by
  rcases A with _ | a
  · have hL : L = [] := by
      rcases Nat.eq_zero_or_pos L.length with h | h
      · exact List.length_eq_zero_iff.1 h
      · obtain ⟨b, off, e, _⟩ := hs h; cases e
    subst hL
    refine g_enter0 T [] [] [] Tryz.func63 rfl Tryz.ntmps63 rfl (Kn.start _) ?_
    (repeat (refine gG ?_; try intro _))
    refine gk_nilsl none 1 PE ?_
    refine gk_ret hT rfl rfl (.tmp rfl .nil) (fun w' hk => ?_)
    exact Ret.mk ⟨none, 0, 0⟩ ⟨rfl, Nat.le_refl _, Nat.zero_le _, fun _ => rfl⟩ rfl hk sA
  · refine g_enter0 T [] [] [sl (some a) 1 PE L] Tryz.func63 rfl Tryz.ntmps63 rfl ((Kn.start w).argR hs (by decide) (fun _ h => by cases h)) ?_
    (repeat (refine gG1 ?_; try intro _))
    refine g_mv rfl (mv_empty 1 PE rfl hT rfl rfl rfl rfl rfl (fun g => ?_))
    (repeat (refine gG1 ?_; try intro _))
    refine g_mv rfl (mv_append (L := []) rfl L rfl rfl rfl rfl elt_Pn (by intro _; first | ((repeat (first | with_reducible exact Upd.here _ | with_reducible apply Upd.there)); done) | ((repeat (first | exact Upd.here _ | apply Upd.there)); done) | fail) (src_R mE) hn (by intro x j; rfl) (by simp [maxLen]; omega) (by simp; omega) (Nat.zero_le _) (fun v => ?_))
    (repeat (refine gG1 ?_; try intro _))
    refine gk_freeze _ (by intro _; first | ((repeat (first | with_reducible exact Upd.here _ | with_reducible apply Upd.there)); done) | ((repeat (first | exact Upd.here _ | apply Upd.there)); done) | fail) (fun A2 c2 hA2 hA21 hA22 hA23 => ?_); subst hA2
    refine gk_ret hT rfl rfl (.tmp rfl .nil) (fun w' hk => ?_)
    exact Ret.mk ⟨A2, _, c2⟩ ⟨by simp, hA21, hA22, hA23⟩ rfl hk sA
end Go.Proofs.YtaghmffgoomebaaGreat.Nd
namespace Go.Proofs.YtaghmffgoomebaaGreat.Nd
open Go.RowKit Mem Gx
set_option linter.unusedVariables false
set_option linter.unusedSimpArgs false
set_option maxRecDepth 100000
set_option maxHeartbeats 4000000
/-- What of a kid is looked at: its block; its keys. -/
abbrev kidB (d : NodeD) : Fact := row d.g 0 [.bool d.leaf, d.K.v, d.V.v, d.C.v, .int .u32 d.a]
abbrev kidK (d : NodeD) : Fact := sl d.K.A 3 KE d.Ks
structure IsInner (ds : List NodeD) (d : NodeD) : Prop where
  ok : d.Ok
  leaf : d.leaf = false
  Ks : d.Ks = ds.map (fun x => x.Ks.getD 0 default)
  Vs : d.Vs = []
  Cs : d.Cs = ds.map NodeD.g
  a : d.a = 0
structure IsInnerW (ds : List NodeD) (d : NodeD) : Prop where
  ok : d.Ok
  leaf : d.leaf = false
  Ks : d.Ks = ds.map (fun x => x.Ks.getD 0 default)
  Vs : d.Vs = []
  Cs : d.Cs = ds.map NodeD.g
theorem IsInner.w {ds : List NodeD} {d : NodeD} (h : IsInner ds d) : IsInnerW ds d := ⟨h.ok, h.leaf, h.Ks, h.Vs, h.Cs⟩
theorem inner_any (A : Option Addr) (n c : Nat) (ds : List NodeD) (w : World) (hn : n = ds.length) (h9 : n ≤ 1000) (hne : ∀ d ∈ ds, 0 < d.Ks.length ∧ d.Ok) (hB : Rds w [allF ds kidB, allF ds kidK, sl A 1 PE (ds.map NodeD.g)]) :
    Calls Tryz.prog 64 [.slice A n c].toArray w (Ret (IsInner ds) NodeD.ptr NodeD.fs w) := by
  refine g_enter0 T [] [] [allF ds kidB, allF ds kidK, sl A 1 PE (ds.map NodeD.g)] Tryz.func64 rfl Tryz.ntmps64 rfl hB.kn ?_
  (repeat (refine gG ?_; try intro _))
  refine g_mv rfl ?_; refine mv_call_rt (fun w hk => clone_Pn A n c (ds.map NodeD.g) w (by rw [List.length_map]; exact hn) (by omega) (hk.pR (sl A 1 PE (ds.map NodeD.g)) mE)) rfl rfl rfl rfl rfl (by kernel_rfl) (fun _ => rfl) (fun cs hcs => ?_)
  (repeat (refine gG ?_; try intro _))
  rename_i g
  refine gk_own 0 29 3 KE ?_
  refine gk_loop_sel (fun (q : Nat × Value × (List KeyD)) => match q with | (j, a, M) => j ≤ ds.length ∧ M = (ds.take j).map (fun x => x.Ks.getD 0 default)) (fun (q : Nat × Value × (List KeyD)) => match q with | (j, a, M) => [(3, .pointer (some ⟨g, 0, none⟩)), (10, .slice A n c), (11, .int .i64 n), (12, .int .i64 j)]) (fun (q : Nat × Value × (List KeyD)) => match q with | (j, a, M) => [own 0 29 3 a KE M, blk g [.bool false, a, .slice none 0 0, cs.v, .int .u32 0] 109, sl cs.A 1 PE (ds.map NodeD.g)]) (fun (q : Nat × Value × (List KeyD)) => match q with | (j, a, M) => [allF ds kidB, allF ds kidK, sl A 1 PE (ds.map NodeD.g)]) (fun (q : Nat × Value × (List KeyD)) => match q with | (j, a, M) => ds.length - j) (0, .slice none 0 0, []) rfl ⟨Nat.zero_le _, rfl⟩ (by repeat (first | exact trivial | refine ⟨rfl, ?_⟩)) sA sS ?_
  rintro ⟨j, a, M⟩ hI
  replace hI : j ≤ ds.length ∧ M = (ds.take j).map (fun x => x.Ks.getD 0 default) := hI
  change GK _ _ [(3, .pointer (some ⟨g, 0, none⟩)), (10, .slice A n c), (11, .int .i64 n), (12, .int .i64 j)] [own 0 29 3 a KE M, blk g [.bool false, a, .slice none 0 0, cs.v, .int .u32 0] 109, sl cs.A 1 PE (ds.map NodeD.g)] [allF ds kidB, allF ds kidK, sl A 1 PE (ds.map NodeD.g)]
  obtain ⟨hj, hM⟩ := hI
  have hMl : M.length = j := by rw [hM, List.length_map, List.length_take]; omega
  (repeat (refine gG ?_; try intro _))
  refine gk_cond rfl rfl (tells_tB _) (fun h1 => ?_) (fun h1 => ?_)
  · have hjL : j < ds.length := by omega
    obtain ⟨d, hd⟩ : ∃ d, ds[j]? = some d := ⟨ds[j], List.getElem?_eq_getElem hjL⟩
    have hdm := List.mem_of_getElem? hd
    refine gk_allR (l := ds) (F := kidB) (x := d) mE hdm ?_
    refine gk_allR (l := ds) (F := kidK) (x := d) mE hdm ?_
    refine gk_elem (enc := PE) (L := ds.map NodeD.g) j mE (by rw [List.length_map]; omega) (by decide) (fun b0 off y eA hy => ?_)
    subst eA
    obtain rfl : d.g = y := by
      rw [List.getElem?_map, hd] at hy
      exact Option.some.inj hy
    have hd0 : 0 < d.K.n := by rw [(hne d hdm).2.K.n]; exact (hne d hdm).1
    refine gk_elem (enc := KE) (L := d.Ks) 0 mE (hne d hdm).1 (by decide) (fun b1 o1 k eA hk0 => ?_)
    (repeat (refine gG ?_; try intro _))
    refine gk_any [3, 6] (Cut _ (fun v : Value => [(3, .pointer (some ⟨g, 0, none⟩)), (10, .slice (some ⟨b0, off, none⟩) n c), (11, .int .i64 n), (12, .int .i64 j)]) (fun v => [own 0 29 3 v KE (M ++ [k]), blk g [.bool false, v, .slice none 0 0, cs.v, .int .u32 0] 109, sl cs.A 1 PE (ds.map NodeD.g)]) (fun _ => [allF ds kidB, allF ds kidK, sl (some ⟨b0, off, none⟩) 1 PE (ds.map NodeD.g)])) rfl rfl (by kernel_rfl) ?_ (cut_k fun v => ?_)
    · skip
      refine gb_take 0 rfl (by decide +kernel) rfl rfl (ys_ev (nw := true) hT rfl sI) sF ?_
      refine gb_take 1 rfl (by decide +kernel) rfl rfl (ys_ev (nw := true) hT rfl sI) sF ?_
      refine gb_take 2 rfl (by decide +kernel) rfl rfl (ys_ev (nw := true) hT rfl sI) sF ?_
      refine gb_take 3 rfl (by decide +kernel) rfl rfl (ys_ev (nw := true) hT rfl sI) sF ?_
      refine gb_take 5 rfl (by decide +kernel) rfl rfl (ys_ev (nw := true) hT rfl sI) sF ?_
      refine gb_take 6 rfl (by decide +kernel) rfl rfl (ys_ev (nw := true) hT rfl sI) sF ?_
      refine gb_take 7 rfl (by decide +kernel) rfl rfl (ys_ev (nw := true) hT rfl sI) sF ?_
      refine gb_take 8 rfl (by decide +kernel) rfl rfl (by first | exact ys_blk hT rfl rfl mE rfl rfl | exact ys_row hT rfl rfl mE rfl rfl | exact ys_row0 hT rfl rfl mE rfl rfl) sF ?_
      try (refine gb_say 24 (.slice (some ⟨b1, o1, none⟩) d.K.n d.K.c) rfl (by show d.K.v = _; unfold SlV.v; rw [eA]) ?_)
      refine gb_take 9 rfl (by decide +kernel) rfl rfl (ys_ev (nw := true) hT rfl sI) sF ?_
      refine gb_take 10 rfl (by decide +kernel) rfl rfl (by first | exact ys_blk hT rfl rfl mE rfl rfl | exact ys_row hT rfl rfl mE rfl rfl | exact ys_row0 hT rfl rfl mE rfl rfl) sF ?_
      refine gb_all (by decide +kernel) ?_
      refine gball_not (by decide +kernel) ?_
      refine gball_not (by decide +kernel) ?_
      refine gball_not (by decide +kernel) ?_
      refine gball_not (by decide +kernel) ?_
      refine gball_yes rfl rfl ?_ ?_
      · refine mv_yd rfl (yd_load_blk hT rfl rfl mE rfl rfl) ?_
        refine ⟨sF, ?_⟩
        refine gb_only 11 (by decide +kernel) rfl rfl ?_
        (refine mv_buildSlice (len := 1) rfl hT rfl rfl rfl rfl rfl rfl rfl rfl ?_; intro g6)
        refine ⟨sF, ?_⟩
        refine gb_only 12 (by decide +kernel) rfl rfl ?_
        refine mv_append rfl [k] rfl rfl rfl rfl elt_K (by intro _; first | ((repeat (first | with_reducible exact Upd.here _ | with_reducible apply Upd.there)); done) | ((repeat (first | exact Upd.here _ | apply Upd.there)); done) | fail) (src_blk mE rfl) rfl (by intro x j; rcases j with _ | _ | _ | j <;> rfl) (by simp only [maxLen, List.length_cons, List.length_nil]; omega) (by simp only [List.length_cons, List.length_nil]; omega) (Nat.zero_le _) (fun v1 => ?_)
        refine ⟨sF, ?_⟩
        (refine gb_ownv v1 mE (fun A1 c1 hv1 _ _ _ => ?_); subst hv1)
        refine gb_take 13 rfl (by decide +kernel) rfl rfl (ys_ev (nw := true) hT rfl sI) sF ?_
        refine gb_take 14 rfl (by decide +kernel) rfl rfl (ys_ev (nw := true) hT rfl sI) sF ?_
        refine gb_only 15 (by decide +kernel) rfl rfl ?_
        first | (refine mv_box rfl rfl rfl rfl ?_; intro _) | (refine mv_alloc rfl hT rfl rfl ?_; intro _) | refine mv_store hT rfl rfl rfl rfl rfl rfl sO rfl ?_ | (refine mv_buildSlice rfl hT rfl rfl rfl rfl rfl rfl rfl rfl ?_; intro _)
        refine ⟨sF, ?_⟩
        refine gb_nil (by decide +kernel) ?_
        exact ⟨.slice A1 (M ++ [k]).length c1, (by repeat (first | exact trivial | refine ⟨rfl, ?_⟩)), sA, sS⟩
      refine gball_not (by decide +kernel) ?_
      refine gball_not (by decide +kernel) ?_
      refine gball_not (by decide +kernel) ?_
      refine gball_not (by decide +kernel) ?_
      refine gball_not (by decide +kernel) ?_
      refine gball_not (by decide +kernel) ?_
      refine gball_yes rfl rfl ?_ ?_
      · (refine mv_buildSlice (len := 1) rfl hT rfl rfl rfl rfl rfl rfl rfl rfl ?_; intro g6)
        refine ⟨sF, ?_⟩
        refine gb_only 4 (by decide +kernel) rfl rfl ?_
        refine mv_yd rfl (yd_load_blk hT rfl rfl mE rfl rfl) ?_
        refine ⟨sF, ?_⟩
        refine gb_only 12 (by decide +kernel) rfl rfl ?_
        refine mv_append rfl [k] rfl rfl rfl rfl elt_K (by intro _; first | ((repeat (first | with_reducible exact Upd.here _ | with_reducible apply Upd.there)); done) | ((repeat (first | exact Upd.here _ | apply Upd.there)); done) | fail) (src_blk mE rfl) rfl (by intro x j; rcases j with _ | _ | _ | j <;> rfl) (by simp only [maxLen, List.length_cons, List.length_nil]; omega) (by simp only [List.length_cons, List.length_nil]; omega) (Nat.zero_le _) (fun v1 => ?_)
        refine ⟨sF, ?_⟩
        (refine gb_ownv v1 mE (fun A1 c1 hv1 _ _ _ => ?_); subst hv1)
        refine gb_take 13 rfl (by decide +kernel) rfl rfl (ys_ev (nw := true) hT rfl sI) sF ?_
        refine gb_take 14 rfl (by decide +kernel) rfl rfl (ys_ev (nw := true) hT rfl sI) sF ?_
        refine gb_only 15 (by decide +kernel) rfl rfl ?_
        first | (refine mv_box rfl rfl rfl rfl ?_; intro _) | (refine mv_alloc rfl hT rfl rfl ?_; intro _) | refine mv_store hT rfl rfl rfl rfl rfl rfl sO rfl ?_ | (refine mv_buildSlice rfl hT rfl rfl rfl rfl rfl rfl rfl rfl ?_; intro _)
        refine ⟨sF, ?_⟩
        refine gb_nil (by decide +kernel) ?_
        exact ⟨.slice A1 (M ++ [k]).length c1, (by repeat (first | exact trivial | refine ⟨rfl, ?_⟩)), sA, sS⟩
      refine gball_not (by decide +kernel) ?_
      refine gball_not (by decide +kernel) ?_
      refine gball_not (by decide +kernel) ?_
      refine gball_not (by decide +kernel) ?_
      exact gball_end (by decide +kernel)
    · (repeat (refine gG ?_; try intro _))
      refine gk_again_sel rfl (j + 1, v, M ++ [k]) ⟨by omega, by
        rw [hM, List.take_succ_eq_append_getElem hjL, List.map_append]
        rw [List.getElem?_eq_getElem hjL] at hd
        injection hd with hd
        rw [hd]
        show _ = _ ++ [d.Ks.getD 0 default]
        rw [List.getD_eq_getElem?_getD, hk0]; rfl⟩ (by dsimp only; omega) (by repeat (first | exact trivial | refine ⟨rfl, ?_⟩)) sA sS
  · have hjn : j = ds.length := by omega
    (repeat (refine gG ?_; try intro _))
    refine gk_freeze _ (by intro _; first | ((repeat (first | with_reducible exact Upd.here _ | with_reducible apply Upd.there)); done) | ((repeat (first | exact Upd.here _ | apply Upd.there)); done) | fail) (fun A1 c1 hA1 hA11 hA12 hA13 => ?_); subst hA1
    refine gk_nilsl none 1 (IE .u32) ?_
    (repeat (refine gG ?_; try intro _))
    refine gk_ret hT rfl rfl (.tmp rfl .nil) (fun w' hk => ?_)
    exact Ret.mk ⟨g, false, ⟨A1, M.length, c1⟩, M, ⟨none, 0, 0⟩, [], cs, ds.map NodeD.g, 0⟩ ⟨⟨⟨rfl, hA11, hA12, hA13⟩, SlV.ok_nil, hcs⟩, rfl, by rw [hM, hjn, List.take_length], rfl, rfl, rfl⟩ rfl hk sA
end Go.Proofs.YtaghmffgoomebaaGreat.Nd
