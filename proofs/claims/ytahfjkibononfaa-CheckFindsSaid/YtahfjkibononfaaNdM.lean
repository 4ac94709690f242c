/- slices.Delete at entries. -/
import Derived.Test.YtahfjkibononfaaNdL
namespace Go.Proofs.Ytahfjkibononfaa.Nd
open Go.RowKit Mem Gx
set_option linter.unusedVariables false
set_option linter.unusedSimpArgs false
set_option maxRecDepth 100000
set_option maxHeartbeats 4000000
theorem zero_E : ∃ u, (∀ w, (zeroValue 29).run Try.prog w = .ok u w) ∧ u.cells.size = 4 ∧ ∀ v ∈ u.cells, v.oneCell' = true := by
  have h : (Try.prog.info? 29).map (fun i => i.zero) = some (some (.agg #[.int .u16 0, .int .u32 0, .int .u64 0, .int .u32 0])) := by kernel_rfl
  refine ⟨.agg #[.int .u16 0, .int .u32 0, .int .u64 0, .int .u32 0], fun w => ?_, rfl, ?_⟩
  · cases hi : Try.prog.info? 29 with
    | none => rw [hi] at h; cases h
    | some i =>
      rw [hi] at h
      have hz : i.zero = some (.agg #[.int .u16 0, .int .u32 0, .int .u64 0, .int .u32 0]) := by simpa using h
      simp [zeroValue, typeInfo, hi, hz]
  · intro v hv
    simp [Value.cells] at hv
    rcases hv with h | h | h | h <;> (subst h; rfl)
theorem delete_any (base g n c : Nat) (L : List EntD) (i : Nat) (w : World) (h : OwnL w base 29 4 (.slice (some ⟨g, 0, none⟩) n c) EE L) (h9 : L.length ≤ 100000) (hi : i < L.length) :
    Calls Try.prog 62 [.slice (some ⟨g, 0, none⟩) n c, .int .i64 i, .int .i64 ((i : Int) + 1)].toArray w fun e w' => ∃ v', e = .returned v' ∧ OwnL w' base 29 4 v' EE (L.take i ++ L.drop (i + 1)) ∧ Grew w w' (.slice (some ⟨g, 0, none⟩) n c) v' := by
  have hnl : n = L.length ∧ n ≤ c := by
    obtain ⟨A', c', hv, _, h1, _⟩ := OwnL.sl h
    injection hv with e1 e2 e3
    exact ⟨e2, by omega⟩
  obtain ⟨hn, hnc⟩ := hnl
  refine g_enter0 T (ownE (.slice (some ⟨g, 0, none⟩) n c)) [own base 29 4 (.slice (some ⟨g, 0, none⟩) n c) EE L] [] Try.func62 rfl Try.ntmps62 rfl (Kn.startG h) ?_
  have e4 : flatF 4 EE L = flatF 4 EE (L.take i) ++ flatF 4 EE (L.drop i) := by rw [← flatF_append, List.take_append_drop]
  have lT : (flatF 4 EE (L.take i)).length = i * 4 := by rw [flatF_length, List.length_take, Nat.min_eq_left (by omega)]
  have lD : (flatF 4 EE (L.drop (i + 1))).length = (n - (i + 1)) * 4 := by rw [flatF_length, List.length_drop, hn]
  have eN : i + (n - (i + 1)) = n - 1 := by omega
  (repeat (refine gG ?_; try intro _))
  refine g_yd rfl rfl (Ys.yd (ys_slice_lhm hT i (i + 1) n rfl rfl rfl rfl rfl rfl rfl (by push_cast; rfl) rfl (by omega) (by omega) hnc)) ?_
  (repeat' (first | (refine gG ?_; try intro _) | ((first | refine g_split rfl rfl tE (fun _ => ?_) (fun _ => ?_) | refine gk_cond rfl rfl tE (fun _ => ?_) (fun _ => ?_)) <;> (try first | (exfalso; omega; done) | (rename_i hx; exact absurd rfl hx) | (rename_i hx; cases hx; done)))))
  refine gk_own_blk (α := EntD) (sz := 4) (enc := EE) (L := L) (by decide) (by intro _; first | ((repeat (first | with_reducible exact Upd.here _ | with_reducible apply Upd.there)); done) | ((repeat (first | exact Upd.here _ | apply Upd.there)); done) | fail) (fun rest hl0 _ _ hcm hbg => ?_)
  obtain ⟨o', ho', ho2⟩ := shA_any (g := g) (l := i + 1) (m := c) (s := 4)
  have hsrc : flatF 4 EE (L.drop (i + 1)) = ((flatF 4 EE L ++ rest).drop ((i + 1) * 4)).take ((n - (i + 1)) * 4) := by
    rw [List.drop_append_of_le_length (by rw [flatF_length]; omega), flatF_drop 4 EE L (i + 1) (by omega), List.take_left' lD]
  refine gk_any [] (Cut _ (fun _ : Unit => [(0, .slice (some ⟨g, 0, none⟩) (n - 1) c), (7, .int .i64 n)]) (fun _ => [blk g (lay (flatF 4 EE L ++ rest) (i * 4) (flatF 4 EE (L.drop (i + 1)))) 29]) (fun _ => [])) rfl rfl (by kernel_rfl) ?_ (cut_k fun _ => ?_)
  · skip
    refine gb_take 0 rfl (by decide +kernel) rfl rfl (ys_ev (nw := true) hT rfl sI) sF ?_
    refine gb_take 1 rfl (by decide +kernel) rfl rfl (ys_ev (nw := true) hT rfl sI) sF ?_
    refine gb_take 2 rfl (by decide +kernel) rfl rfl (ys_slice_h hT i rfl rfl rfl rfl rfl (by omega)) sF ?_
    try (refine gb_say 22 (.slice (some ⟨g, 0, none⟩) i c) rfl (by rw [shA_0]) ?_)
    refine gb_take 3 rfl (by decide +kernel) rfl rfl (ys_ev (nw := true) hT rfl sI) sF ?_
    refine gb_take 4 rfl (by decide +kernel) rfl rfl (ys_ev (nw := true) hT rfl sI) sF ?_
    refine gb_take 5 rfl (by decide +kernel) rfl rfl (ys_slice_l hT (i + 1) rfl rfl rfl rfl (by push_cast; rfl) (by omega)) sF ?_
    try (refine gb_say 25 (.slice (some ⟨g, o', none⟩) (n - (i + 1)) (c - (i + 1))) rfl (by rw [ho']) ?_)
    refine gb_only 6 (by decide +kernel) rfl rfl ?_
    refine mv_room rfl (flatF 4 EE (L.drop (i + 1))) rfl rfl rfl rfl elt_E (by first | ((repeat (first | with_reducible exact Upd.here _ | with_reducible apply Upd.there)); done) | ((repeat (first | exact Upd.here _ | apply Upd.there)); done) | fail) (by
        by_cases hc1 : c = i + 1
        · rw [show L.drop (i + 1) = [] from List.drop_of_length_le (by omega)]; exact srcc_nil
        · rw [ho2 hc1]; exact srcc_blk mE _ hsrc) lD (by omega) (by rw [lD, hl0]; omega) (flatF_one 4 EE oneE _) ?_
    refine ⟨sF, ?_⟩
    try (refine gb_say 26 (.slice (some ⟨g, 0, none⟩) (n - 1) c) rfl (by rw [eN]) ?_)
    refine gb_take 7 rfl (by decide +kernel) rfl rfl (ys_ev (nw := true) hT rfl sI) sF ?_
    refine gb_nil (by decide +kernel) ?_
    exact ⟨(), (by repeat (first | exact trivial | refine ⟨rfl, ?_⟩)), sA, sS⟩
  · (repeat (refine gG ?_; try intro _))
    refine g_yd rfl rfl (Ys.yd (ys_slice_lh hT (n - 1) n rfl rfl rfl rfl rfl rfl rfl (by omega) hnc)) ?_
    refine g_say 31 (.slice (some ⟨g, (n - 1) * 4, none⟩) (n - (n - 1)) (c - (n - 1))) rfl (by rw [shA_at (by omega)]) ?_
    (repeat (refine gG ?_; try intro _))
    have hll : (lay (flatF 4 EE L ++ rest) (i * 4) (flatF 4 EE (L.drop (i + 1)))).length = c * 4 := by rw [lay_len (by rw [lD, hl0]; omega), hl0]
    refine g_mv rfl (mv_clear rfl hT rfl rfl rfl rfl rfl zero_E (by intro _; first | ((repeat (first | with_reducible exact Upd.here _ | with_reducible apply Upd.there)); done) | ((repeat (first | exact Upd.here _ | apply Upd.there)); done) | fail) (by rw [hll]; omega) (fun vs hvs => ?_))
    (repeat (refine gG ?_; try intro _))
    refine gk_blk_own (sz := 4) (enc := EE) (n := n - 1) (c := c) (base := base) (L.take i ++ L.drop (i + 1)) (by decide) (by first | ((repeat (first | with_reducible exact Upd.here _ | with_reducible apply Upd.there)); done) | ((repeat (first | exact Upd.here _ | apply Upd.there)); done) | fail) (by rw [lay_len (by rw [hvs, hll]; omega), hll]) (by rw [List.length_append, List.length_take, List.length_drop]; omega) (by omega) hcm hbg ?_ ?_
    · rw [e4, List.append_assoc, lay_app _ _ _ lT.symm, lay_app _ _ _ (by rw [List.length_append, lT, lD]; omega), flatF_append, List.append_assoc (flatF 4 EE (L.take i) ++ flatF 4 EE (L.drop (i + 1)))]
      exact List.take_left' (by rw [List.length_append, lT, lD]; omega)
    · refine gk_ret hT rfl rfl (.tmp rfl .nil) (fun w' hk => ?_)
      obtain ⟨q1, q2⟩ := Kn.outG' (L := L.take i ++ L.drop (i + 1)) (base := base) (e := 29) (sz := 4) (enc := EE) (v := .slice (some ⟨g, 0, none⟩) n c) hk mE
      exact ⟨_, rfl, q1, q2⟩
end Go.Proofs.Ytahfjkibononfaa.Nd

