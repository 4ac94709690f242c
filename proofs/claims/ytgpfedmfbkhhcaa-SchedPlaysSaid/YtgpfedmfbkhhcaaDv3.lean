/- Rows of timers, as container/heap has them: Len, Less, SwapS. -/
import Derived.Test.YtgpfedmfbkhhcaaDu2
namespace Go.Proofs.Ytgpfedmfbkhhcaa.Dv
open Go.RowKit Mem Gx Hp Du
set_option linter.unusedVariables false
set_option linter.unusedSimpArgs false
set_option maxRecDepth 100000
set_option maxHeartbeats 1000000
theorem elt_T : Elt Try.prog 25 87 3 24 := Elt.mk' (z := .agg #[.int .u64 0, .int .i64 0, .int .i64 0]) Try.underlying25 (by kernel_rfl) rfl (by decide)
theorem oneT : ∀ (x : Tim) (j : Nat), (TE x j).oneCell' = true := fun x j => by match j with | 0 => rfl | 1 => rfl | _ + 2 => rfl
theorem z_int : ∀ w, (zeroValue 3).run Try.prog w = .ok (.int .i64 0) w := fun w => by kernel_rfl
/-- The row in its block, its timers, and where each stands. -/
abbrev duL (g r : Nat) (ru nw : Value) (v : Value) (L : List Tim) : List Fact := [blk g [ru, v, .map (some r), nw] 33, own 0 87 3 v TE L, mpx r L]
abbrev duF (g r : Nat) (ru nw : Value) (v : Value) (L : List Tim) : Fact := packF (duL g r ru nw v L)
theorem du_fin (g r : Nat) (ru nw : Value) (v : Value) (L : List Tim) : ∀ b, (duF g r ru nw v L).S b ↔ b ∈ (g :: ownE v) ++ [r] := fun b => by
  constructor
  · rintro ⟨φ, hφ, hb⟩
    rcases List.mem_cons.1 hφ with rfl | hφ
    · have : b = g := hb
      rw [this]
      exact List.mem_append_left _ (.head _)
    · rcases List.mem_cons.1 hφ with rfl | hφ
      · exact List.mem_append_left _ (.tail _ (ownE_mem.2 hb))
      · obtain rfl := List.mem_singleton.1 hφ
        have : b = r := hb
        rw [this]
        exact List.mem_append_right _ (.head _)
  · intro hb
    rcases List.mem_append.1 hb with hb | hb
    · rcases List.mem_cons.1 hb with rfl | hb
      · exact ⟨_, .head _, rfl⟩
      · exact ⟨_, .tail _ (.head _), ownE_mem.1 hb⟩
    · obtain rfl := List.mem_singleton.1 hb
      exact ⟨_, .tail _ (.tail _ (.head _)), rfl⟩
abbrev rowP (g : Nat) : Value := .pointer (some ⟨g, 1, none⟩)
theorem rowS {w : World} {g : Nat} {a : Value} {cs : List Value} (h : Rd1 w (row g 0 (a :: cs))) : Rd1 w (row g 1 cs) := ⟨fun i v hv => by
  have := h.1 (i + 1) v hv
  rwa [show 0 + (i + 1) = 1 + i by omega] at this, h.2⟩
theorem rlen_any (g r : Nat) (ru nw : Value) (v : Value) (L : List Tim) (w : World) (h : Rd1 w (duF g r ru nw v L)) :
    Calls Try.prog 119 [rowP g].toArray w fun e w' => e = .returned (.int .i64 (L.length : Int)) ∧ Below w.heap.size w w' := by
  obtain ⟨A, c, hv, hc, hm, hA, hs⟩ := own_rdv (h.unpack (.tail _ (.head _)))
  subst hv
  have hb : Rd1 w (blk g [ru, (Value.slice A L.length c), .map (some r), nw] 33) := h.unpack (.head _)
  refine g_enter0 T [] [] [row g 1 [(Value.slice A L.length c), .map (some r), nw]] Try.func119 rfl Try.ntmps119 rfl (Rds.cons (rowS hb.row) .nil).kn ?_
  (repeat' (first | (refine gG ?_; try intro _) | ((first | refine g_split rfl rfl tE (fun _ => ?_) (fun _ => ?_) | refine gk_cond rfl rfl tE (fun _ => ?_) (fun _ => ?_)) <;> (try first | (exfalso; omega; done) | (rename_i hx; exact absurd rfl hx) | (rename_i hx; cases hx; done)))))
  refine gk_ret hT rfl rfl (.tmp rfl .nil) (fun w' hk => ?_)
  exact ⟨rfl, hk.toBelow⟩
theorem rless_any (g r : Nat) (ru nw : Value) (v : Value) (L : List Tim) (i j : Nat) (x y : Tim) (w : World) (hx : L[i]? = some x) (hy : L[j]? = some y) (h : Rd1 w (duF g r ru nw v L)) :
    Calls Try.prog 120 [rowP g, .int .i64 (i : Int), .int .i64 (j : Int)].toArray w fun e w' => e = .returned (.bool (tB (ltT x y))) ∧ Below w.heap.size w w' := by
  have hi := (List.getElem?_eq_some_iff.1 hx).1
  have hj := (List.getElem?_eq_some_iff.1 hy).1
  obtain ⟨A, c, hv, hc, hm, hA, hs⟩ := own_rdv (h.unpack (.tail _ (.head _)))
  subst hv
  have hb : Rd1 w (blk g [ru, (Value.slice A L.length c), .map (some r), nw] 33) := h.unpack (.head _)
  refine g_enter0 T [] [] [row g 1 [(Value.slice A L.length c), .map (some r), nw], sl A 3 TE L] Try.func120 rfl Try.ntmps120 rfl (Rds.cons (rowS hb.row) (.cons hs .nil)).kn ?_
  refine gk_elem (enc := TE) (L := L) i mE hi (by decide) (fun b o z eA hz => ?_)
  obtain rfl : x = z := by rw [hx] at hz; exact Option.some.inj hz
  refine gk_elem (enc := TE) (L := L) j mE hj (by decide) (fun b2 o2 z eA2 hz2 => ?_)
  obtain rfl : y = z := by rw [hy] at hz2; exact Option.some.inj hz2
  rw [eA] at eA2
  injection eA2 with e3
  injection e3 with e4 e5
  subst e4
  subst e5
  subst eA
  (repeat (refine gG ?_; try intro _))
  refine gk_any [0, 1, 2] (Cut _ (fun _ : Unit => [(6, .bool (tB (ltT x y)))]) (fun _ => []) (fun _ => [])) rfl rfl (by kernel_rfl) ?_ (cut_k fun _ => ?_)
  · skip
    refine gb_take 0 rfl (by decide +kernel) rfl rfl (ys_ev (nw := true) hT rfl sI) sF ?_
    refine gb_take 1 rfl (by decide +kernel) rfl rfl (ys_ev (nw := true) hT rfl sI) sF ?_
    refine gb_take 2 rfl (by decide +kernel) rfl rfl (ys_ev (nw := true) hT rfl sI) sF ?_
    refine gb_take 3 rfl (by decide +kernel) rfl rfl (by first | exact ys_blk hT rfl rfl mE rfl rfl | exact ys_row hT rfl rfl mE rfl rfl | exact ys_row0 hT rfl rfl mE rfl rfl) sF ?_
    refine gb_take 4 rfl (by decide +kernel) rfl rfl (ys_ev (nw := true) hT rfl sI) sF ?_
    refine gb_take 5 rfl (by decide +kernel) rfl rfl (ys_ev (nw := true) hT rfl sI) sF ?_
    refine gb_take 6 rfl (by decide +kernel) rfl rfl (by first | exact ys_blk hT rfl rfl mE rfl rfl | exact ys_row hT rfl rfl mE rfl rfl | exact ys_row0 hT rfl rfl mE rfl rfl) sF ?_
    refine gb_take 7 rfl (by decide +kernel) rfl rfl (ys_ev (nw := true) hT rfl sI) sF ?_
    refine gb_take 8 rfl (by decide +kernel) rfl rfl (ys_ev (nw := true) hT rfl sI) sF ?_
    refine gb_take 9 rfl (by decide +kernel) rfl rfl (ys_ev (nw := true) hT rfl sI) sF ?_
    refine gb_take 10 rfl (by decide +kernel) rfl rfl (by first | exact ys_blk hT rfl rfl mE rfl rfl | exact ys_row hT rfl rfl mE rfl rfl | exact ys_row0 hT rfl rfl mE rfl rfl) sF ?_
    refine gb_take 11 rfl (by decide +kernel) rfl rfl (ys_ev (nw := true) hT rfl sI) sF ?_
    refine gb_take 12 rfl (by decide +kernel) rfl rfl (ys_ev (nw := true) hT rfl sI) sF ?_
    refine gb_take 13 rfl (by decide +kernel) rfl rfl (by first | exact ys_blk hT rfl rfl mE rfl rfl | exact ys_row hT rfl rfl mE rfl rfl | exact ys_row0 hT rfl rfl mE rfl rfl) sF ?_
    refine gb_only 14 (by decide +kernel) rfl rfl ?_
    refine mv_call_bel (fun w hk => dcmp_any x y w) rfl rfl rfl rfl rfl (by kernel_rfl) ?_
    refine ⟨sF, ?_⟩
    refine gb_take 15 rfl (by decide +kernel) rfl rfl (ys_ev (nw := true) hT rfl sI) sF ?_
    refine gb_take 16 rfl (by decide +kernel) rfl rfl (ys_ev (nw := true) hT rfl sI) sF ?_
    refine gb_nil (by decide +kernel) ?_
    exact ⟨(), (by repeat (first | exact trivial | refine ⟨rfl, ?_⟩)), sA, sS⟩
  · (repeat (refine gG ?_; try intro _))
    refine gk_ret hT rfl rfl (.tmp rfl .nil) (fun w' hk => ?_)
    exact ⟨rfl, hk.toBelow⟩
theorem rswap_any (g r : Nat) (ru nw : Value) (v : Value) (L : List Tim) (i j : Nat) (x y : Tim) (w : World) (hn : Keys L) (hx : L[i]? = some x) (hy : L[j]? = some y) (h : Rd1 w (duF g r ru nw v L)) :
    Calls Try.prog 123 [rowP g, .int .i64 (i : Int), .int .i64 (j : Int)].toArray w (RetM (duF g r ru nw v L) (fun _ : Value => True) (fun v => v) (fun _ => duF g r ru nw v (swp L i j x y)) w) := by
  have hi := (List.getElem?_eq_some_iff.1 hx).1
  have hj := (List.getElem?_eq_some_iff.1 hy).1
  obtain ⟨b, c, hv, hc, hm⟩ := own_at0 (h.unpack (.tail _ (.head _))).1 (by omega)
  subst hv
  have hy2 : (L.set i y)[j]? = some y := by
    by_cases e : i = j
    · subst e; simp [hi]
    · rw [List.getElem?_set_ne e]; exact hy
  have hsl : (swp L i j x y).length = L.length := swp_len
  have hgi : (swp L i j x y)[i]? = some y := by
    rw [swp_get hi hj]
    by_cases e : i = j
    · subst e; rw [hx] at hy; rw [if_pos rfl]; exact hy
    · rw [if_neg e, if_pos rfl]
  have hgj : (swp L i j x y)[j]? = some x := by rw [swp_get hi hj, if_pos rfl]
  refine g_enter0 T _ (duL g r ru nw _ L) [] Try.func123 rfl Try.ntmps123 rfl (Kn.startP h (fun b hb => (du_fin g r ru nw _ L b).1 hb) (fun _ h => by cases h)) ?_
  refine gk_any [0, 2] (Cut _ (fun _ : Unit => [(0, rowP g), (1, .int .i64 (i : Int)), (2, .int .i64 (j : Int))]) (fun _ => [blk g [ru, (.slice (some ⟨b, 0, none⟩) L.length c), .map (some r), nw] 33, own 0 87 3 (.slice (some ⟨b, 0, none⟩) L.length c) TE (swp L i j x y), mpx r L]) (fun _ => [])) rfl rfl (by kernel_rfl) ?_ (cut_k fun _ => ?_)
  · skip
    refine gb_take 0 rfl (by decide +kernel) rfl rfl (ys_ev (nw := true) hT rfl sI) sF ?_
    refine gb_take 1 rfl (by decide +kernel) rfl rfl (ys_ev (nw := true) hT rfl sI) sF ?_
    refine gb_take 2 rfl (by decide +kernel) rfl rfl (ys_ev (nw := true) hT rfl sI) sF ?_
    refine gb_take 3 rfl (by decide +kernel) rfl rfl (by first | exact ys_blk hT rfl rfl mE rfl rfl | exact ys_row hT rfl rfl mE rfl rfl | exact ys_row0 hT rfl rfl mE rfl rfl) sF ?_
    refine gb_take 4 rfl (by decide +kernel) rfl rfl (ys_ev (nw := true) hT rfl sI) sF ?_
    refine gb_take 5 rfl (by decide +kernel) rfl rfl (ys_ev (nw := true) hT rfl sI) sF ?_
    refine gb_take 6 rfl (by decide +kernel) rfl rfl (ys_ev (nw := true) hT rfl sI) sF ?_
    refine gb_take 7 rfl (by decide +kernel) rfl rfl (ys_ev (nw := true) hT rfl sI) sF ?_
    refine gb_take 8 rfl (by decide +kernel) rfl rfl (by first | exact ys_blk hT rfl rfl mE rfl rfl | exact ys_row hT rfl rfl mE rfl rfl | exact ys_row0 hT rfl rfl mE rfl rfl) sF ?_
    refine gb_take 9 rfl (by decide +kernel) rfl rfl (ys_ev (nw := true) hT rfl sI) sF ?_
    refine gb_take 10 rfl (by decide +kernel) rfl rfl (ys_ev (nw := true) hT rfl sI) sF ?_
    refine gb_take 11 rfl (by decide +kernel) rfl rfl (ys_ev (nw := true) hT rfl sI) sF ?_
    refine gb_take 12 rfl (by decide +kernel) rfl rfl (ys_ev (nw := true) hT rfl sI) sF ?_
    refine gb_take 13 rfl (by decide +kernel) rfl rfl (by first | exact ys_blk hT rfl rfl mE rfl rfl | exact ys_row hT rfl rfl mE rfl rfl | exact ys_row0 hT rfl rfl mE rfl rfl) sF ?_
    refine gb_take 14 rfl (by decide +kernel) rfl rfl (ys_ev (nw := true) hT rfl sI) sF ?_
    refine gb_take 15 rfl (by decide +kernel) rfl rfl (ys_ev (nw := true) hT rfl sI) sF ?_
    refine gb_take 17 rfl (by decide +kernel) rfl rfl (ys_ev (nw := true) hT rfl sI) sF ?_
    refine gb_take 18 rfl (by decide +kernel) rfl rfl (ys_ev (nw := true) hT rfl sI) sF ?_
    refine gb_take 19 rfl (by decide +kernel) rfl rfl (ys_ev (nw := true) hT rfl sI) sF ?_
    refine gb_take 20 rfl (by decide +kernel) rfl rfl (by first | exact ys_blk hT rfl rfl mE rfl rfl | exact ys_row hT rfl rfl mE rfl rfl | exact ys_row0 hT rfl rfl mE rfl rfl) sF ?_
    refine gb_take 21 rfl (by decide +kernel) rfl rfl (ys_ev (nw := true) hT rfl sI) sF ?_
    refine gb_take 22 rfl (by decide +kernel) rfl rfl (ys_ev (nw := true) hT rfl sI) sF ?_
    refine gb_all (by decide +kernel) ?_
    refine gball_not (by decide +kernel) ?_
    refine gball_not (by decide +kernel) ?_
    refine gball_not (by decide +kernel) ?_
    refine gball_not (by decide +kernel) ?_
    refine gball_not (by decide +kernel) ?_
    refine gball_not (by decide +kernel) ?_
    refine gball_not (by decide +kernel) ?_
    refine gball_not (by decide +kernel) ?_
    refine gball_not (by decide +kernel) ?_
    refine gball_not (by decide +kernel) ?_
    refine gball_not (by decide +kernel) ?_
    refine gball_not (by decide +kernel) ?_
    refine gball_not (by decide +kernel) ?_
    refine gball_not (by decide +kernel) ?_
    refine gball_not (by decide +kernel) ?_
    refine gball_not (by decide +kernel) ?_
    refine gball_yes rfl rfl ?_ ?_
    · refine mv_yd rfl ((ys_load_el (S := [own 0 87 3 (.slice (some ⟨b, 0, none⟩) L.length c) TE L]) (o0 := 0) (sz := 3) (enc := TE) (L := L) hT j y 0 rfl rfl rfl rfl hy (at_own mE) rfl rfl).ydS sF) ?_
      refine ⟨sF, ?_⟩
      refine gb_only 23 (by decide +kernel) rfl rfl ?_
      refine mv_yd rfl ((ys_load_el (S := [own 0 87 3 (.slice (some ⟨b, 0, none⟩) L.length c) TE L]) (o0 := 0) (sz := 3) (enc := TE) (L := L) hT i x 0 rfl rfl rfl rfl hx (at_own mE) rfl rfl).ydS sF) ?_
      refine ⟨sF, ?_⟩
      refine gb_take 24 rfl (by decide +kernel) rfl rfl (ys_ev (nw := true) hT rfl sI) sF ?_
      refine gb_only 25 (by decide +kernel) rfl rfl ?_
      refine mv_store_ownW hT i x y rfl rfl (by show 0 + i * 3 = i * 3; omega) rfl rfl rfl rfl hx (by decide) (by first | ((repeat (first | with_reducible exact Upd.here _ | with_reducible apply Upd.there)); done) | ((repeat (first | exact Upd.here _ | apply Upd.there)); done) | fail) rfl ?_
      refine ⟨sF, ?_⟩
      refine gb_take 26 rfl (by decide +kernel) rfl rfl (ys_ev (nw := true) hT rfl sI) sF ?_
      refine gb_only 27 (by decide +kernel) rfl rfl ?_
      refine mv_store_ownW hT j y x rfl rfl (by show 0 + j * 3 = j * 3; omega) rfl rfl rfl rfl hy2 (by decide) (by first | ((repeat (first | with_reducible exact Upd.here _ | with_reducible apply Upd.there)); done) | ((repeat (first | exact Upd.here _ | apply Upd.there)); done) | fail) rfl ?_
      refine ⟨sF, ?_⟩
      refine gb_nil (by decide +kernel) ?_
      exact ⟨(), (by repeat (first | exact trivial | refine ⟨rfl, ?_⟩)), sA, sS⟩
    refine gball_not (by decide +kernel) ?_
    refine gball_not (by decide +kernel) ?_
    refine gball_not (by decide +kernel) ?_
    refine gball_not (by decide +kernel) ?_
    refine gball_not (by decide +kernel) ?_
    refine gball_not (by decide +kernel) ?_
    refine gball_yes rfl rfl ?_ ?_
    · refine mv_yd rfl ((ys_load_el (S := [own 0 87 3 (.slice (some ⟨b, 0, none⟩) L.length c) TE L]) (o0 := 0) (sz := 3) (enc := TE) (L := L) hT i x 0 rfl rfl rfl rfl hx (at_own mE) rfl rfl).ydS sF) ?_
      refine ⟨sF, ?_⟩
      refine gb_only 16 (by decide +kernel) rfl rfl ?_
      refine mv_yd rfl ((ys_load_el (S := [own 0 87 3 (.slice (some ⟨b, 0, none⟩) L.length c) TE L]) (o0 := 0) (sz := 3) (enc := TE) (L := L) hT j y 0 rfl rfl rfl rfl hy (at_own mE) rfl rfl).ydS sF) ?_
      refine ⟨sF, ?_⟩
      refine gb_take 24 rfl (by decide +kernel) rfl rfl (ys_ev (nw := true) hT rfl sI) sF ?_
      refine gb_only 25 (by decide +kernel) rfl rfl ?_
      refine mv_store_ownW hT i x y rfl rfl (by show 0 + i * 3 = i * 3; omega) rfl rfl rfl rfl hx (by decide) (by first | ((repeat (first | with_reducible exact Upd.here _ | with_reducible apply Upd.there)); done) | ((repeat (first | exact Upd.here _ | apply Upd.there)); done) | fail) rfl ?_
      refine ⟨sF, ?_⟩
      refine gb_take 26 rfl (by decide +kernel) rfl rfl (ys_ev (nw := true) hT rfl sI) sF ?_
      refine gb_only 27 (by decide +kernel) rfl rfl ?_
      refine mv_store_ownW hT j y x rfl rfl (by show 0 + j * 3 = j * 3; omega) rfl rfl rfl rfl hy2 (by decide) (by first | ((repeat (first | with_reducible exact Upd.here _ | with_reducible apply Upd.there)); done) | ((repeat (first | exact Upd.here _ | apply Upd.there)); done) | fail) rfl ?_
      refine ⟨sF, ?_⟩
      refine gb_nil (by decide +kernel) ?_
      exact ⟨(), (by repeat (first | exact trivial | refine ⟨rfl, ?_⟩)), sA, sS⟩
    refine gball_not (by decide +kernel) ?_
    refine gball_not (by decide +kernel) ?_
    refine gball_not (by decide +kernel) ?_
    refine gball_not (by decide +kernel) ?_
    exact gball_end (by decide +kernel)
  · refine gk_mpxE (L := L) (by repeat (first | with_reducible exact Sel.here | with_reducible apply Sel.there)) (fun M hM => ?_)
    refine gk_mpb (ek := pairV .i64) (by repeat (first | with_reducible exact Sel.here | with_reducible apply Sel.there)) (fun B hB => ?_)
    obtain ⟨jy, hly, hMy⟩ := mg_lk (map_at hn hM hy)
    have hjy := (List.getElem?_eq_some_iff.1 hMy).1
    obtain ⟨b1, hb1⟩ : ∃ b1, B[jy]? = some b1 := ⟨B[jy], List.getElem?_eq_getElem (by omega)⟩
    obtain ⟨M1, hM1⟩ : ∃ M1, M1 = M.set jy (y.key, .int .i64 (i : Int)) := ⟨_, rfl⟩
    have hM1e : M1 = msG y.key (.int .i64 (i : Int)) M := by
      obtain ⟨n, e1, _, _, e5⟩ := msG_some (v := .int .i64 (i : Int)) hly
      rw [hM1, e5, show jy = n by omega]
    obtain ⟨ux, hux⟩ : ∃ ux, mg x.key M1 = some ux := by
      rw [hM1e, mg_set]
      by_cases e : x.key = y.key
      · exact ⟨_, if_pos e⟩
      · exact ⟨_, (if_neg e).trans (map_at hn hM hx)⟩
    obtain ⟨jx, hlx, hMx⟩ := mg_lk hux
    have hM1l : M1.length = M.length := by rw [hM1, List.length_set]
    have hjx := (List.getElem?_eq_some_iff.1 hMx).1
    obtain ⟨b2, hb2⟩ : ∃ b2, B[jx]? = some b2 := ⟨B[jx], List.getElem?_eq_getElem (by omega)⟩
    obtain ⟨M2, hM2⟩ : ∃ M2, M2 = M1.set jx (x.key, .int .i64 (j : Int)) := ⟨_, rfl⟩
    have hM2e : M2 = msG x.key (.int .i64 (j : Int)) M1 := by
      obtain ⟨n, e1, _, _, e5⟩ := msG_some (v := .int .i64 (j : Int)) hlx
      rw [hM2, e5, show jx = n by omega]
    have hfin : MapIs M2 (posT (swp L i j x y)) := by
      rw [hM2e, hM1e]
      exact map_swp hn hM hx hy
    refine gk_any [1, 2] (Cut _ (fun _ : Unit => []) (fun _ => [blk g [ru, (.slice (some ⟨b, 0, none⟩) L.length c), .map (some r), nw] 33, own 0 87 3 (.slice (some ⟨b, 0, none⟩) L.length c) TE (swp L i j x y), mpb r (pairV .i64) M2 B]) (fun _ => [])) rfl rfl (by kernel_rfl) ?_ (cut_k fun _ => ?_)
    · skip
      refine gb_take 0 rfl (by decide +kernel) rfl rfl (ys_ev (nw := true) hT rfl sI) sF ?_
      refine gb_take 1 rfl (by decide +kernel) rfl rfl (ys_ev (nw := true) hT rfl sI) sF ?_
      refine gb_take 2 rfl (by decide +kernel) rfl rfl (ys_ev (nw := true) hT rfl sI) sF ?_
      refine gb_take 3 rfl (by decide +kernel) rfl rfl (by first | exact ys_blk hT rfl rfl mE rfl rfl | exact ys_row hT rfl rfl mE rfl rfl | exact ys_row0 hT rfl rfl mE rfl rfl) sF ?_
      refine gb_take 4 rfl (by decide +kernel) rfl rfl (ys_ev (nw := true) hT rfl sI) sF ?_
      refine gb_take 5 rfl (by decide +kernel) rfl rfl (ys_ev (nw := true) hT rfl sI) sF ?_
      refine gb_take 6 rfl (by decide +kernel) rfl rfl (ys_ev (nw := true) hT rfl sI) sF ?_
      refine gb_take 7 rfl (by decide +kernel) rfl rfl (by first | exact ys_blk hT rfl rfl mE rfl rfl | exact ys_row hT rfl rfl mE rfl rfl | exact ys_row0 hT rfl rfl mE rfl rfl) sF ?_
      refine gb_take 8 rfl (by decide +kernel) rfl rfl (ys_ev (nw := true) hT rfl sI) sF ?_
      refine gb_take 9 rfl (by decide +kernel) rfl rfl (ys_ev (nw := true) hT rfl (by omega)) sF ?_
      refine gb_take 10 rfl (by decide +kernel) rfl rfl (ys_load_el (o0 := 0) (sz := 3) (enc := TE) (L := swp L i j x y) hT i y 0 rfl rfl rfl rfl hgi (at_own mE) rfl rfl) sF ?_
      refine gb_take 12 rfl (by decide +kernel) rfl rfl (ys_ev (nw := true) hT rfl sI) sF ?_
      refine gb_take 13 rfl (by decide +kernel) rfl rfl (ys_ev (nw := true) hT rfl sI) sF ?_
      refine gb_take 14 rfl (by decide +kernel) rfl rfl (ys_ev (nw := true) hT rfl sI) sF ?_
      refine gb_take 15 rfl (by decide +kernel) rfl rfl (by first | exact ys_blk hT rfl rfl mE rfl rfl | exact ys_row hT rfl rfl mE rfl rfl | exact ys_row0 hT rfl rfl mE rfl rfl) sF ?_
      refine gb_take 16 rfl (by decide +kernel) rfl rfl (ys_ev (nw := true) hT rfl sI) sF ?_
      refine gb_take 17 rfl (by decide +kernel) rfl rfl (ys_ev (nw := true) hT rfl sI) sF ?_
      refine gb_take 18 rfl (by decide +kernel) rfl rfl (ys_ev (nw := true) hT rfl sI) sF ?_
      refine gb_take 19 rfl (by decide +kernel) rfl rfl (by first | exact ys_blk hT rfl rfl mE rfl rfl | exact ys_row hT rfl rfl mE rfl rfl | exact ys_row0 hT rfl rfl mE rfl rfl) sF ?_
      refine gb_take 20 rfl (by decide +kernel) rfl rfl (ys_ev (nw := true) hT rfl sI) sF ?_
      refine gb_take 21 rfl (by decide +kernel) rfl rfl (ys_ev (nw := true) hT rfl (by omega)) sF ?_
      refine gb_take 22 rfl (by decide +kernel) rfl rfl (ys_load_el (o0 := 0) (sz := 3) (enc := TE) (L := swp L i j x y) hT j x 0 rfl rfl rfl rfl hgj (at_own mE) rfl rfl) sF ?_
      refine gb_take 24 rfl (by decide +kernel) rfl rfl (ys_ev (nw := true) hT rfl sI) sF ?_
      refine gb_take 25 rfl (by decide +kernel) rfl rfl (ys_ev (nw := true) hT rfl sI) sF ?_
      refine gb_only 11 (by decide +kernel) rfl rfl ?_
      refine mv_call_bel (fun w hk => dof_any y w) rfl rfl rfl rfl rfl (by kernel_rfl) ?_
      refine ⟨sF, ?_⟩
      refine gb_only 23 (by decide +kernel) rfl rfl ?_
      refine mv_call_bel (fun w hk => dof_any x w) rfl rfl rfl rfl rfl (by kernel_rfl) ?_
      refine ⟨sF, ?_⟩
      refine gb_only 26 (by decide +kernel) rfl rfl ?_
      refine mv_mapEntryG rfl y.key rfl rfl rfl rfl Try.underlying26 kok_name mE hly hb1 (by first | ((repeat (first | with_reducible exact Upd.here _ | with_reducible apply Upd.there)); done) | ((repeat (first | exact Upd.here _ | apply Upd.there)); done) | fail) ?_
      refine ⟨sF, ?_⟩
      refine gb_take 27 rfl (by decide +kernel) rfl rfl (ys_ev (nw := true) hT rfl sI) sF ?_
      refine gb_only 28 (by decide +kernel) rfl rfl ?_
      (refine mv_entryStoreG rfl rfl rfl rfl rfl hMy hb1 (by first | ((repeat (first | with_reducible exact Upd.here _ | with_reducible apply Upd.there)); done) | ((repeat (first | exact Upd.here _ | apply Upd.there)); done) | fail) ?_; rw [← hM1])
      refine ⟨sF, ?_⟩
      refine gb_only 29 (by decide +kernel) rfl rfl ?_
      refine mv_mapEntryG rfl x.key rfl rfl rfl rfl Try.underlying26 kok_name mE hlx hb2 (by first | ((repeat (first | with_reducible exact Upd.here _ | with_reducible apply Upd.there)); done) | ((repeat (first | exact Upd.here _ | apply Upd.there)); done) | fail) ?_
      refine ⟨sF, ?_⟩
      refine gb_take 30 rfl (by decide +kernel) rfl rfl (ys_ev (nw := true) hT rfl sI) sF ?_
      refine gb_only 31 (by decide +kernel) rfl rfl ?_
      (refine mv_entryStoreG rfl rfl rfl rfl rfl hMx hb2 (by first | ((repeat (first | with_reducible exact Upd.here _ | with_reducible apply Upd.there)); done) | ((repeat (first | exact Upd.here _ | apply Upd.there)); done) | fail) ?_; rw [← hM2])
      refine ⟨sF, ?_⟩
      refine gb_nil (by decide +kernel) ?_
      exact ⟨(), (by repeat (first | exact trivial | refine ⟨rfl, ?_⟩)), sA, sS⟩
    · refine gk_mpbI (by repeat (first | with_reducible exact Sel.here | with_reducible apply Sel.there)) ?_
      refine gk_mpxI hfin (by repeat (first | with_reducible exact Sel.here | with_reducible apply Sel.there)) ?_
      (repeat (refine gG ?_; try intro _))
      refine gk_fin hT rfl rfl .nil (fun w' hk => ?_)
      exact RetM.mkP (ll := fun _ => duL g r ru nw _ (swp L i j x y)) (.tuple #[]) trivial rfl hk (fun b hb => (du_fin g r ru nw _ L b).2 hb) sA
end Go.Proofs.Ytgpfedmfbkhhcaa.Dv

