/- names.Table: Set. -/
import Derived.Test.YtdkgmgfadpnhbaaNm4
namespace Go.Proofs.Ytdkgmgfadpnhbaa.Nm
open Go.RowKit Mem Gx
set_option linter.unusedVariables false
set_option linter.unusedSimpArgs false
set_option maxRecDepth 100000
set_option maxHeartbeats 1000000
theorem right_b {L : List Int} (hB : ∀ x ∈ L, 0 ≤ x ∧ x ≤ 255) (h9 : L.length ≤ 1000) {b : Bool} (hb : tB (RightP L) = b) (w : World) :
    Calls Try.prog 21 [.string (strOfNums L)].toArray w fun e w' => e = .returned (.bool b) ∧ Below w.heap.size w w' := by
  have := nright_any L hB h9 w
  rwa [hb] at this
theorem nset_bad (t : Nat) (id : Int) (L : List Int) (w : World) (hB : ∀ x ∈ L, 0 ≤ x ∧ x ≤ 255) (h9 : L.length ≤ 1000) (hbad : id < 1 ∨ 65535 < id ∨ ¬ RightP L) :
    Calls Try.prog 27 [.pointer (some ⟨t, 0, none⟩), .int .i64 id, .string (strOfNums L)].toArray w fun e w' => e = .returned (.int .i64 10) ∧ Below w.heap.size w w' := by
  refine g_enter0 T [] [] [] Try.func27 rfl Try.ntmps27 rfl (Kn.start _) ?_
  by_cases hr : RightP L
  · have hc := fun w => right_b hB h9 (tB_true hr) w
    have hid : id < 1 ∨ 65535 < id := hbad.imp_right fun h => h.resolve_right fun h => h hr
    (repeat' (first | (refine gG ?_; try intro _) | (refine g_mv rfl ?_; first | refine mv_call_bel (fun w hk => hc w) rfl rfl rfl rfl rfl (by kernel_rfl) ?_) | ((first | refine g_split rfl rfl tE (fun _ => ?_) (fun _ => ?_) | refine gk_cond rfl rfl tE (fun _ => ?_) (fun _ => ?_)) <;> (try first | (exfalso; omega; done) | (rename_i hx; exact absurd rfl hx) | (rename_i hx; cases hx; done)))))
    all_goals
      refine gk_ret hT rfl rfl (.tmp rfl .nil) (fun w' hk => ?_)
      exact ⟨rfl, hk.toBelow⟩
  · have hc := fun w => right_b hB h9 (tB_false hr) w
    clear hbad
    (repeat' (first | (refine gG ?_; try intro _) | (refine g_mv rfl ?_; first | refine mv_call_bel (fun w hk => hc w) rfl rfl rfl rfl rfl (by kernel_rfl) ?_) | ((first | refine g_split rfl rfl tE (fun _ => ?_) (fun _ => ?_) | refine gk_cond rfl rfl tE (fun _ => ?_) (fun _ => ?_)) <;> (try first | (exfalso; omega; done) | (rename_i hx; exact absurd rfl hx) | (rename_i hx; cases hx; done)))))
    all_goals
      refine gk_ret hT rfl rfl (.tmp rfl .nil) (fun w' hk => ?_)
      exact ⟨rfl, hk.toBelow⟩
theorem nset_twice (t : Nat) (T : NTab) (l : List NmD) (id : Int) (L : List Int) (y : NmD) (w : World) (hB : ∀ x ∈ L, 0 ≤ x ∧ x ≤ 255) (h9 : L.length ≤ 1000) (h1 : 1 ≤ id) (h2 : id ≤ 65535) (hr : RightP L) (hy : y ∈ l) (hys : y.s = strOfNums L) (hne : y.id ≠ id) (hI : NtI T l) (h : Rd1 w (ntF t T)) :
    Calls Try.prog 27 [.pointer (some ⟨t, 0, none⟩), .int .i64 id, .string (strOfNums L)].toArray w fun e w' => e = .returned (.int .i64 61) ∧ Below w.heap.size w w' := by
  have hc := fun w => right_b hB h9 (tB_true hr) w
  obtain ⟨r, M1, M2⟩ := T
  cases r with
  | none =>
    have hnil := hI.nil rfl
    subst hnil
    cases hy
  | some r =>
    obtain ⟨r1, r2⟩ := r
    obtain ⟨j, hj⟩ := lk_some ((hI.m1.get y.s).trans (gS_some hI.nms hy))
    rw [hys] at hj
    have hBb := Rd1.unpack h (φ := blk t [.map (some r1), .map (some r2)] 66) (.head _)
    have hM := Rd1.unpack h (φ := mpk r1 Value.string M1) (.tail _ (.head _))
    refine g_enter0 T [] [] [blk t [.map (some r1), .map (some r2)] 66, mpk r1 Value.string M1] Try.func27 rfl Try.ntmps27 rfl (Rds.cons hBb (.cons hM .nil)).kn ?_
    refine gk_rowR (g := t) mE ?_
    (repeat' (first | (refine gG ?_; try intro _) | (refine g_mv rfl ?_; first | refine mv_call_bel (fun w hk => hc w) rfl rfl rfl rfl rfl (by kernel_rfl) ?_) | ((first | refine g_split rfl rfl tE (fun _ => ?_) (fun _ => ?_) | refine gk_cond rfl rfl tE (fun _ => ?_) (fun _ => ?_)) <;> (try first | (exfalso; omega; done) | (rename_i hx; exact absurd rfl hx) | (rename_i hx; cases hx; done)))))
    refine g_yd rfl rfl ((ys_lookupG (S := [mpk r1 Value.string M1]) (strOfNums L) rfl rfl rfl rfl Try.underlying63 kok_s zero_I (.head _)).ydS sF) ?_
    refine g_say 26 (.tuple #[.int .i64 y.id, .bool true]) rfl (by rw [hj]; rfl) ?_
    (repeat' (first | (refine gG ?_; try intro _) | ((first | refine g_split rfl rfl tE (fun _ => ?_) (fun _ => ?_) | refine gk_cond rfl rfl tE (fun _ => ?_) (fun _ => ?_)) <;> (try first | (exfalso; omega; done) | (rename_i hx; exact absurd rfl hx) | (rename_i hx; cases hx; done)))))
    refine gk_ret hT rfl rfl (.tmp rfl .nil) (fun w' hk => ?_)
    exact ⟨rfl, hk.toBelow⟩
theorem nset_ok (t : Nat) (T : NTab) (l : List NmD) (id : Int) (L : List Int) (w : World) (hB : ∀ x ∈ L, 0 ≤ x ∧ x ≤ 255) (h9 : L.length ≤ 1000) (h1 : 1 ≤ id) (h2 : id ≤ 65535) (hr : RightP L) (hl9 : l.length < 1000) (hid : ∀ y, y ∈ l → y.s = strOfNums L → y.id = id) (hI : NtI T l) (h : Rd1 w (ntF t T)) :
    Calls Try.prog 27 [.pointer (some ⟨t, 0, none⟩), .int .i64 id, .string (strOfNums L)].toArray w (RetM (ntF t T) (fun T' : NTab => NtI T' (dropN l id ++ [⟨id, strOfNums L⟩])) (fun _ => .int .i64 0) (fun T' => ntF t T') w) := by
  have hc := fun w => right_b hB h9 (tB_true hr) w
  have hsz : strOfNums L ≠ noS := fun e => by
    have h3 := sx_size L
    rw [e] at h3
    have h4 := hr.1.1
    have : noS.size = 0 := rfl
    omega
  have hd9 := dropN_len l id
  have hd1 : ∀ y, y ∈ dropN l id → y.s ≠ strOfNums L := fun y hy e => (dropN_mem.1 hy).2 (hid y (dropN_mem.1 hy).1 e)
  have hd2 : ∀ y, y ∈ dropN l id → y.id ≠ id := fun y hy => (dropN_mem.1 hy).2
  obtain ⟨E, hE⟩ := nt_fin t T
  obtain ⟨r, M1, M2⟩ := T
  cases r with
  | none =>
    have hnil := hI.nil rfl
    refine g_enter0 T E [blk t [.map none, .map none] 66] [] Try.func27 rfl Try.ntmps27 rfl (Kn.startP h (fun b hb => (hE b).1 hb) (fun _ h => by cases h)) ?_
    (repeat' (first | (refine gG ?_; try intro _) | (refine g_mv rfl ?_; first | refine mv_call_bel (fun w hk => hc w) rfl rfl rfl rfl rfl (by kernel_rfl) ?_) | ((first | refine g_split rfl rfl tE (fun _ => ?_) (fun _ => ?_) | refine gk_cond rfl rfl tE (fun _ => ?_) (fun _ => ?_)) <;> (try first | (exfalso; omega; done) | (rename_i hx; exact absurd rfl hx) | (rename_i hx; cases hx; done)))))
    refine g_yd rfl rfl (Ys.yd (ys_lookupG_nil (strOfNums L) rfl rfl rfl rfl Try.underlying63 kok_s zero_I)) ?_
    refine g_say 26 (.tuple #[.int .i64 0, .bool false]) rfl rfl ?_
    (repeat (refine gG ?_; try intro _))
    refine g_yd rfl rfl (Ys.yd (ys_map_nil hT rfl rfl rfl Try.underlying63)) ?_
    (repeat (refine gG ?_; try intro _))
    refine g_mv rfl (mv_makeMapG rfl Value.string rfl (fun r1 => ?_))
    refine g_mv rfl (mv_makeMapG rfl (Value.int .i64) rfl (fun r2 => ?_))
    (repeat (refine gG ?_; try intro _))
    refine g_pack (ntL t ⟨some (r1, r2), [], []⟩) [] sA ?_
    refine g_mv rfl (mv_call_mod (φ := ntF t ⟨some (r1, r2), [], []⟩) (ψ := fun T' : NTab => ntF t T') (fun w1 hk => by exact ndrop_any t ⟨some (r1, r2), [], []⟩ l id w1 ⟨fun e => (by cases e), hI.ids, hI.nms, MapIs.nil.congr fun k => by rw [hnil]; rfl, MapIs.nil.congr fun k => by rw [hnil]; rfl, hI.ne, hI.len⟩ (hk.rO (φ := ntF t ⟨some (r1, r2), [], []⟩) mE)) rfl rfl rfl rfl rfl (by kernel_rfl) (by intro _; first | ((repeat (first | with_reducible exact Upd.here _ | with_reducible apply Upd.there)); done) | ((repeat (first | exact Upd.here _ | apply Upd.there)); done) | fail) (fun T' hT' => ?_))
    obtain ⟨r', N1, N2⟩ := T'
    obtain ⟨hI', hr'⟩ := hT'
    obtain rfl : r' = some (r1, r2) := hr'
    rw [show ntF t (⟨some (r1, r2), N1, N2⟩ : NTab) = packF [blk t [.map (some r1), .map (some r2)] 66, mpk r1 Value.string N1, mpk r2 (Value.int .i64) N2] from rfl]
    refine g_unpack (l := [blk t [.map (some r1), .map (some r2)] 66, mpk r1 Value.string N1, mpk r2 (Value.int .i64) N2]) (by repeat (first | with_reducible exact Sel.here | with_reducible apply Sel.there)) ?_
    have hl1 := mg_none.1 ((hI'.m1.get (strOfNums L)).trans (gS_none hd1))
    have hl2 := mg_none.1 ((hI'.m2.get id).trans (gI_none hd2))
    have hI2 := hI'.add ⟨id, strOfNums L⟩ hd1 hd2 hsz (by omega) (r := (r1, r2))
    (repeat (refine gG ?_; try intro _))
    refine gk_any [0] (Cut _ (fun q : List Nat × List Nat => []) (fun q => [blk t [.map (some r1), .map (some r2)] 66, mpb r1 Value.string (N1 ++ [(strOfNums L, .int .i64 id)]) q.1, mpb r2 (Value.int .i64) (N2 ++ [(id, .agg #[.string (strOfNums L)])]) q.2]) (fun _ => [])) rfl rfl (by kernel_rfl) ?_ (cut_k fun q => ?_)
    · skip
      refine gb_take 0 rfl (by decide +kernel) rfl rfl (ys_ev (nw := true) hT rfl sI) sF ?_
      refine gb_take 1 rfl (by decide +kernel) rfl rfl (ys_ev (nw := true) hT rfl sI) sF ?_
      refine gb_take 2 rfl (by decide +kernel) rfl rfl (ys_ev (nw := true) hT rfl sI) sF ?_
      refine gb_take 3 rfl (by decide +kernel) rfl rfl (by first | exact ys_blk hT rfl rfl mE rfl rfl | exact ys_row hT rfl rfl mE rfl rfl | exact ys_row0 hT rfl rfl mE rfl rfl) sF ?_
      refine gb_take 4 rfl (by decide +kernel) rfl rfl (ys_ev (nw := true) hT rfl sI) sF ?_
      refine gb_take 5 rfl (by decide +kernel) rfl rfl (ys_ev (nw := true) hT rfl sI) sF ?_
      refine gb_take 6 rfl (by decide +kernel) rfl rfl (ys_ev (nw := true) hT rfl sI) sF ?_
      refine gb_take 7 rfl (by decide +kernel) rfl rfl (ys_ev (nw := true) hT rfl sI) sF ?_
      refine gb_take 8 rfl (by decide +kernel) rfl rfl (by first | exact ys_blk hT rfl rfl mE rfl rfl | exact ys_row hT rfl rfl mE rfl rfl | exact ys_row0 hT rfl rfl mE rfl rfl) sF ?_
      refine gb_take 9 rfl (by decide +kernel) rfl rfl (ys_ev (nw := true) hT rfl sI) sF ?_
      refine gb_take 10 rfl (by decide +kernel) rfl rfl (ys_ev (nw := true) hT rfl sI) sF ?_
      refine gb_take 11 rfl (by decide +kernel) rfl rfl (ys_ev (nw := true) hT rfl sI) sF ?_
      refine gb_take 12 rfl (by decide +kernel) rfl rfl (ys_ev (nw := true) hT rfl sI) sF ?_
      refine gb_only 13 (by decide +kernel) rfl rfl ?_
      (refine mv_mapEntryN rfl (strOfNums L) rfl rfl rfl rfl Try.underlying63 kok_s zero_I hl1 (fun B b => (by first | ((repeat (first | with_reducible exact Upd.here _ | with_reducible apply Upd.there)); done) | ((repeat (first | exact Upd.here _ | apply Upd.there)); done) | fail)) ?_; intro B1 b1 hB1)
      refine ⟨sF, ?_⟩
      refine gb_take 14 rfl (by decide +kernel) rfl rfl (ys_ev (nw := true) hT rfl sI) sF ?_
      refine gb_only 15 (by decide +kernel) rfl rfl ?_
      refine mv_entryStoreN (z := .int .i64 0) (q := strOfNums L) (M := N1) rfl rfl rfl rfl rfl hB1 (by first | ((repeat (first | with_reducible exact Upd.here _ | with_reducible apply Upd.there)); done) | ((repeat (first | exact Upd.here _ | apply Upd.there)); done) | fail) ?_
      refine ⟨sF, ?_⟩
      refine gb_only 16 (by decide +kernel) rfl rfl ?_
      (refine mv_mapEntryN rfl id rfl rfl rfl rfl Try.underlying64 kok_i zero_G hl2 (fun B b => (by first | ((repeat (first | with_reducible exact Upd.here _ | with_reducible apply Upd.there)); done) | ((repeat (first | exact Upd.here _ | apply Upd.there)); done) | fail)) ?_; intro B2 b2 hB2)
      refine ⟨sF, ?_⟩
      refine gb_take 17 rfl (by decide +kernel) rfl rfl (ys_ev (nw := true) hT rfl sI) sF ?_
      refine gb_only 18 (by decide +kernel) rfl rfl ?_
      refine mv_entryStoreN (z := .agg #[.string noS]) (q := id) (M := N2) rfl rfl rfl rfl rfl hB2 (by first | ((repeat (first | with_reducible exact Upd.here _ | with_reducible apply Upd.there)); done) | ((repeat (first | exact Upd.here _ | apply Upd.there)); done) | fail) ?_
      refine ⟨sF, ?_⟩
      refine gb_nil (by decide +kernel) ?_
      exact ⟨(B1 ++ [b1], B2 ++ [b2]), (by repeat (first | exact trivial | refine ⟨rfl, ?_⟩)), sA, sS⟩
    · refine gk_mpbI (r := r1) (by repeat (first | with_reducible exact Sel.here | with_reducible apply Sel.there)) ?_
      refine gk_mpbI (r := r2) (by repeat (first | with_reducible exact Sel.here | with_reducible apply Sel.there)) ?_
      (repeat (refine gG ?_; try intro _))
      refine gk_ret hT rfl rfl (.tmp rfl .nil) (fun w' hk => ?_)
      exact RetM.mkP (ll := fun T' => ntL t T') (⟨some (r1, r2), N1 ++ [(strOfNums L, Value.int .i64 id)], N2 ++ [(id, Value.agg #[Value.string (strOfNums L)])]⟩ : NTab) hI2 rfl hk (fun b hb => (hE b).2 hb) (show SelAll [blk t [.map (some r1), .map (some r2)] 66, mpk r1 Value.string (N1 ++ [(strOfNums L, Value.int .i64 id)]), mpk r2 (Value.int .i64) (N2 ++ [(id, Value.agg #[Value.string (strOfNums L)])])] _ from sA)
  | some r =>
    obtain ⟨r1, r2⟩ := r
    refine g_enter0 T E [blk t [.map (some r1), .map (some r2)] 66, mpk r1 Value.string M1, mpk r2 (Value.int .i64) M2] [] Try.func27 rfl Try.ntmps27 rfl (Kn.startP h (fun b hb => (hE b).1 hb) (fun _ h => by cases h)) ?_
    (repeat' (first | (refine gG ?_; try intro _) | (refine g_mv rfl ?_; first | refine mv_call_bel (fun w hk => hc w) rfl rfl rfl rfl rfl (by kernel_rfl) ?_) | ((first | refine g_split rfl rfl tE (fun _ => ?_) (fun _ => ?_) | refine gk_cond rfl rfl tE (fun _ => ?_) (fun _ => ?_)) <;> (try first | (exfalso; omega; done) | (rename_i hx; exact absurd rfl hx) | (rename_i hx; cases hx; done)))))
    refine g_yd rfl rfl ((ys_lookupG (S := [mpk r1 Value.string M1]) (strOfNums L) rfl rfl rfl rfl Try.underlying63 kok_s zero_I (.head _)).ydS sF) ?_
    by_cases hx : ∃ y, y ∈ l ∧ y.s = strOfNums L
    · obtain ⟨y, hy, hys⟩ := hx
      obtain ⟨j, hj⟩ := lk_some ((hI.m1.get y.s).trans (gS_some hI.nms hy))
      rw [hys] at hj
      have hyi := hid y hy hys
      refine g_say 26 (.tuple #[.int .i64 y.id, .bool true]) rfl (by rw [hj]; rfl) ?_
      (repeat' (first | (refine gG ?_; try intro _) | ((first | refine g_split rfl rfl tE (fun _ => ?_) (fun _ => ?_) | refine gk_cond rfl rfl tE (fun _ => ?_) (fun _ => ?_)) <;> (try first | (exfalso; omega; done) | (rename_i hx; exact absurd rfl hx) | (rename_i hx; cases hx; done)))))
      refine g_yd rfl rfl (Ys.yd (ys_map_nil hT rfl rfl rfl Try.underlying63)) ?_
      (repeat (refine gG ?_; try intro _))
      refine g_pack (ntL t ⟨some (r1, r2), M1, M2⟩) [] sA ?_
      refine g_mv rfl (mv_call_mod (φ := ntF t ⟨some (r1, r2), M1, M2⟩) (ψ := fun T' : NTab => ntF t T') (fun w1 hk => by exact ndrop_any t ⟨some (r1, r2), M1, M2⟩ l id w1 hI (hk.rO (φ := ntF t ⟨some (r1, r2), M1, M2⟩) mE)) rfl rfl rfl rfl rfl (by kernel_rfl) (by intro _; first | ((repeat (first | with_reducible exact Upd.here _ | with_reducible apply Upd.there)); done) | ((repeat (first | exact Upd.here _ | apply Upd.there)); done) | fail) (fun T' hT' => ?_))
      obtain ⟨r', N1, N2⟩ := T'
      obtain ⟨hI', hr'⟩ := hT'
      obtain rfl : r' = some (r1, r2) := hr'
      rw [show ntF t (⟨some (r1, r2), N1, N2⟩ : NTab) = packF [blk t [.map (some r1), .map (some r2)] 66, mpk r1 Value.string N1, mpk r2 (Value.int .i64) N2] from rfl]
      refine g_unpack (l := [blk t [.map (some r1), .map (some r2)] 66, mpk r1 Value.string N1, mpk r2 (Value.int .i64) N2]) (by repeat (first | with_reducible exact Sel.here | with_reducible apply Sel.there)) ?_
      have hl1 := mg_none.1 ((hI'.m1.get (strOfNums L)).trans (gS_none hd1))
      have hl2 := mg_none.1 ((hI'.m2.get id).trans (gI_none hd2))
      have hI2 := hI'.add ⟨id, strOfNums L⟩ hd1 hd2 hsz (by omega) (r := (r1, r2))
      (repeat (refine gG ?_; try intro _))
      refine gk_any [0] (Cut _ (fun q : List Nat × List Nat => []) (fun q => [blk t [.map (some r1), .map (some r2)] 66, mpb r1 Value.string (N1 ++ [(strOfNums L, .int .i64 id)]) q.1, mpb r2 (Value.int .i64) (N2 ++ [(id, .agg #[.string (strOfNums L)])]) q.2]) (fun _ => [])) rfl rfl (by kernel_rfl) ?_ (cut_k fun q => ?_)
      · skip
        refine gb_take 0 rfl (by decide +kernel) rfl rfl (ys_ev (nw := true) hT rfl sI) sF ?_
        refine gb_take 1 rfl (by decide +kernel) rfl rfl (ys_ev (nw := true) hT rfl sI) sF ?_
        refine gb_take 2 rfl (by decide +kernel) rfl rfl (ys_ev (nw := true) hT rfl sI) sF ?_
        refine gb_take 3 rfl (by decide +kernel) rfl rfl (by first | exact ys_blk hT rfl rfl mE rfl rfl | exact ys_row hT rfl rfl mE rfl rfl | exact ys_row0 hT rfl rfl mE rfl rfl) sF ?_
        refine gb_take 4 rfl (by decide +kernel) rfl rfl (ys_ev (nw := true) hT rfl sI) sF ?_
        refine gb_take 5 rfl (by decide +kernel) rfl rfl (ys_ev (nw := true) hT rfl sI) sF ?_
        refine gb_take 6 rfl (by decide +kernel) rfl rfl (ys_ev (nw := true) hT rfl sI) sF ?_
        refine gb_take 7 rfl (by decide +kernel) rfl rfl (ys_ev (nw := true) hT rfl sI) sF ?_
        refine gb_take 8 rfl (by decide +kernel) rfl rfl (by first | exact ys_blk hT rfl rfl mE rfl rfl | exact ys_row hT rfl rfl mE rfl rfl | exact ys_row0 hT rfl rfl mE rfl rfl) sF ?_
        refine gb_take 9 rfl (by decide +kernel) rfl rfl (ys_ev (nw := true) hT rfl sI) sF ?_
        refine gb_take 10 rfl (by decide +kernel) rfl rfl (ys_ev (nw := true) hT rfl sI) sF ?_
        refine gb_take 11 rfl (by decide +kernel) rfl rfl (ys_ev (nw := true) hT rfl sI) sF ?_
        refine gb_take 12 rfl (by decide +kernel) rfl rfl (ys_ev (nw := true) hT rfl sI) sF ?_
        refine gb_only 13 (by decide +kernel) rfl rfl ?_
        (refine mv_mapEntryN rfl (strOfNums L) rfl rfl rfl rfl Try.underlying63 kok_s zero_I hl1 (fun B b => (by first | ((repeat (first | with_reducible exact Upd.here _ | with_reducible apply Upd.there)); done) | ((repeat (first | exact Upd.here _ | apply Upd.there)); done) | fail)) ?_; intro B1 b1 hB1)
        refine ⟨sF, ?_⟩
        refine gb_take 14 rfl (by decide +kernel) rfl rfl (ys_ev (nw := true) hT rfl sI) sF ?_
        refine gb_only 15 (by decide +kernel) rfl rfl ?_
        refine mv_entryStoreN (z := .int .i64 0) (q := strOfNums L) (M := N1) rfl rfl rfl rfl rfl hB1 (by first | ((repeat (first | with_reducible exact Upd.here _ | with_reducible apply Upd.there)); done) | ((repeat (first | exact Upd.here _ | apply Upd.there)); done) | fail) ?_
        refine ⟨sF, ?_⟩
        refine gb_only 16 (by decide +kernel) rfl rfl ?_
        (refine mv_mapEntryN rfl id rfl rfl rfl rfl Try.underlying64 kok_i zero_G hl2 (fun B b => (by first | ((repeat (first | with_reducible exact Upd.here _ | with_reducible apply Upd.there)); done) | ((repeat (first | exact Upd.here _ | apply Upd.there)); done) | fail)) ?_; intro B2 b2 hB2)
        refine ⟨sF, ?_⟩
        refine gb_take 17 rfl (by decide +kernel) rfl rfl (ys_ev (nw := true) hT rfl sI) sF ?_
        refine gb_only 18 (by decide +kernel) rfl rfl ?_
        refine mv_entryStoreN (z := .agg #[.string noS]) (q := id) (M := N2) rfl rfl rfl rfl rfl hB2 (by first | ((repeat (first | with_reducible exact Upd.here _ | with_reducible apply Upd.there)); done) | ((repeat (first | exact Upd.here _ | apply Upd.there)); done) | fail) ?_
        refine ⟨sF, ?_⟩
        refine gb_nil (by decide +kernel) ?_
        exact ⟨(B1 ++ [b1], B2 ++ [b2]), (by repeat (first | exact trivial | refine ⟨rfl, ?_⟩)), sA, sS⟩
      · refine gk_mpbI (r := r1) (by repeat (first | with_reducible exact Sel.here | with_reducible apply Sel.there)) ?_
        refine gk_mpbI (r := r2) (by repeat (first | with_reducible exact Sel.here | with_reducible apply Sel.there)) ?_
        (repeat (refine gG ?_; try intro _))
        refine gk_ret hT rfl rfl (.tmp rfl .nil) (fun w' hk => ?_)
        exact RetM.mkP (ll := fun T' => ntL t T') (⟨some (r1, r2), N1 ++ [(strOfNums L, Value.int .i64 id)], N2 ++ [(id, Value.agg #[Value.string (strOfNums L)])]⟩ : NTab) hI2 rfl hk (fun b hb => (hE b).2 hb) (show SelAll [blk t [.map (some r1), .map (some r2)] 66, mpk r1 Value.string (N1 ++ [(strOfNums L, Value.int .i64 id)]), mpk r2 (Value.int .i64) (N2 ++ [(id, Value.agg #[Value.string (strOfNums L)])])] _ from sA)
    · have hj := mg_none.1 ((hI.m1.get (strOfNums L)).trans (gS_none fun y hy e => hx ⟨y, hy, e⟩))
      refine g_say 26 (.tuple #[.int .i64 0, .bool false]) rfl (by rw [hj]; rfl) ?_
      (repeat (refine gG ?_; try intro _))
      refine g_yd rfl rfl (Ys.yd (ys_map_nil hT rfl rfl rfl Try.underlying63)) ?_
      (repeat (refine gG ?_; try intro _))
      refine g_pack (ntL t ⟨some (r1, r2), M1, M2⟩) [] sA ?_
      refine g_mv rfl (mv_call_mod (φ := ntF t ⟨some (r1, r2), M1, M2⟩) (ψ := fun T' : NTab => ntF t T') (fun w1 hk => by exact ndrop_any t ⟨some (r1, r2), M1, M2⟩ l id w1 hI (hk.rO (φ := ntF t ⟨some (r1, r2), M1, M2⟩) mE)) rfl rfl rfl rfl rfl (by kernel_rfl) (by intro _; first | ((repeat (first | with_reducible exact Upd.here _ | with_reducible apply Upd.there)); done) | ((repeat (first | exact Upd.here _ | apply Upd.there)); done) | fail) (fun T' hT' => ?_))
      obtain ⟨r', N1, N2⟩ := T'
      obtain ⟨hI', hr'⟩ := hT'
      obtain rfl : r' = some (r1, r2) := hr'
      rw [show ntF t (⟨some (r1, r2), N1, N2⟩ : NTab) = packF [blk t [.map (some r1), .map (some r2)] 66, mpk r1 Value.string N1, mpk r2 (Value.int .i64) N2] from rfl]
      refine g_unpack (l := [blk t [.map (some r1), .map (some r2)] 66, mpk r1 Value.string N1, mpk r2 (Value.int .i64) N2]) (by repeat (first | with_reducible exact Sel.here | with_reducible apply Sel.there)) ?_
      have hl1 := mg_none.1 ((hI'.m1.get (strOfNums L)).trans (gS_none hd1))
      have hl2 := mg_none.1 ((hI'.m2.get id).trans (gI_none hd2))
      have hI2 := hI'.add ⟨id, strOfNums L⟩ hd1 hd2 hsz (by omega) (r := (r1, r2))
      (repeat (refine gG ?_; try intro _))
      refine gk_any [0] (Cut _ (fun q : List Nat × List Nat => []) (fun q => [blk t [.map (some r1), .map (some r2)] 66, mpb r1 Value.string (N1 ++ [(strOfNums L, .int .i64 id)]) q.1, mpb r2 (Value.int .i64) (N2 ++ [(id, .agg #[.string (strOfNums L)])]) q.2]) (fun _ => [])) rfl rfl (by kernel_rfl) ?_ (cut_k fun q => ?_)
      · skip
        refine gb_take 0 rfl (by decide +kernel) rfl rfl (ys_ev (nw := true) hT rfl sI) sF ?_
        refine gb_take 1 rfl (by decide +kernel) rfl rfl (ys_ev (nw := true) hT rfl sI) sF ?_
        refine gb_take 2 rfl (by decide +kernel) rfl rfl (ys_ev (nw := true) hT rfl sI) sF ?_
        refine gb_take 3 rfl (by decide +kernel) rfl rfl (by first | exact ys_blk hT rfl rfl mE rfl rfl | exact ys_row hT rfl rfl mE rfl rfl | exact ys_row0 hT rfl rfl mE rfl rfl) sF ?_
        refine gb_take 4 rfl (by decide +kernel) rfl rfl (ys_ev (nw := true) hT rfl sI) sF ?_
        refine gb_take 5 rfl (by decide +kernel) rfl rfl (ys_ev (nw := true) hT rfl sI) sF ?_
        refine gb_take 6 rfl (by decide +kernel) rfl rfl (ys_ev (nw := true) hT rfl sI) sF ?_
        refine gb_take 7 rfl (by decide +kernel) rfl rfl (ys_ev (nw := true) hT rfl sI) sF ?_
        refine gb_take 8 rfl (by decide +kernel) rfl rfl (by first | exact ys_blk hT rfl rfl mE rfl rfl | exact ys_row hT rfl rfl mE rfl rfl | exact ys_row0 hT rfl rfl mE rfl rfl) sF ?_
        refine gb_take 9 rfl (by decide +kernel) rfl rfl (ys_ev (nw := true) hT rfl sI) sF ?_
        refine gb_take 10 rfl (by decide +kernel) rfl rfl (ys_ev (nw := true) hT rfl sI) sF ?_
        refine gb_take 11 rfl (by decide +kernel) rfl rfl (ys_ev (nw := true) hT rfl sI) sF ?_
        refine gb_take 12 rfl (by decide +kernel) rfl rfl (ys_ev (nw := true) hT rfl sI) sF ?_
        refine gb_only 13 (by decide +kernel) rfl rfl ?_
        (refine mv_mapEntryN rfl (strOfNums L) rfl rfl rfl rfl Try.underlying63 kok_s zero_I hl1 (fun B b => (by first | ((repeat (first | with_reducible exact Upd.here _ | with_reducible apply Upd.there)); done) | ((repeat (first | exact Upd.here _ | apply Upd.there)); done) | fail)) ?_; intro B1 b1 hB1)
        refine ⟨sF, ?_⟩
        refine gb_take 14 rfl (by decide +kernel) rfl rfl (ys_ev (nw := true) hT rfl sI) sF ?_
        refine gb_only 15 (by decide +kernel) rfl rfl ?_
        refine mv_entryStoreN (z := .int .i64 0) (q := strOfNums L) (M := N1) rfl rfl rfl rfl rfl hB1 (by first | ((repeat (first | with_reducible exact Upd.here _ | with_reducible apply Upd.there)); done) | ((repeat (first | exact Upd.here _ | apply Upd.there)); done) | fail) ?_
        refine ⟨sF, ?_⟩
        refine gb_only 16 (by decide +kernel) rfl rfl ?_
        (refine mv_mapEntryN rfl id rfl rfl rfl rfl Try.underlying64 kok_i zero_G hl2 (fun B b => (by first | ((repeat (first | with_reducible exact Upd.here _ | with_reducible apply Upd.there)); done) | ((repeat (first | exact Upd.here _ | apply Upd.there)); done) | fail)) ?_; intro B2 b2 hB2)
        refine ⟨sF, ?_⟩
        refine gb_take 17 rfl (by decide +kernel) rfl rfl (ys_ev (nw := true) hT rfl sI) sF ?_
        refine gb_only 18 (by decide +kernel) rfl rfl ?_
        refine mv_entryStoreN (z := .agg #[.string noS]) (q := id) (M := N2) rfl rfl rfl rfl rfl hB2 (by first | ((repeat (first | with_reducible exact Upd.here _ | with_reducible apply Upd.there)); done) | ((repeat (first | exact Upd.here _ | apply Upd.there)); done) | fail) ?_
        refine ⟨sF, ?_⟩
        refine gb_nil (by decide +kernel) ?_
        exact ⟨(B1 ++ [b1], B2 ++ [b2]), (by repeat (first | exact trivial | refine ⟨rfl, ?_⟩)), sA, sS⟩
      · refine gk_mpbI (r := r1) (by repeat (first | with_reducible exact Sel.here | with_reducible apply Sel.there)) ?_
        refine gk_mpbI (r := r2) (by repeat (first | with_reducible exact Sel.here | with_reducible apply Sel.there)) ?_
        (repeat (refine gG ?_; try intro _))
        refine gk_ret hT rfl rfl (.tmp rfl .nil) (fun w' hk => ?_)
        exact RetM.mkP (ll := fun T' => ntL t T') (⟨some (r1, r2), N1 ++ [(strOfNums L, Value.int .i64 id)], N2 ++ [(id, Value.agg #[Value.string (strOfNums L)])]⟩ : NTab) hI2 rfl hk (fun b hb => (hE b).2 hb) (show SelAll [blk t [.map (some r1), .map (some r2)] 66, mpk r1 Value.string (N1 ++ [(strOfNums L, Value.int .i64 id)]), mpk r2 (Value.int .i64) (N2 ++ [(id, Value.agg #[Value.string (strOfNums L)])])] _ from sA)
end Go.Proofs.Ytdkgmgfadpnhbaa.Nm

