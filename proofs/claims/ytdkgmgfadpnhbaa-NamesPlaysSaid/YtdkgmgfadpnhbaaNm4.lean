/- names.Table: Drop, Id, Name, Len. -/
import Derived.Test.YtdkgmgfadpnhbaaNm3
namespace Go.Proofs.Ytdkgmgfadpnhbaa.Nm
open Go.RowKit Mem Gx
set_option linter.unusedVariables false
set_option linter.unusedSimpArgs false
set_option maxRecDepth 100000
set_option maxHeartbeats 1000000
theorem kok_s : KOk Try.prog 9 Value.string := kok_str Try.underlying9
theorem kok_i : KOk Try.prog 3 (Value.int .i64) := kok_int Try.underlying3
theorem zero_I : ∀ w, (zeroValue 3).run Try.prog w = .ok (.int .i64 0) w := fun w => rfl
theorem zero_G : ∀ w, (zeroValue 158).run Try.prog w = .ok (.agg #[.string noS]) w := fun w => rfl
def ntL (t : Nat) (T : NTab) : List Fact := match T.r with
  | none => [blk t [.map none, .map none] 66]
  | some (r1, r2) => [blk t [.map (some r1), .map (some r2)] 66, mpk r1 Value.string T.M1, mpk r2 (Value.int .i64) T.M2]
abbrev ntF (t : Nat) (T : NTab) : Fact := packF (ntL t T)
theorem nt_fin (t : Nat) (T : NTab) : ∃ E : List Nat, ∀ b, (ntF t T).S b ↔ b ∈ E := by
  obtain ⟨r, M1, M2⟩ := T
  cases r with
  | none => exact ⟨[t], fun b => ⟨fun ⟨φ, hφ, hb⟩ => by obtain rfl := List.mem_singleton.1 hφ; exact List.mem_singleton.2 hb, fun hb => ⟨_, .head _, List.mem_singleton.1 hb⟩⟩⟩
  | some r =>
    obtain ⟨r1, r2⟩ := r
    refine ⟨[t, r1, r2], fun b => ⟨fun ⟨φ, hφ, hb⟩ => ?_, fun hb => ?_⟩⟩
    · rcases List.mem_cons.1 hφ with rfl | hφ
      · have : b = t := hb
        rw [this]; exact .head _
      rcases List.mem_cons.1 hφ with rfl | hφ
      · have : b = r1 := hb
        rw [this]; exact .tail _ (.head _)
      obtain rfl := List.mem_singleton.1 hφ
      have : b = r2 := hb
      rw [this]; exact .tail _ (.tail _ (.head _))
    · rcases List.mem_cons.1 hb with rfl | hb
      · exact ⟨_, .head _, rfl⟩
      rcases List.mem_cons.1 hb with rfl | hb
      · exact ⟨_, .tail _ (.head _), rfl⟩
      obtain rfl := List.mem_singleton.1 hb
      exact ⟨_, .tail _ (.tail _ (.head _)), rfl⟩
theorem lk_some {K : Type} [DecidableEq K] {k : K} {M : List (K × Value)} {v : Value} (h : mg k M = some v) : ∃ j, lkG k M 0 = some (j, v) := (mg_lk h).imp fun j h => h.1
theorem ndrop_any (t : Nat) (T : NTab) (l : List NmD) (id : Int) (w : World) (hI : NtI T l) (h : Rd1 w (ntF t T)) :
    Calls Try.prog 24 [.pointer (some ⟨t, 0, none⟩), .int .i64 id].toArray w (RetM (ntF t T) (fun T' : NTab => NtI T' (dropN l id) ∧ T'.r = T.r) (fun _ => .bool (tB (∃ y, y ∈ l ∧ y.id = id))) (fun T' => ntF t T') w) := by
  obtain ⟨E, hE⟩ := nt_fin t T
  obtain ⟨r, M1, M2⟩ := T
  cases r with
  | none =>
    have hnil := hI.nil rfl
    subst hnil
    have hno : ¬ ∃ y, y ∈ ([] : List NmD) ∧ y.id = id := fun ⟨y, hy, _⟩ => by cases hy
    refine g_enter0 T E [blk t [.map none, .map none] 66] [] Try.func24 rfl Try.ntmps24 rfl (Kn.startP h (fun b hb => (hE b).1 hb) (fun _ h => by cases h)) ?_
    (repeat (refine gG ?_; try intro _))
    refine g_yd rfl rfl (Ys.yd (ys_lookupG_nil id rfl rfl rfl rfl Try.underlying64 kok_i zero_G)) ?_
    refine g_say 13 (.tuple #[.agg #[.string noS], .bool false]) rfl rfl ?_
    (repeat (refine gG ?_; try intro _))
    rename_i g5
    refine gk_any [0, 1] (Cut _ (fun _ : Unit => [(0, .pointer (some ⟨t, 0, none⟩)), (1, .int .i64 id), (6, .bool false)]) (fun _ => [blk t [.map none, .map none] 66]) (fun _ => [])) rfl rfl (by kernel_rfl) ?_ (cut_k fun _ => ?_)
    · skip
      refine gb_take 0 rfl (by decide +kernel) rfl rfl (ys_ev (nw := true) hT rfl sI) sF ?_
      refine gb_take 1 rfl (by decide +kernel) rfl rfl (ys_ev (nw := true) hT rfl sI) sF ?_
      refine gb_take 2 rfl (by decide +kernel) rfl rfl (ys_ev (nw := true) hT rfl sI) sF ?_
      refine gb_take 3 rfl (by decide +kernel) rfl rfl (by first | exact ys_blk hT rfl rfl mE rfl rfl | exact ys_row hT rfl rfl mE rfl rfl | exact ys_row0 hT rfl rfl mE rfl rfl) sF ?_
      refine gb_take 4 rfl (by decide +kernel) rfl rfl (ys_ev (nw := true) hT rfl sI) sF ?_
      refine gb_take 5 rfl (by decide +kernel) rfl rfl (by first | exact ys_blk hT rfl rfl mE rfl rfl | exact ys_row hT rfl rfl mE rfl rfl | exact ys_row0 hT rfl rfl mE rfl rfl) sF ?_
      refine gb_only 6 (by decide +kernel) rfl rfl ?_
      refine mv_mapDeleteG_nil rfl noS rfl rfl rfl rfl rfl Try.underlying63 kok_s ?_
      refine ⟨sF, ?_⟩
      refine gb_nil (by decide +kernel) ?_
      exact ⟨(), (by repeat (first | exact trivial | refine ⟨rfl, ?_⟩)), sA, sS⟩
    · (repeat (refine gG ?_; try intro _))
      refine g_mv rfl (mv_mapDeleteG_nil rfl id rfl rfl rfl rfl rfl Try.underlying64 kok_i ?_)
      (repeat (refine gG ?_; try intro _))
      refine gk_ret hT rfl rfl (.tmp rfl .nil) (fun w' hk => ?_)
      exact RetM.mkP (ll := fun T' => ntL t T') (⟨none, M1, M2⟩ : NTab) ⟨hI, rfl⟩ (by rw [tB_false hno]; rfl) hk (fun b hb => (hE b).2 hb) (show SelAll [blk t [.map none, .map none] 66] _ from sA)
  | some r =>
    obtain ⟨r1, r2⟩ := r
    refine g_enter0 T E [blk t [.map (some r1), .map (some r2)] 66, mpk r1 Value.string M1, mpk r2 (Value.int .i64) M2] [] Try.func24 rfl Try.ntmps24 rfl (Kn.startP h (fun b hb => (hE b).1 hb) (fun _ h => by cases h)) ?_
    (repeat (refine gG ?_; try intro _))
    refine g_yd rfl rfl ((ys_lookupG (S := [mpk r2 (Value.int .i64) M2]) id rfl rfl rfl rfl Try.underlying64 kok_i zero_G (.head _)).ydS sF) ?_
    by_cases hid : ∃ y, y ∈ l ∧ y.id = id
    · rw [tB_true hid]
      obtain ⟨y, hy, rfl⟩ := hid
      obtain ⟨j, hj⟩ := lk_some ((hI.m2.get y.id).trans (gI_some hI.ids hy))
      have hI2 := hI.drop hy (r := some (r1, r2)) (fun e => by cases e)
      refine g_say 13 (.tuple #[.agg #[.string y.s], .bool true]) rfl (by rw [hj]; rfl) ?_
      (repeat (refine gG ?_; try intro _))
      rename_i g5
      refine gk_any [0, 1, 3] (Cut _ (fun _ : Unit => [(0, .pointer (some ⟨t, 0, none⟩)), (1, .int .i64 y.id), (6, .bool true)]) (fun _ => [blk t [.map (some r1), .map (some r2)] 66, mpk r1 Value.string (mdG y.s M1), mpk r2 (Value.int .i64) M2]) (fun _ => [])) rfl rfl (by kernel_rfl) ?_ (cut_k fun _ => ?_)
      · skip
        refine gb_take 0 rfl (by decide +kernel) rfl rfl (ys_ev (nw := true) hT rfl sI) sF ?_
        refine gb_take 1 rfl (by decide +kernel) rfl rfl (ys_ev (nw := true) hT rfl sI) sF ?_
        refine gb_take 2 rfl (by decide +kernel) rfl rfl (ys_ev (nw := true) hT rfl sI) sF ?_
        refine gb_take 3 rfl (by decide +kernel) rfl rfl (by first | exact ys_blk hT rfl rfl mE rfl rfl | exact ys_row hT rfl rfl mE rfl rfl | exact ys_row0 hT rfl rfl mE rfl rfl) sF ?_
        refine gb_take 4 rfl (by decide +kernel) rfl rfl (ys_ev (nw := true) hT rfl sI) sF ?_
        refine gb_take 5 rfl (by decide +kernel) rfl rfl (by first | exact ys_blk hT rfl rfl mE rfl rfl | exact ys_row hT rfl rfl mE rfl rfl | exact ys_row0 hT rfl rfl mE rfl rfl) sF ?_
        refine gb_only 6 (by decide +kernel) rfl rfl ?_
        refine mv_mapDeleteG rfl y.s rfl rfl rfl rfl rfl Try.underlying63 kok_s (by first | ((repeat (first | with_reducible exact Upd.here _ | with_reducible apply Upd.there)); done) | ((repeat (first | exact Upd.here _ | apply Upd.there)); done) | fail) ?_
        refine ⟨sF, ?_⟩
        refine gb_nil (by decide +kernel) ?_
        exact ⟨(), (by repeat (first | exact trivial | refine ⟨rfl, ?_⟩)), sA, sS⟩
      · (repeat (refine gG ?_; try intro _))
        refine g_mv rfl (mv_mapDeleteG rfl y.id rfl rfl rfl rfl rfl Try.underlying64 kok_i (by first | ((repeat (first | with_reducible exact Upd.here _ | with_reducible apply Upd.there)); done) | ((repeat (first | exact Upd.here _ | apply Upd.there)); done) | fail) ?_)
        (repeat (refine gG ?_; try intro _))
        refine gk_ret hT rfl rfl (.tmp rfl .nil) (fun w' hk => ?_)
        exact RetM.mkP (ll := fun T' => ntL t T') (⟨some (r1, r2), mdG y.s M1, mdG y.id M2⟩ : NTab) ⟨hI2, rfl⟩ rfl hk (fun b hb => (hE b).2 hb) (show SelAll [blk t [.map (some r1), .map (some r2)] 66, mpk r1 Value.string (mdG y.s M1), mpk r2 (Value.int .i64) (mdG y.id M2)] _ from sA)
    · rw [tB_false hid]
      have hne : ∀ y, y ∈ l → y.id ≠ id := fun y hy e => hid ⟨y, hy, e⟩
      have hj := mg_none.1 ((hI.m2.get id).trans (gI_none hne))
      have e1 := hI.no1
      have e2 := hI.no2 hne
      have hd : dropN l id = l := dropN_no fun y hy => by simpa using hne y hy
      rw [hd]
      refine g_say 13 (.tuple #[.agg #[.string noS], .bool false]) rfl (by rw [hj]; rfl) ?_
      (repeat (refine gG ?_; try intro _))
      rename_i g5
      refine gk_any [0, 1, 3] (Cut _ (fun _ : Unit => [(0, .pointer (some ⟨t, 0, none⟩)), (1, .int .i64 id), (6, .bool false)]) (fun _ => [blk t [.map (some r1), .map (some r2)] 66, mpk r1 Value.string (mdG noS M1), mpk r2 (Value.int .i64) M2]) (fun _ => [])) rfl rfl (by kernel_rfl) ?_ (cut_k fun _ => ?_)
      · skip
        refine gb_take 0 rfl (by decide +kernel) rfl rfl (ys_ev (nw := true) hT rfl sI) sF ?_
        refine gb_take 1 rfl (by decide +kernel) rfl rfl (ys_ev (nw := true) hT rfl sI) sF ?_
        refine gb_take 2 rfl (by decide +kernel) rfl rfl (ys_ev (nw := true) hT rfl sI) sF ?_
        refine gb_take 3 rfl (by decide +kernel) rfl rfl (by first | exact ys_blk hT rfl rfl mE rfl rfl | exact ys_row hT rfl rfl mE rfl rfl | exact ys_row0 hT rfl rfl mE rfl rfl) sF ?_
        refine gb_take 4 rfl (by decide +kernel) rfl rfl (ys_ev (nw := true) hT rfl sI) sF ?_
        refine gb_take 5 rfl (by decide +kernel) rfl rfl (by first | exact ys_blk hT rfl rfl mE rfl rfl | exact ys_row hT rfl rfl mE rfl rfl | exact ys_row0 hT rfl rfl mE rfl rfl) sF ?_
        refine gb_only 6 (by decide +kernel) rfl rfl ?_
        refine mv_mapDeleteG rfl noS rfl rfl rfl rfl rfl Try.underlying63 kok_s (by first | ((repeat (first | with_reducible exact Upd.here _ | with_reducible apply Upd.there)); done) | ((repeat (first | exact Upd.here _ | apply Upd.there)); done) | fail) ?_
        refine ⟨sF, ?_⟩
        refine gb_nil (by decide +kernel) ?_
        exact ⟨(), (by repeat (first | exact trivial | refine ⟨rfl, ?_⟩)), sA, sS⟩
      · (repeat (refine gG ?_; try intro _))
        refine g_mv rfl (mv_mapDeleteG rfl id rfl rfl rfl rfl rfl Try.underlying64 kok_i (by first | ((repeat (first | with_reducible exact Upd.here _ | with_reducible apply Upd.there)); done) | ((repeat (first | exact Upd.here _ | apply Upd.there)); done) | fail) ?_)
        (repeat (refine gG ?_; try intro _))
        refine gk_ret hT rfl rfl (.tmp rfl .nil) (fun w' hk => ?_)
        exact RetM.mkP (ll := fun T' => ntL t T') (⟨some (r1, r2), mdG noS M1, mdG id M2⟩ : NTab) ⟨(by rw [show mdG noS M1 = M1 from e1, show mdG id M2 = M2 from e2]; exact hI), rfl⟩ rfl hk (fun b hb => (hE b).2 hb) (show SelAll [blk t [.map (some r1), .map (some r2)] 66, mpk r1 Value.string (mdG noS M1), mpk r2 (Value.int .i64) (mdG id M2)] _ from sA)
theorem nid_any (t : Nat) (T : NTab) (l : List NmD) (s : ByteArray) (w : World) (hI : NtI T l) (h : Rd1 w (ntF t T)) :
    Calls Try.prog 76 [.pointer (some ⟨t, 0, none⟩), .string s].toArray w fun e w' => e = .returned (.tuple #[.int .i64 (((l.find? (fun y => decide (y.s = s))).map (·.id)).getD 0), .bool (tB (∃ y, y ∈ l ∧ y.s = s))]) ∧ Below w.heap.size w w' := by
  obtain ⟨r, M1, M2⟩ := T
  cases r with
  | none =>
    have hnil := hI.nil rfl
    subst hnil
    have hno : ¬ ∃ y, y ∈ ([] : List NmD) ∧ y.s = s := fun ⟨y, hy, _⟩ => by cases hy
    have hB := Rd1.unpack h (φ := blk t [.map none, .map none] 66) (.head _)
    refine g_enter0 T [] [] [blk t [.map none, .map none] 66] Try.func76 rfl Try.ntmps76 rfl (Rds.cons hB .nil).kn ?_
    refine gk_rowR (g := t) mE ?_
    (repeat (refine gG ?_; try intro _))
    refine g_yd rfl rfl (Ys.yd (ys_lookupG_nil s rfl rfl rfl rfl Try.underlying63 kok_s zero_I)) ?_
    refine g_say 14 (.tuple #[.int .i64 0, .bool false]) rfl rfl ?_
    (repeat (refine gG ?_; try intro _))
    refine gk_ret hT rfl rfl (.tmp rfl (.tmp rfl .nil)) (fun w' hk => ?_)
    exact ⟨by rw [tB_false hno]; rfl, hk.toBelow⟩
  | some r =>
    obtain ⟨r1, r2⟩ := r
    have hB := Rd1.unpack h (φ := blk t [.map (some r1), .map (some r2)] 66) (.head _)
    have hM := Rd1.unpack h (φ := mpk r1 Value.string M1) (.tail _ (.head _))
    refine g_enter0 T [] [] [blk t [.map (some r1), .map (some r2)] 66, mpk r1 Value.string M1] Try.func76 rfl Try.ntmps76 rfl (Rds.cons hB (.cons hM .nil)).kn ?_
    refine gk_rowR (g := t) mE ?_
    (repeat (refine gG ?_; try intro _))
    refine g_yd rfl rfl ((ys_lookupG (S := [mpk r1 Value.string M1]) s rfl rfl rfl rfl Try.underlying63 kok_s zero_I (.head _)).ydS sF) ?_
    by_cases hid : ∃ y, y ∈ l ∧ y.s = s
    · rw [tB_true hid]
      obtain ⟨y, hy, rfl⟩ := hid
      obtain ⟨j, hj⟩ := lk_some ((hI.m1.get y.s).trans (gS_some hI.nms hy))
      rw [(find_uniq (f := fun y : NmD => y.s) hI.nms).2 ⟨hy, rfl⟩]
      refine g_say 14 (.tuple #[.int .i64 y.id, .bool true]) rfl (by rw [hj]; rfl) ?_
      (repeat (refine gG ?_; try intro _))
      refine gk_ret hT rfl rfl (.tmp rfl (.tmp rfl .nil)) (fun w' hk => ?_)
      exact ⟨rfl, hk.toBelow⟩
    · rw [tB_false hid]
      have hne : ∀ y, y ∈ l → y.s ≠ s := fun y hy e => hid ⟨y, hy, e⟩
      have hj := mg_none.1 ((hI.m1.get s).trans (gS_none hne))
      rw [(find_none (f := fun y : NmD => y.s)).2 hne]
      refine g_say 14 (.tuple #[.int .i64 0, .bool false]) rfl (by rw [hj]; rfl) ?_
      (repeat (refine gG ?_; try intro _))
      refine gk_ret hT rfl rfl (.tmp rfl (.tmp rfl .nil)) (fun w' hk => ?_)
      exact ⟨rfl, hk.toBelow⟩
theorem nname_any (t : Nat) (T : NTab) (l : List NmD) (id : Int) (w : World) (hI : NtI T l) (h : Rd1 w (ntF t T)) :
    Calls Try.prog 77 [.pointer (some ⟨t, 0, none⟩), .int .i64 id].toArray w fun e w' => e = .returned (.tuple #[.string (((l.find? (fun y => decide (y.id = id))).map (·.s)).getD noS), .bool (tB (∃ y, y ∈ l ∧ y.id = id))]) ∧ Below w.heap.size w w' := by
  obtain ⟨r, M1, M2⟩ := T
  cases r with
  | none =>
    have hnil := hI.nil rfl
    subst hnil
    have hno : ¬ ∃ y, y ∈ ([] : List NmD) ∧ y.id = id := fun ⟨y, hy, _⟩ => by cases hy
    have hB := Rd1.unpack h (φ := blk t [.map none, .map none] 66) (.head _)
    refine g_enter0 T [] [] [blk t [.map none, .map none] 66] Try.func77 rfl Try.ntmps77 rfl (Rds.cons hB .nil).kn ?_
    refine gk_rowR (g := t) mE ?_
    (repeat (refine gG ?_; try intro _))
    refine g_yd rfl rfl (Ys.yd (ys_lookupG_nil id rfl rfl rfl rfl Try.underlying64 kok_i zero_G)) ?_
    refine g_say 14 (.tuple #[.agg #[.string noS], .bool false]) rfl rfl ?_
    (repeat (refine gG ?_; try intro _))
    refine gk_ret hT rfl rfl (.tmp rfl (.tmp rfl .nil)) (fun w' hk => ?_)
    exact ⟨by rw [tB_false hno]; rfl, hk.toBelow⟩
  | some r =>
    obtain ⟨r1, r2⟩ := r
    have hB := Rd1.unpack h (φ := blk t [.map (some r1), .map (some r2)] 66) (.head _)
    have hM := Rd1.unpack h (φ := mpk r2 (Value.int .i64) M2) (.tail _ (.tail _ (.head _)))
    refine g_enter0 T [] [] [blk t [.map (some r1), .map (some r2)] 66, mpk r2 (Value.int .i64) M2] Try.func77 rfl Try.ntmps77 rfl (Rds.cons hB (.cons hM .nil)).kn ?_
    refine gk_rowR (g := t) mE ?_
    (repeat (refine gG ?_; try intro _))
    refine g_yd rfl rfl ((ys_lookupG (S := [mpk r2 (Value.int .i64) M2]) id rfl rfl rfl rfl Try.underlying64 kok_i zero_G (.head _)).ydS sF) ?_
    by_cases hid : ∃ y, y ∈ l ∧ y.id = id
    · rw [tB_true hid]
      obtain ⟨y, hy, rfl⟩ := hid
      obtain ⟨j, hj⟩ := lk_some ((hI.m2.get y.id).trans (gI_some hI.ids hy))
      rw [(find_uniq (f := fun y : NmD => y.id) hI.ids).2 ⟨hy, rfl⟩]
      refine g_say 14 (.tuple #[.agg #[.string y.s], .bool true]) rfl (by rw [hj]; rfl) ?_
      (repeat (refine gG ?_; try intro _))
      refine gk_ret hT rfl rfl (.tmp rfl (.tmp rfl .nil)) (fun w' hk => ?_)
      exact ⟨rfl, hk.toBelow⟩
    · rw [tB_false hid]
      have hne : ∀ y, y ∈ l → y.id ≠ id := fun y hy e => hid ⟨y, hy, e⟩
      have hj := mg_none.1 ((hI.m2.get id).trans (gI_none hne))
      rw [(find_none (f := fun y : NmD => y.id)).2 hne]
      refine g_say 14 (.tuple #[.agg #[.string noS], .bool false]) rfl (by rw [hj]; rfl) ?_
      (repeat (refine gG ?_; try intro _))
      refine gk_ret hT rfl rfl (.tmp rfl (.tmp rfl .nil)) (fun w' hk => ?_)
      exact ⟨rfl, hk.toBelow⟩
theorem NtI.keys {T : NTab} {l : List NmD} (h : NtI T l) : (T.M1.map (·.1)).Perm (l.map (·.s)) := (List.perm_ext_iff_of_nodup h.m1.nodup h.nms).2 fun k => by
  have h1 := h.m1.get k
  have h2 := @mg_mem _ _ k T.M1
  rw [h1] at h2
  constructor
  · intro hk
    refine Classical.byContradiction fun hn => ?_
    exact h2.1 (gS_none fun y hy e => hn (e ▸ List.mem_map_of_mem hy)) hk
  · intro hk
    obtain ⟨y, hy, rfl⟩ := List.mem_map.1 hk
    refine Classical.byContradiction fun hn => ?_
    have h3 := h2.2 hn
    rw [gS_some h.nms hy] at h3
    cases h3
theorem NtI.none_nil {T : NTab} {l : List NmD} (h : NtI T l) (hr : T.r = none) : T.M1 = [] := by
  have h1 := h.keys.length_eq
  rw [h.nil hr] at h1
  exact List.length_eq_zero_iff.1 (by simpa using h1)
theorem nlen_any (t : Nat) (T : NTab) (l : List NmD) (w : World) (hI : NtI T l) (h : Rd1 w (ntF t T)) :
    Calls Try.prog 78 [.pointer (some ⟨t, 0, none⟩)].toArray w fun e w' => e = .returned (.int .i64 (l.length : Int)) ∧ Below w.heap.size w w' := by
  have hl := hI.keys.length_eq
  rw [List.length_map, List.length_map] at hl
  obtain ⟨r, M1, M2⟩ := T
  cases r with
  | none =>
    have hnil := hI.nil rfl
    subst hnil
    have hB := Rd1.unpack h (φ := blk t [.map none, .map none] 66) (.head _)
    refine g_enter0 T [] [] [blk t [.map none, .map none] 66] Try.func78 rfl Try.ntmps78 rfl (Rds.cons hB .nil).kn ?_
    refine gk_rowR (g := t) mE ?_
    (repeat (refine gG ?_; try intro _))
    refine gk_ret hT rfl rfl (.tmp rfl .nil) (fun w' hk => ?_)
    exact ⟨rfl, hk.toBelow⟩
  | some r =>
    obtain ⟨r1, r2⟩ := r
    have hB := Rd1.unpack h (φ := blk t [.map (some r1), .map (some r2)] 66) (.head _)
    have hM := Rd1.unpack h (φ := mpk r1 Value.string M1) (.tail _ (.head _))
    refine g_enter0 T [] [] [blk t [.map (some r1), .map (some r2)] 66, mpk r1 Value.string M1] Try.func78 rfl Try.ntmps78 rfl (Rds.cons hB (.cons hM .nil)).kn ?_
    refine gk_rowR (g := t) mE ?_
    (repeat (refine gG ?_; try intro _))
    refine g_yd rfl rfl ((ys_map_len (S := [mpk r1 Value.string M1]) rfl rfl rfl rfl Try.underlying63 (.head _)).ydS sF) ?_
    (repeat (refine gG ?_; try intro _))
    refine gk_ret hT rfl rfl (.tmp rfl .nil) (fun w' hk => ?_)
    refine ⟨?_, hk.toBelow⟩
    show Ending.returned (.int .i64 (M1.length : Int)) = _
    rw [show M1.length = l.length from hl]
end Go.Proofs.Ytdkgmgfadpnhbaa.Nm

