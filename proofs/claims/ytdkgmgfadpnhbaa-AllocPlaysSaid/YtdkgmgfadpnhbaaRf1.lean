/- refs.Table: Count, Hold, Drop, Len, Sum. -/
import Derived.Test.YtdkgmgfadpnhbaaKyU
namespace Go.Proofs.Ytdkgmgfadpnhbaa.Rf
open Go.RowKit Mem Gx
set_option linter.unusedVariables false
set_option linter.unusedSimpArgs false
set_option maxRecDepth 100000
set_option maxHeartbeats 1000000
theorem kok_u : KOk Try.prog 87 (Value.int .u32) := kok_int Try.underlying87
theorem zero_I : ∀ w, (zeroValue 3).run Try.prog w = .ok (.int .i64 0) w := fun w => rfl
/-- A map's entries. -/
def vals (M : List (Int × Int)) : List (Int × Value) := M.map fun p => (p.1, .int .i64 p.2)
/-- A table: its map (if there is one), its sum. -/
structure TabS where
  r : Option Nat
  M : List (Int × Value)
  sum : Int
def tbL (t : Nat) (T : TabS) : List Fact := match T.r with
  | none => [blk t [.map none, .int .i64 T.sum] 83]
  | some r => [blk t [.map (some r), .int .i64 T.sum] 83, mpk r (Value.int .u32) T.M]
abbrev tbF (t : Nat) (T : TabS) : Fact := packF (tbL t T)
def cntV (l : List Int) (k : Int) : Option Value := if l.count k = 0 then none else some (.int .i64 (l.count k : Int))
/-- The table is of a row. -/
structure RfI (T : TabS) (l : List Int) : Prop where
  nil : T.r = none → l = []
  sum : T.sum = l.length
  map : MapIs T.M (cntV l)
  len : l.length ≤ 1000
theorem RfI.look {T : TabS} {l : List Int} (h : RfI T l) (k : Int) : ((lkG k T.M 0).map (·.2)).getD (.int .i64 0) = .int .i64 (l.count k : Int) := by
  have h1 : mg k T.M = cntV l k := h.map.get k
  unfold mg at h1
  rw [h1]
  unfold cntV
  split
  · rename_i h0; rw [h0]; rfl
  · rfl
theorem RfI.fin (t : Nat) (T : TabS) : ∃ E : List Nat, ∀ b, (tbF t T).S b ↔ b ∈ E := by
  obtain ⟨r, M, s⟩ := T
  cases r with
  | none => exact ⟨[t], fun b => ⟨fun ⟨φ, hφ, hb⟩ => by obtain rfl := List.mem_singleton.1 hφ; exact List.mem_singleton.2 hb, fun hb => ⟨_, .head _, List.mem_singleton.1 hb⟩⟩⟩
  | some r => exact ⟨[t, r], fun b => ⟨fun ⟨φ, hφ, hb⟩ => by
      rcases List.mem_cons.1 hφ with rfl | hφ
      · have : b = t := hb
        rw [this]; exact .head _
      · obtain rfl := List.mem_singleton.1 hφ
        have : b = r := hb
        rw [this]; exact .tail _ (.head _), fun hb => by
      rcases List.mem_cons.1 hb with rfl | hb
      · exact ⟨_, .head _, rfl⟩
      · obtain rfl := List.mem_singleton.1 hb
        exact ⟨_, .tail _ (.head _), rfl⟩⟩⟩
theorem count_any (t : Nat) (T : TabS) (l : List Int) (x : Int) (w : World) (hI : RfI T l) (h : Rd1 w (tbF t T)) :
    Calls Try.prog 84 [.pointer (some ⟨t, 0, none⟩), .int .u32 x].toArray w fun e w' => e = .returned (.int .i64 (l.count x : Int)) ∧ Below w.heap.size w w' := by
  have hl := hI.look x
  obtain ⟨r, M, s⟩ := T
  cases r with
  | none =>
    have hB := Rd1.unpack h (φ := blk t [.map none, .int .i64 s] 83) (.head _)
    refine g_enter0 T [] [] [blk t [.map none, .int .i64 s] 83] Try.func84 rfl Try.ntmps84 rfl (Rds.cons hB .nil).kn ?_
    refine gk_rowR (g := t) mE ?_
    (repeat (refine gG ?_; try intro _))
    refine g_yd rfl rfl (Ys.yd (ys_lookupG_nil x rfl rfl rfl rfl Try.underlying81 kok_u zero_I)) ?_
    (repeat (refine gG ?_; try intro _))
    refine gk_ret hT rfl rfl (.tmp rfl .nil) (fun w' hk => ?_)
    refine ⟨?_, hk.toBelow⟩
    rw [hI.nil rfl]
    rfl
  | some r =>
    have hB := Rd1.unpack h (φ := blk t [.map (some r), .int .i64 s] 83) (.head _)
    have hM := Rd1.unpack h (φ := mpk r (Value.int .u32) M) (.tail _ (.head _))
    refine g_enter0 T [] [] [blk t [.map (some r), .int .i64 s] 83, mpk r (Value.int .u32) M] Try.func84 rfl Try.ntmps84 rfl (Rds.cons hB (.cons hM .nil)).kn ?_
    refine gk_rowR (g := t) mE ?_
    (repeat (refine gG ?_; try intro _))
    refine g_yd rfl rfl ((ys_lookupG (S := [mpk r (Value.int .u32) M]) x rfl rfl rfl rfl Try.underlying81 kok_u zero_I (.head _)).ydS sF) ?_
    refine g_say 10 (.int .i64 (l.count x : Int)) rfl hl ?_
    (repeat (refine gG ?_; try intro _))
    refine gk_ret hT rfl rfl (.tmp rfl .nil) (fun w' hk => ?_)
    exact ⟨rfl, hk.toBelow⟩
theorem cnt_snoc (l : List Int) (b k : Int) : (l ++ [b]).count k = l.count k + if k = b then 1 else 0 := by
  rw [List.count_append, List.count_singleton]
  by_cases h : k = b
  · subst h; simp
  · rw [if_neg h, if_neg (by simpa using fun e => h e.symm)]
theorem hold_any (t : Nat) (T : TabS) (l : List Int) (x : Int) (w : World) (hx : x ≠ 0) (hl9 : l.length < 1000) (hI : RfI T l) (h : Rd1 w (tbF t T)) :
    Calls Try.prog 34 [.pointer (some ⟨t, 0, none⟩), .int .u32 x].toArray w (RetM (tbF t T) (fun T' : TabS => RfI T' (l ++ [x])) (fun _ => .int .i64 ((l ++ [x]).count x : Int)) (fun T' => tbF t T') w) := by
  obtain ⟨E, hE⟩ := RfI.fin t T
  have hll := hI.len
  have hcn : l.count x ≤ l.length := List.count_le_length
  have hsum := hI.sum
  obtain ⟨r, M, s⟩ := T
  have key : ∀ (r' : Nat) (M0 : List (Int × Value)), MapIs M0 (cntV l) → RfI ⟨some r', msG x (.int .i64 (l.count x + 1 : Int)) M0, s + 1⟩ (l ++ [x]) := fun r' M0 hM => ⟨fun e => (by cases e), by show s + 1 = _; rw [List.length_append]; simp at hsum ⊢; omega, hM.set fun k' => by
    unfold cntV
    rw [cnt_snoc]
    by_cases e : k' = x
    · subst e; rw [if_pos rfl, if_pos rfl, if_neg (by omega)]; push_cast; rfl
    · rw [if_neg e, if_neg e, Nat.add_zero], by rw [List.length_append]; simp; omega⟩
  cases r with
  | none =>
    have hnil := hI.nil rfl
    have hc0 : l.count x = 0 := by rw [hnil]; rfl
    have hs0 : s = 0 := by rw [show s = (l.length : Int) from hsum, hnil]; rfl
    refine g_enter0 T E [blk t [.map none, .int .i64 s] 83] [] Try.func34 rfl Try.ntmps34 rfl (Kn.startP h (fun b hb => (hE b).1 hb) (fun _ h => by cases h)) ?_
    (repeat' (first | (refine gG ?_; try intro _) | ((first | refine g_split rfl rfl tE (fun _ => ?_) (fun _ => ?_) | refine gk_cond rfl rfl tE (fun _ => ?_) (fun _ => ?_)) <;> (try first | (exfalso; omega; done) | (rename_i hx; exact absurd rfl hx) | (rename_i hx; cases hx; done)))))
    refine g_yd rfl rfl (Ys.yd (ys_map_nil hT rfl rfl rfl Try.underlying81)) ?_
    (repeat (refine gG ?_; try intro _))
    refine g_mv rfl (mv_makeMapG rfl (Value.int .u32) rfl (fun r => ?_))
    (repeat (refine gG ?_; try intro _))
    have hI2 := key r [] (by rw [hnil]; exact MapIs.nil.congr fun k => by simp [cntV])
    refine g_yd rfl rfl ((ys_lookupG (S := [mpk r (Value.int .u32) []]) x rfl rfl rfl rfl Try.underlying81 kok_u zero_I (.head _)).ydS sF) ?_
    refine g_say 21 (.int .i64 (l.count x : Int)) rfl (by rw [hc0]; rfl) ?_
    (repeat (refine gG ?_; try intro _))
    refine g_mv rfl (mv_mapUpdateG rfl x rfl rfl rfl rfl rfl Try.underlying81 kok_u (by first | ((repeat (first | with_reducible exact Upd.here _ | with_reducible apply Upd.there)); done) | ((repeat (first | exact Upd.here _ | apply Upd.there)); done) | fail) ?_)
    (repeat (refine gG ?_; try intro _))
    refine g_yd rfl rfl ((ys_lookupG (S := [mpk r (Value.int .u32) (msG x (.int .i64 (l.count x + 1 : Int)) [])]) x rfl rfl rfl rfl Try.underlying81 kok_u zero_I (.head _)).ydS sF) ?_
    refine g_say 35 (.int .i64 ((l ++ [x]).count x : Int)) rfl (hI2.look x) ?_
    (repeat (refine gG ?_; try intro _))
    refine gk_ret hT rfl rfl (.tmp rfl .nil) (fun w' hk => ?_)
    exact RetM.mkP (ll := fun T' => tbL t T') (⟨some r, msG x (.int .i64 (l.count x + 1 : Int)) [], s + 1⟩ : TabS) hI2 rfl hk (fun b hb => (hE b).2 hb) (show SelAll [blk t [.map (some r), .int .i64 (s + 1)] 83, mpk r (Value.int .u32) (msG x (.int .i64 (l.count x + 1 : Int)) [])] _ from sA)
  | some r =>
    have hI2 := key r M hI.map
    refine g_enter0 T E [blk t [.map (some r), .int .i64 s] 83, mpk r (Value.int .u32) M] [] Try.func34 rfl Try.ntmps34 rfl (Kn.startP h (fun b hb => (hE b).1 hb) (fun _ h => by cases h)) ?_
    have hsv : s = (l.length : Int) := hsum
    (repeat' (first | (refine gG ?_; try intro _) | ((first | refine g_split rfl rfl tE (fun _ => ?_) (fun _ => ?_) | refine gk_cond rfl rfl tE (fun _ => ?_) (fun _ => ?_)) <;> (try first | (exfalso; omega; done) | (rename_i hx; exact absurd rfl hx) | (rename_i hx; cases hx; done)))))
    refine g_yd rfl rfl (Ys.yd (ys_map_nil hT rfl rfl rfl Try.underlying81)) ?_
    (repeat (refine gG ?_; try intro _))
    refine g_yd rfl rfl ((ys_lookupG (S := [mpk r (Value.int .u32) M]) x rfl rfl rfl rfl Try.underlying81 kok_u zero_I (.head _)).ydS sF) ?_
    refine g_say 21 (.int .i64 (l.count x : Int)) rfl (hI.look x) ?_
    (repeat (refine gG ?_; try intro _))
    refine g_mv rfl (mv_mapUpdateG rfl x rfl rfl rfl rfl rfl Try.underlying81 kok_u (by first | ((repeat (first | with_reducible exact Upd.here _ | with_reducible apply Upd.there)); done) | ((repeat (first | exact Upd.here _ | apply Upd.there)); done) | fail) ?_)
    (repeat (refine gG ?_; try intro _))
    refine g_yd rfl rfl ((ys_lookupG (S := [mpk r (Value.int .u32) (msG x (.int .i64 (l.count x + 1 : Int)) M)]) x rfl rfl rfl rfl Try.underlying81 kok_u zero_I (.head _)).ydS sF) ?_
    refine g_say 35 (.int .i64 ((l ++ [x]).count x : Int)) rfl (hI2.look x) ?_
    (repeat (refine gG ?_; try intro _))
    refine gk_ret hT rfl rfl (.tmp rfl .nil) (fun w' hk => ?_)
    exact RetM.mkP (ll := fun T' => tbL t T') (⟨some r, msG x (.int .i64 (l.count x + 1 : Int)) M, s + 1⟩ : TabS) hI2 rfl hk (fun b hb => (hE b).2 hb) (show SelAll [blk t [.map (some r), .int .i64 (s + 1)] 83, mpk r (Value.int .u32) (msG x (.int .i64 (l.count x + 1 : Int)) M)] _ from sA)
theorem hold0_any (t : Nat) (w : World) : Calls Try.prog 34 [.pointer (some ⟨t, 0, none⟩), .int .u32 0].toArray w fun e w' => e = .returned (.int .i64 0) ∧ Below w.heap.size w w' := by
  refine g_enter0 T [] [] [] Try.func34 rfl Try.ntmps34 rfl (Kn.start _) ?_
  (repeat' (first | (refine gG ?_; try intro _) | ((first | refine g_split rfl rfl tE (fun _ => ?_) (fun _ => ?_) | refine gk_cond rfl rfl tE (fun _ => ?_) (fun _ => ?_)) <;> (try first | (exfalso; omega; done) | (rename_i hx; exact absurd rfl hx) | (rename_i hx; cases hx; done)))))
  refine gk_ret hT rfl rfl (.tmp rfl .nil) (fun w' hk => ?_)
  exact ⟨rfl, hk.toBelow⟩
theorem drop0_any (t : Nat) (T : TabS) (l : List Int) (x : Int) (w : World) (hc : l.count x = 0) (hI : RfI T l) (h : Rd1 w (tbF t T)) :
    Calls Try.prog 30 [.pointer (some ⟨t, 0, none⟩), .int .u32 x].toArray w fun e w' => e = .returned (.tuple #[.int .i64 0, .bool false]) ∧ Below w.heap.size w w' := by
  have hl := hI.look x
  rw [hc] at hl
  obtain ⟨r, M, s⟩ := T
  cases r with
  | none =>
    have hB := Rd1.unpack h (φ := blk t [.map none, .int .i64 s] 83) (.head _)
    refine g_enter0 T [] [] [blk t [.map none, .int .i64 s] 83] Try.func30 rfl Try.ntmps30 rfl (Rds.cons hB .nil).kn ?_
    refine gk_rowR (g := t) mE ?_
    (repeat (refine gG ?_; try intro _))
    refine g_yd rfl rfl (Ys.yd (ys_lookupG_nil x rfl rfl rfl rfl Try.underlying81 kok_u zero_I)) ?_
    refine g_say 11 (.int .i64 0) rfl rfl ?_
    (repeat' (first | (refine gG ?_; try intro _) | ((first | refine g_split rfl rfl tE (fun _ => ?_) (fun _ => ?_) | refine gk_cond rfl rfl tE (fun _ => ?_) (fun _ => ?_)) <;> (try first | (exfalso; omega; done) | (rename_i hx; exact absurd rfl hx) | (rename_i hx; cases hx; done)))))
    refine gk_ret hT rfl rfl (.tmp rfl (.tmp rfl .nil)) (fun w' hk => ?_)
    exact ⟨rfl, hk.toBelow⟩
  | some r =>
    have hB := Rd1.unpack h (φ := blk t [.map (some r), .int .i64 s] 83) (.head _)
    have hM := Rd1.unpack h (φ := mpk r (Value.int .u32) M) (.tail _ (.head _))
    refine g_enter0 T [] [] [blk t [.map (some r), .int .i64 s] 83, mpk r (Value.int .u32) M] Try.func30 rfl Try.ntmps30 rfl (Rds.cons hB (.cons hM .nil)).kn ?_
    refine gk_rowR (g := t) mE ?_
    (repeat (refine gG ?_; try intro _))
    refine g_yd rfl rfl ((ys_lookupG (S := [mpk r (Value.int .u32) M]) x rfl rfl rfl rfl Try.underlying81 kok_u zero_I (.head _)).ydS sF) ?_
    refine g_say 11 (.int .i64 0) rfl hl ?_
    (repeat' (first | (refine gG ?_; try intro _) | ((first | refine g_split rfl rfl tE (fun _ => ?_) (fun _ => ?_) | refine gk_cond rfl rfl tE (fun _ => ?_) (fun _ => ?_)) <;> (try first | (exfalso; omega; done) | (rename_i hx; exact absurd rfl hx) | (rename_i hx; cases hx; done)))))
    refine gk_ret hT rfl rfl (.tmp rfl (.tmp rfl .nil)) (fun w' hk => ?_)
    exact ⟨rfl, hk.toBelow⟩
theorem drop_any (t : Nat) (T : TabS) (l : List Int) (x : Int) (w : World) (hc : 0 < l.count x) (hI : RfI T l) (h : Rd1 w (tbF t T)) :
    Calls Try.prog 30 [.pointer (some ⟨t, 0, none⟩), .int .u32 x].toArray w (RetM (tbF t T) (fun T' : TabS => RfI T' (l.erase x)) (fun _ => .tuple #[.int .i64 ((l.erase x).count x : Int), .bool true]) (fun T' => tbF t T') w) := by
  obtain ⟨E, hE⟩ := RfI.fin t T
  have hll := hI.len
  have hcn : l.count x ≤ l.length := List.count_le_length
  have hsum := hI.sum
  have hmem : x ∈ l := List.count_pos_iff.1 hc
  have hel : (l.erase x).length = l.length - 1 := List.length_erase_of_mem hmem
  have hec : ∀ k, (l.erase x).count k = l.count k - if k = x then 1 else 0 := fun k => by
    by_cases e : k = x
    · subst e; rw [List.count_erase_self, if_pos rfl]
    · rw [List.count_erase_of_ne e, if_neg e, Nat.sub_zero]
  have hex : ((l.erase x).count x : Int) = (l.count x : Int) - 1 := by rw [hec, if_pos rfl]; omega
  obtain ⟨r, M, s⟩ := T
  cases r with
  | none =>
    have hnil := hI.nil rfl
    rw [hnil] at hc
    exact absurd hc (by simp)
  | some r =>
    have hsv : s = (l.length : Int) := hsum
    refine g_enter0 T E [blk t [.map (some r), .int .i64 s] 83, mpk r (Value.int .u32) M] [] Try.func30 rfl Try.ntmps30 rfl (Kn.startP h (fun b hb => (hE b).1 hb) (fun _ h => by cases h)) ?_
    (repeat (refine gG ?_; try intro _))
    refine g_yd rfl rfl ((ys_lookupG (S := [mpk r (Value.int .u32) M]) x rfl rfl rfl rfl Try.underlying81 kok_u zero_I (.head _)).ydS sF) ?_
    refine g_say 11 (.int .i64 (l.count x : Int)) rfl (hI.look x) ?_
    (repeat' (first | (refine gG ?_; try intro _) | ((first | refine g_split rfl rfl tE (fun _ => ?_) (fun _ => ?_) | refine gk_cond rfl rfl tE (fun _ => ?_) (fun _ => ?_)) <;> (try first | (exfalso; omega; done) | (rename_i hx; exact absurd rfl hx) | (rename_i hx; cases hx; done)))))
    refine g_yd rfl rfl ((ys_lookupG (S := [mpk r (Value.int .u32) M]) x rfl rfl rfl rfl Try.underlying81 kok_u zero_I (.head _)).ydS sF) ?_
    refine g_say 18 (.int .i64 (l.count x : Int)) rfl (hI.look x) ?_
    (repeat (refine gG ?_; try intro _))
    refine g_mv rfl (mv_mapUpdateG rfl x rfl rfl rfl rfl rfl Try.underlying81 kok_u (by first | ((repeat (first | with_reducible exact Upd.here _ | with_reducible apply Upd.there)); done) | ((repeat (first | exact Upd.here _ | apply Upd.there)); done) | fail) ?_)
    obtain ⟨M2, hM2⟩ : ∃ M2, M2 = msG x (.int .i64 ((l.count x : Int) - 1)) M := ⟨_, rfl⟩
    rw [← hM2]
    have hg2 : mg x M2 = some (.int .i64 ((l.count x : Int) - 1)) := by rw [hM2, mg_set, if_pos rfl]
    have hl2 : ((lkG x M2 0).map (·.2)).getD (.int .i64 0) = .int .i64 ((l.erase x).count x : Int) := by
      have h1 := hg2
      unfold mg at h1
      rw [h1, hex]
      rfl
    have hm2 : MapIs M2 (fun k => if k = x then some (.int .i64 ((l.count x : Int) - 1)) else cntV l k) := by
      rw [hM2]
      exact hI.map.set fun k => rfl
    (repeat (refine gG ?_; try intro _))
    refine g_yd rfl rfl ((ys_lookupG (S := [mpk r (Value.int .u32) M2]) x rfl rfl rfl rfl Try.underlying81 kok_u zero_I (.head _)).ydS sF) ?_
    refine g_say 32 (.int .i64 ((l.erase x).count x : Int)) rfl hl2 ?_
    by_cases h1 : 1 < l.count x
    · have hI2 : RfI ⟨some r, M2, s - 1⟩ (l.erase x) := ⟨fun e => (by cases e), by show s - 1 = _; rw [hel]; omega, hm2.congr fun k => by
        unfold cntV
        rw [hec]
        by_cases e : k = x
        · subst e; rw [if_pos rfl, if_pos rfl, if_neg (by omega)]; congr 2; omega
        · rw [if_neg e, if_neg e, Nat.sub_zero], by rw [hel]; omega⟩
      (repeat' (first | (refine gG ?_; try intro _) | ((first | refine g_split rfl rfl tE (fun _ => ?_) (fun _ => ?_) | refine gk_cond rfl rfl tE (fun _ => ?_) (fun _ => ?_)) <;> (try first | (exfalso; omega; done) | (rename_i hx; exact absurd rfl hx) | (rename_i hx; cases hx; done)))))
      refine g_yd rfl rfl ((ys_lookupG (S := [mpk r (Value.int .u32) M2]) x rfl rfl rfl rfl Try.underlying81 kok_u zero_I (.head _)).ydS sF) ?_
      refine g_say 39 (.int .i64 ((l.erase x).count x : Int)) rfl hl2 ?_
      (repeat (refine gG ?_; try intro _))
      refine gk_ret hT rfl rfl (.tmp rfl (.tmp rfl .nil)) (fun w' hk => ?_)
      exact RetM.mkP (ll := fun T' => tbL t T') (⟨some r, M2, s - 1⟩ : TabS) hI2 rfl hk (fun b hb => (hE b).2 hb) (show SelAll [blk t [.map (some r), .int .i64 (s - 1)] 83, mpk r (Value.int .u32) M2] _ from sA)
    · have hI2 : RfI ⟨some r, mdG x M2, s - 1⟩ (l.erase x) := ⟨fun e => (by cases e), by show s - 1 = _; rw [hel]; omega, hm2.del fun k => by
        unfold cntV
        rw [hec]
        by_cases e : k = x
        · subst e; rw [if_pos rfl, if_pos rfl, if_pos (by omega)]
        · rw [if_neg e, if_neg e, if_neg e, Nat.sub_zero], by rw [hel]; omega⟩
      have he0 : ((l.erase x).count x : Int) = 0 := by omega
      (repeat' (first | (refine gG ?_; try intro _) | ((first | refine g_split rfl rfl tE (fun _ => ?_) (fun _ => ?_) | refine gk_cond rfl rfl tE (fun _ => ?_) (fun _ => ?_)) <;> (try first | (exfalso; omega; done) | (rename_i hx; exact absurd rfl hx) | (rename_i hx; cases hx; done)))))
      refine g_mv rfl (mv_mapDeleteG rfl x rfl rfl rfl rfl rfl Try.underlying81 kok_u (by first | ((repeat (first | with_reducible exact Upd.here _ | with_reducible apply Upd.there)); done) | ((repeat (first | exact Upd.here _ | apply Upd.there)); done) | fail) ?_)
      (repeat (refine gG ?_; try intro _))
      refine gk_ret hT rfl rfl (.tmp rfl (.tmp rfl .nil)) (fun w' hk => ?_)
      exact RetM.mkP (ll := fun T' => tbL t T') (⟨some r, mdG x M2, s - 1⟩ : TabS) hI2 (by rw [he0]; rfl) hk (fun b hb => (hE b).2 hb) (show SelAll [blk t [.map (some r), .int .i64 (s - 1)] 83, mpk r (Value.int .u32) (mdG x M2)] _ from sA)
end Go.Proofs.Ytdkgmgfadpnhbaa.Rf

