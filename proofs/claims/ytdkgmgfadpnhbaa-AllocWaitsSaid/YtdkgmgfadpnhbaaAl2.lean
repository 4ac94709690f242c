/- refs.Table within an Alloc. -/
import Derived.Test.YtdkgmgfadpnhbaaRf2
namespace Go.Proofs.Ytdkgmgfadpnhbaa.Al
open Go.RowKit Mem Gx Gm KyU Dd Rf
set_option linter.unusedVariables false
set_option linter.unusedSimpArgs false
set_option maxRecDepth 100000
set_option maxHeartbeats 1000000
/-- A table's map, if there is one. -/
def moF : Option Nat → List (Int × Value) → Fact
  | none, M => ⟨fun _ => False, fun _ => M = [], fun _ _ _ h => h⟩
  | some r, M => mpk r (Value.int .u32) M
theorem oneU : ∀ (x : Int) (j : Nat), (IE .u32 x j).oneCell' = true := by intro x j; rfl
theorem elt_U : Elt Try.prog 85 87 1 4 := Elt.mk' (z := .int .u32 0) Try.underlying85 (by kernel_rfl) rfl (by decide)
theorem takeAt {L : List Int} {i : Nat} {x : Int} (h : L[i]? = some x) : L.take (i + 1) = L.take i ++ [x] := by
  rw [List.take_add_one, h]
  rfl
/-- The other cells of an Alloc: free, sure, late, n. -/
structure XA where
  f : Value
  u : Value
  v : Value
  n : Value
def tbL2 (t : Nat) (X : XA) (T : TabS) : List Fact := [blk t [X.f, .map T.r, .int .i64 T.sum, X.u, X.v, X.n] 191, moF T.r T.M]
abbrev tbF2 (t : Nat) (X : XA) (T : TabS) : Fact := packF (tbL2 t X T)
theorem row_sub {w : World} {g o : Nat} {a : Value} {cs : List Value} (h : (row g o (a :: cs)).p w) : (row g (o + 1) cs).p w := fun i v hv => by
  have := h (i + 1) v hv
  rwa [show o + (i + 1) = o + 1 + i by omega] at this
theorem fin2 (t : Nat) (X : XA) (T : TabS) : ∃ E : List Nat, ∀ b, (tbF2 t X T).S b ↔ b ∈ E := by
  obtain ⟨r, M, s⟩ := T
  cases r with
  | none => exact ⟨[t], fun b => ⟨fun ⟨φ, hφ, hb⟩ => by
      rcases List.mem_cons.1 hφ with rfl | hφ
      · exact List.mem_singleton.2 hb
      · obtain rfl := List.mem_singleton.1 hφ
        exact hb.elim, fun hb => ⟨_, .head _, List.mem_singleton.1 hb⟩⟩⟩
  | some r => exact ⟨[t, r], fun b => ⟨fun ⟨φ, hφ, hb⟩ => by
      rcases List.mem_cons.1 hφ with rfl | hφ
      · have : b = t := hb
        rw [this]; exact .head _
      · obtain rfl := List.mem_singleton.1 hφ
        have : b = r := hb
        rw [this]; exact .tail _ (.head _), fun hb => by
      rcases List.mem_cons.1 hb with rfl | hb
      · exact ⟨_, .head _, rfl⟩
      · obtain rfl := List.mem_singleton.1 hb
        exact ⟨_, .tail _ (.head _), rfl⟩⟩⟩
theorem count2_any (t : Nat) (X : XA) (T : TabS) (l : List Int) (x : Int) (w : World) (hI : RfI T l) (h : Rd1 w (tbF2 t X T)) :
    Calls Try.prog 84 [.pointer (some ⟨t, 1, none⟩), .int .u32 x].toArray w fun e w' => e = .returned (.int .i64 (l.count x : Int)) ∧ Below w.heap.size w w' := by
  have hl := hI.look x
  obtain ⟨r, M, s⟩ := T
  cases r with
  | none =>
    have hB := Rd1.unpack h (φ := blk t [X.f, .map none, .int .i64 s, X.u, X.v, X.n] 191) (.head _)
    refine g_enter0 T [] [] [blk t [X.f, .map none, .int .i64 s, X.u, X.v, X.n] 191] Try.func84 rfl Try.ntmps84 rfl (Rds.cons hB .nil).kn ?_
    refine gk_rowR (g := t) mE ?_
    refine gk_lessR (row t 1 [.map none, .int .i64 s, X.u, X.v, X.n]) (row t 0 [X.f, .map none, .int .i64 s, X.u, X.v, X.n]) mE (fun w h => row_sub h) (fun b h => h) ?_
    (repeat (refine gG ?_; try intro _))
    refine g_yd rfl rfl (Ys.yd (ys_lookupG_nil x rfl rfl rfl rfl Try.underlying81 kok_u zero_I)) ?_
    (repeat (refine gG ?_; try intro _))
    refine gk_ret hT rfl rfl (.tmp rfl .nil) (fun w' hk => ?_)
    refine ⟨?_, hk.toBelow⟩
    rw [hI.nil rfl]
    rfl
  | some r =>
    have hB := Rd1.unpack h (φ := blk t [X.f, .map (some r), .int .i64 s, X.u, X.v, X.n] 191) (.head _)
    have hM := Rd1.unpack h (φ := mpk r (Value.int .u32) M) (.tail _ (.head _))
    refine g_enter0 T [] [] [blk t [X.f, .map (some r), .int .i64 s, X.u, X.v, X.n] 191, mpk r (Value.int .u32) M] Try.func84 rfl Try.ntmps84 rfl (Rds.cons hB (.cons hM .nil)).kn ?_
    refine gk_rowR (g := t) mE ?_
    refine gk_lessR (row t 1 [.map (some r), .int .i64 s, X.u, X.v, X.n]) (row t 0 [X.f, .map (some r), .int .i64 s, X.u, X.v, X.n]) mE (fun w h => row_sub h) (fun b h => h) ?_
    (repeat (refine gG ?_; try intro _))
    refine g_yd rfl rfl ((ys_lookupG (S := [mpk r (Value.int .u32) M]) x rfl rfl rfl rfl Try.underlying81 kok_u zero_I (.head _)).ydS sF) ?_
    refine g_say 10 (.int .i64 (l.count x : Int)) rfl hl ?_
    (repeat (refine gG ?_; try intro _))
    refine gk_ret hT rfl rfl (.tmp rfl .nil) (fun w' hk => ?_)
    exact ⟨rfl, hk.toBelow⟩
theorem hold2_any (t : Nat) (X : XA) (T : TabS) (l : List Int) (x : Int) (w : World) (hx : x ≠ 0) (hl9 : l.length < 1000) (hI : RfI T l) (h : Rd1 w (tbF2 t X T)) :
    Calls Try.prog 34 [.pointer (some ⟨t, 1, none⟩), .int .u32 x].toArray w (RetM (tbF2 t X T) (fun T' : TabS => RfI T' (l ++ [x])) (fun _ => .int .i64 ((l ++ [x]).count x : Int)) (fun T' => tbF2 t X T') w) := by
  obtain ⟨E, hE⟩ := fin2 t X T
  have hll := hI.len
  have hcn : l.count x ≤ l.length := List.count_le_length
  have hsum := hI.sum
  obtain ⟨r, M, s⟩ := T
  have key : ∀ (r' : Nat) (M0 : List (Int × Value)), MapIs M0 (cntV l) → RfI ⟨some r', msG x (.int .i64 (l.count x + 1 : Int)) M0, s + 1⟩ (l ++ [x]) := fun r' M0 hM => ⟨fun e => (by cases e), by show s + 1 = _; rw [List.length_append]; simp at hsum ⊢; omega, hM.set fun k' => by
    unfold cntV
    rw [cnt_snoc]
    by_cases e : k' = x
    · subst e; rw [if_pos rfl, if_pos rfl, if_neg (by omega)]; push_cast; rfl
    · rw [if_neg e, if_neg e, Nat.add_zero], by rw [List.length_append]; simp; omega⟩
  cases r with
  | none =>
    have hnil := hI.nil rfl
    have hc0 : l.count x = 0 := by rw [hnil]; rfl
    have hs0 : s = 0 := by rw [show s = (l.length : Int) from hsum, hnil]; rfl
    refine g_enter0 T E [blk t [X.f, .map none, .int .i64 s, X.u, X.v, X.n] 191, moF none M] [] Try.func34 rfl Try.ntmps34 rfl (Kn.startP h (fun b hb => (hE b).1 hb) (fun _ h => by cases h)) ?_
    (repeat' (first | (refine gG ?_; try intro _) | ((first | refine g_split rfl rfl tE (fun _ => ?_) (fun _ => ?_) | refine gk_cond rfl rfl tE (fun _ => ?_) (fun _ => ?_)) <;> (try first | (exfalso; omega; done) | (rename_i hx; exact absurd rfl hx) | (rename_i hx; cases hx; done)))))
    refine g_yd rfl rfl (Ys.yd (ys_map_nil hT rfl rfl rfl Try.underlying81)) ?_
    (repeat (refine gG ?_; try intro _))
    refine g_mv rfl (mv_makeMapG rfl (Value.int .u32) rfl (fun r => ?_))
    (repeat (refine gG ?_; try intro _))
    have hI2 := key r [] (by rw [hnil]; exact MapIs.nil.congr fun k => by simp [cntV])
    refine g_yd rfl rfl ((ys_lookupG (S := [mpk r (Value.int .u32) []]) x rfl rfl rfl rfl Try.underlying81 kok_u zero_I (.head _)).ydS sF) ?_
    refine g_say 21 (.int .i64 (l.count x : Int)) rfl (by rw [hc0]; rfl) ?_
    (repeat (refine gG ?_; try intro _))
    refine g_mv rfl (mv_mapUpdateG rfl x rfl rfl rfl rfl rfl Try.underlying81 kok_u (by first | ((repeat (first | with_reducible exact Upd.here _ | with_reducible apply Upd.there)); done) | ((repeat (first | exact Upd.here _ | apply Upd.there)); done) | fail) ?_)
    (repeat (refine gG ?_; try intro _))
    refine g_yd rfl rfl ((ys_lookupG (S := [mpk r (Value.int .u32) (msG x (.int .i64 (l.count x + 1 : Int)) [])]) x rfl rfl rfl rfl Try.underlying81 kok_u zero_I (.head _)).ydS sF) ?_
    refine g_say 35 (.int .i64 ((l ++ [x]).count x : Int)) rfl (hI2.look x) ?_
    (repeat (refine gG ?_; try intro _))
    refine gk_ret hT rfl rfl (.tmp rfl .nil) (fun w' hk => ?_)
    exact RetM.mkP (ll := fun T' => tbL2 t X T') (⟨some r, msG x (.int .i64 (l.count x + 1 : Int)) [], s + 1⟩ : TabS) hI2 rfl hk (fun b hb => (hE b).2 hb) (show SelAll [blk t [X.f, .map (some r), .int .i64 (s + 1), X.u, X.v, X.n] 191, mpk r (Value.int .u32) (msG x (.int .i64 (l.count x + 1 : Int)) [])] _ from sA)
  | some r =>
    have hI2 := key r M hI.map
    refine g_enter0 T E [blk t [X.f, .map (some r), .int .i64 s, X.u, X.v, X.n] 191, mpk r (Value.int .u32) M] [] Try.func34 rfl Try.ntmps34 rfl (Kn.startP h (fun b hb => (hE b).1 hb) (fun _ h => by cases h)) ?_
    have hsv : s = (l.length : Int) := hsum
    (repeat' (first | (refine gG ?_; try intro _) | ((first | refine g_split rfl rfl tE (fun _ => ?_) (fun _ => ?_) | refine gk_cond rfl rfl tE (fun _ => ?_) (fun _ => ?_)) <;> (try first | (exfalso; omega; done) | (rename_i hx; exact absurd rfl hx) | (rename_i hx; cases hx; done)))))
    refine g_yd rfl rfl (Ys.yd (ys_map_nil hT rfl rfl rfl Try.underlying81)) ?_
    (repeat (refine gG ?_; try intro _))
    refine g_yd rfl rfl ((ys_lookupG (S := [mpk r (Value.int .u32) M]) x rfl rfl rfl rfl Try.underlying81 kok_u zero_I (.head _)).ydS sF) ?_
    refine g_say 21 (.int .i64 (l.count x : Int)) rfl (hI.look x) ?_
    (repeat (refine gG ?_; try intro _))
    refine g_mv rfl (mv_mapUpdateG rfl x rfl rfl rfl rfl rfl Try.underlying81 kok_u (by first | ((repeat (first | with_reducible exact Upd.here _ | with_reducible apply Upd.there)); done) | ((repeat (first | exact Upd.here _ | apply Upd.there)); done) | fail) ?_)
    (repeat (refine gG ?_; try intro _))
    refine g_yd rfl rfl ((ys_lookupG (S := [mpk r (Value.int .u32) (msG x (.int .i64 (l.count x + 1 : Int)) M)]) x rfl rfl rfl rfl Try.underlying81 kok_u zero_I (.head _)).ydS sF) ?_
    refine g_say 35 (.int .i64 ((l ++ [x]).count x : Int)) rfl (hI2.look x) ?_
    (repeat (refine gG ?_; try intro _))
    refine gk_ret hT rfl rfl (.tmp rfl .nil) (fun w' hk => ?_)
    exact RetM.mkP (ll := fun T' => tbL2 t X T') (⟨some r, msG x (.int .i64 (l.count x + 1 : Int)) M, s + 1⟩ : TabS) hI2 rfl hk (fun b hb => (hE b).2 hb) (show SelAll [blk t [X.f, .map (some r), .int .i64 (s + 1), X.u, X.v, X.n] 191, mpk r (Value.int .u32) (msG x (.int .i64 (l.count x + 1 : Int)) M)] _ from sA)
theorem hold02_any (t : Nat) (w : World) : Calls Try.prog 34 [.pointer (some ⟨t, 1, none⟩), .int .u32 0].toArray w fun e w' => e = .returned (.int .i64 0) ∧ Below w.heap.size w w' := by
  refine g_enter0 T [] [] [] Try.func34 rfl Try.ntmps34 rfl (Kn.start _) ?_
  (repeat' (first | (refine gG ?_; try intro _) | ((first | refine g_split rfl rfl tE (fun _ => ?_) (fun _ => ?_) | refine gk_cond rfl rfl tE (fun _ => ?_) (fun _ => ?_)) <;> (try first | (exfalso; omega; done) | (rename_i hx; exact absurd rfl hx) | (rename_i hx; cases hx; done)))))
  refine gk_ret hT rfl rfl (.tmp rfl .nil) (fun w' hk => ?_)
  exact ⟨rfl, hk.toBelow⟩
theorem drop02_any (t : Nat) (X : XA) (T : TabS) (l : List Int) (x : Int) (w : World) (hc : l.count x = 0) (hI : RfI T l) (h : Rd1 w (tbF2 t X T)) :
    Calls Try.prog 30 [.pointer (some ⟨t, 1, none⟩), .int .u32 x].toArray w fun e w' => e = .returned (.tuple #[.int .i64 0, .bool false]) ∧ Below w.heap.size w w' := by
  have hl := hI.look x
  rw [hc] at hl
  obtain ⟨r, M, s⟩ := T
  cases r with
  | none =>
    have hB := Rd1.unpack h (φ := blk t [X.f, .map none, .int .i64 s, X.u, X.v, X.n] 191) (.head _)
    refine g_enter0 T [] [] [blk t [X.f, .map none, .int .i64 s, X.u, X.v, X.n] 191] Try.func30 rfl Try.ntmps30 rfl (Rds.cons hB .nil).kn ?_
    refine gk_rowR (g := t) mE ?_
    refine gk_lessR (row t 1 [.map none, .int .i64 s, X.u, X.v, X.n]) (row t 0 [X.f, .map none, .int .i64 s, X.u, X.v, X.n]) mE (fun w h => row_sub h) (fun b h => h) ?_
    (repeat (refine gG ?_; try intro _))
    refine g_yd rfl rfl (Ys.yd (ys_lookupG_nil x rfl rfl rfl rfl Try.underlying81 kok_u zero_I)) ?_
    refine g_say 11 (.int .i64 0) rfl rfl ?_
    (repeat' (first | (refine gG ?_; try intro _) | ((first | refine g_split rfl rfl tE (fun _ => ?_) (fun _ => ?_) | refine gk_cond rfl rfl tE (fun _ => ?_) (fun _ => ?_)) <;> (try first | (exfalso; omega; done) | (rename_i hx; exact absurd rfl hx) | (rename_i hx; cases hx; done)))))
    refine gk_ret hT rfl rfl (.tmp rfl (.tmp rfl .nil)) (fun w' hk => ?_)
    exact ⟨rfl, hk.toBelow⟩
  | some r =>
    have hB := Rd1.unpack h (φ := blk t [X.f, .map (some r), .int .i64 s, X.u, X.v, X.n] 191) (.head _)
    have hM := Rd1.unpack h (φ := mpk r (Value.int .u32) M) (.tail _ (.head _))
    refine g_enter0 T [] [] [blk t [X.f, .map (some r), .int .i64 s, X.u, X.v, X.n] 191, mpk r (Value.int .u32) M] Try.func30 rfl Try.ntmps30 rfl (Rds.cons hB (.cons hM .nil)).kn ?_
    refine gk_rowR (g := t) mE ?_
    refine gk_lessR (row t 1 [.map (some r), .int .i64 s, X.u, X.v, X.n]) (row t 0 [X.f, .map (some r), .int .i64 s, X.u, X.v, X.n]) mE (fun w h => row_sub h) (fun b h => h) ?_
    (repeat (refine gG ?_; try intro _))
    refine g_yd rfl rfl ((ys_lookupG (S := [mpk r (Value.int .u32) M]) x rfl rfl rfl rfl Try.underlying81 kok_u zero_I (.head _)).ydS sF) ?_
    refine g_say 11 (.int .i64 0) rfl hl ?_
    (repeat' (first | (refine gG ?_; try intro _) | ((first | refine g_split rfl rfl tE (fun _ => ?_) (fun _ => ?_) | refine gk_cond rfl rfl tE (fun _ => ?_) (fun _ => ?_)) <;> (try first | (exfalso; omega; done) | (rename_i hx; exact absurd rfl hx) | (rename_i hx; cases hx; done)))))
    refine gk_ret hT rfl rfl (.tmp rfl (.tmp rfl .nil)) (fun w' hk => ?_)
    exact ⟨rfl, hk.toBelow⟩
theorem drop2_any (t : Nat) (X : XA) (T : TabS) (l : List Int) (x : Int) (w : World) (hc : 0 < l.count x) (hI : RfI T l) (h : Rd1 w (tbF2 t X T)) :
    Calls Try.prog 30 [.pointer (some ⟨t, 1, none⟩), .int .u32 x].toArray w (RetM (tbF2 t X T) (fun T' : TabS => RfI T' (l.erase x)) (fun _ => .tuple #[.int .i64 ((l.erase x).count x : Int), .bool true]) (fun T' => tbF2 t X T') w) := by
  obtain ⟨E, hE⟩ := fin2 t X T
  have hll := hI.len
  have hcn : l.count x ≤ l.length := List.count_le_length
  have hsum := hI.sum
  have hmem : x ∈ l := List.count_pos_iff.1 hc
  have hel : (l.erase x).length = l.length - 1 := List.length_erase_of_mem hmem
  have hec : ∀ k, (l.erase x).count k = l.count k - if k = x then 1 else 0 := fun k => by
    by_cases e : k = x
    · subst e; rw [List.count_erase_self, if_pos rfl]
    · rw [List.count_erase_of_ne e, if_neg e, Nat.sub_zero]
  have hex : ((l.erase x).count x : Int) = (l.count x : Int) - 1 := by rw [hec, if_pos rfl]; omega
  obtain ⟨r, M, s⟩ := T
  cases r with
  | none =>
    have hnil := hI.nil rfl
    rw [hnil] at hc
    exact absurd hc (by simp)
  | some r =>
    have hsv : s = (l.length : Int) := hsum
    refine g_enter0 T E [blk t [X.f, .map (some r), .int .i64 s, X.u, X.v, X.n] 191, mpk r (Value.int .u32) M] [] Try.func30 rfl Try.ntmps30 rfl (Kn.startP h (fun b hb => (hE b).1 hb) (fun _ h => by cases h)) ?_
    (repeat (refine gG ?_; try intro _))
    refine g_yd rfl rfl ((ys_lookupG (S := [mpk r (Value.int .u32) M]) x rfl rfl rfl rfl Try.underlying81 kok_u zero_I (.head _)).ydS sF) ?_
    refine g_say 11 (.int .i64 (l.count x : Int)) rfl (hI.look x) ?_
    (repeat' (first | (refine gG ?_; try intro _) | ((first | refine g_split rfl rfl tE (fun _ => ?_) (fun _ => ?_) | refine gk_cond rfl rfl tE (fun _ => ?_) (fun _ => ?_)) <;> (try first | (exfalso; omega; done) | (rename_i hx; exact absurd rfl hx) | (rename_i hx; cases hx; done)))))
    refine g_yd rfl rfl ((ys_lookupG (S := [mpk r (Value.int .u32) M]) x rfl rfl rfl rfl Try.underlying81 kok_u zero_I (.head _)).ydS sF) ?_
    refine g_say 18 (.int .i64 (l.count x : Int)) rfl (hI.look x) ?_
    (repeat (refine gG ?_; try intro _))
    refine g_mv rfl (mv_mapUpdateG rfl x rfl rfl rfl rfl rfl Try.underlying81 kok_u (by first | ((repeat (first | with_reducible exact Upd.here _ | with_reducible apply Upd.there)); done) | ((repeat (first | exact Upd.here _ | apply Upd.there)); done) | fail) ?_)
    obtain ⟨M2, hM2⟩ : ∃ M2, M2 = msG x (.int .i64 ((l.count x : Int) - 1)) M := ⟨_, rfl⟩
    rw [← hM2]
    have hg2 : mg x M2 = some (.int .i64 ((l.count x : Int) - 1)) := by rw [hM2, mg_set, if_pos rfl]
    have hl2 : ((lkG x M2 0).map (·.2)).getD (.int .i64 0) = .int .i64 ((l.erase x).count x : Int) := by
      have h1 := hg2
      unfold mg at h1
      rw [h1, hex]
      rfl
    have hm2 : MapIs M2 (fun k => if k = x then some (.int .i64 ((l.count x : Int) - 1)) else cntV l k) := by
      rw [hM2]
      exact hI.map.set fun k => rfl
    (repeat (refine gG ?_; try intro _))
    refine g_yd rfl rfl ((ys_lookupG (S := [mpk r (Value.int .u32) M2]) x rfl rfl rfl rfl Try.underlying81 kok_u zero_I (.head _)).ydS sF) ?_
    refine g_say 32 (.int .i64 ((l.erase x).count x : Int)) rfl hl2 ?_
    by_cases h1 : 1 < l.count x
    · have hI2 : RfI ⟨some r, M2, s - 1⟩ (l.erase x) := ⟨fun e => (by cases e), by show s - 1 = _; rw [hel]; omega, hm2.congr fun k => by
        unfold cntV
        rw [hec]
        by_cases e : k = x
        · subst e; rw [if_pos rfl, if_pos rfl, if_neg (by omega)]; congr 2; omega
        · rw [if_neg e, if_neg e, Nat.sub_zero], by rw [hel]; omega⟩
      (repeat' (first | (refine gG ?_; try intro _) | ((first | refine g_split rfl rfl tE (fun _ => ?_) (fun _ => ?_) | refine gk_cond rfl rfl tE (fun _ => ?_) (fun _ => ?_)) <;> (try first | (exfalso; omega; done) | (rename_i hx; exact absurd rfl hx) | (rename_i hx; cases hx; done)))))
      refine g_yd rfl rfl ((ys_lookupG (S := [mpk r (Value.int .u32) M2]) x rfl rfl rfl rfl Try.underlying81 kok_u zero_I (.head _)).ydS sF) ?_
      refine g_say 39 (.int .i64 ((l.erase x).count x : Int)) rfl hl2 ?_
      (repeat (refine gG ?_; try intro _))
      refine gk_ret hT rfl rfl (.tmp rfl (.tmp rfl .nil)) (fun w' hk => ?_)
      exact RetM.mkP (ll := fun T' => tbL2 t X T') (⟨some r, M2, s - 1⟩ : TabS) hI2 rfl hk (fun b hb => (hE b).2 hb) (show SelAll [blk t [X.f, .map (some r), .int .i64 (s - 1), X.u, X.v, X.n] 191, mpk r (Value.int .u32) M2] _ from sA)
    · have hI2 : RfI ⟨some r, mdG x M2, s - 1⟩ (l.erase x) := ⟨fun e => (by cases e), by show s - 1 = _; rw [hel]; omega, hm2.del fun k => by
        unfold cntV
        rw [hec]
        by_cases e : k = x
        · subst e; rw [if_pos rfl, if_pos rfl, if_pos (by omega)]
        · rw [if_neg e, if_neg e, if_neg e, Nat.sub_zero], by rw [hel]; omega⟩
      have he0 : ((l.erase x).count x : Int) = 0 := by omega
      (repeat' (first | (refine gG ?_; try intro _) | ((first | refine g_split rfl rfl tE (fun _ => ?_) (fun _ => ?_) | refine gk_cond rfl rfl tE (fun _ => ?_) (fun _ => ?_)) <;> (try first | (exfalso; omega; done) | (rename_i hx; exact absurd rfl hx) | (rename_i hx; cases hx; done)))))
      refine g_mv rfl (mv_mapDeleteG rfl x rfl rfl rfl rfl rfl Try.underlying81 kok_u (by first | ((repeat (first | with_reducible exact Upd.here _ | with_reducible apply Upd.there)); done) | ((repeat (first | exact Upd.here _ | apply Upd.there)); done) | fail) ?_)
      (repeat (refine gG ?_; try intro _))
      refine gk_ret hT rfl rfl (.tmp rfl (.tmp rfl .nil)) (fun w' hk => ?_)
      exact RetM.mkP (ll := fun T' => tbL2 t X T') (⟨some r, mdG x M2, s - 1⟩ : TabS) hI2 (by rw [he0]; rfl) hk (fun b hb => (hE b).2 hb) (show SelAll [blk t [X.f, .map (some r), .int .i64 (s - 1), X.u, X.v, X.n] 191, mpk r (Value.int .u32) (mdG x M2)] _ from sA)
theorem len2_any (t : Nat) (X : XA) (T : TabS) (l : List Int) (w : World) (hI : RfI T l) (h : Rd1 w (tbF2 t X T)) :
    Calls Try.prog 85 [.pointer (some ⟨t, 1, none⟩)].toArray w fun e w' => e = .returned (.int .i64 ((setP l).length : Int)) ∧ Below w.heap.size w w' := by
  have hk1 := hI.keys.length_eq
  rw [List.length_map] at hk1
  rw [← hk1]
  obtain ⟨r, M, s⟩ := T
  cases r with
  | none =>
    have hB := Rd1.unpack h (φ := blk t [X.f, .map none, .int .i64 s, X.u, X.v, X.n] 191) (.head _)
    have hM0 : M.length = 0 := by
      have h2 := setP_len l
      rw [hI.nil rfl] at hk1 h2
      simp at h2
      rw [h2] at hk1
      exact hk1
    refine g_enter0 T [] [] [blk t [X.f, .map none, .int .i64 s, X.u, X.v, X.n] 191] Try.func85 rfl Try.ntmps85 rfl (Rds.cons hB .nil).kn ?_
    refine gk_rowR (g := t) mE ?_
    refine gk_lessR (row t 1 [.map none, .int .i64 s, X.u, X.v, X.n]) (row t 0 [X.f, .map none, .int .i64 s, X.u, X.v, X.n]) mE (fun w h => row_sub h) (fun b h => h) ?_
    (repeat (refine gG ?_; try intro _))
    refine gk_ret hT rfl rfl (.tmp rfl .nil) (fun w' hk => ?_)
    refine ⟨?_, hk.toBelow⟩
    show Ending.returned (.int .i64 0) = .returned (.int .i64 (M.length : Int))
    rw [hM0]
    rfl
  | some r =>
    have hB := Rd1.unpack h (φ := blk t [X.f, .map (some r), .int .i64 s, X.u, X.v, X.n] 191) (.head _)
    have hM := Rd1.unpack h (φ := mpk r (Value.int .u32) M) (.tail _ (.head _))
    refine g_enter0 T [] [] [blk t [X.f, .map (some r), .int .i64 s, X.u, X.v, X.n] 191, mpk r (Value.int .u32) M] Try.func85 rfl Try.ntmps85 rfl (Rds.cons hB (.cons hM .nil)).kn ?_
    refine gk_rowR (g := t) mE ?_
    refine gk_lessR (row t 1 [.map (some r), .int .i64 s, X.u, X.v, X.n]) (row t 0 [X.f, .map (some r), .int .i64 s, X.u, X.v, X.n]) mE (fun w h => row_sub h) (fun b h => h) ?_
    (repeat (refine gG ?_; try intro _))
    refine g_yd rfl rfl ((ys_map_len (S := [mpk r (Value.int .u32) M]) rfl rfl rfl rfl Try.underlying81 (.head _)).ydS sF) ?_
    (repeat (refine gG ?_; try intro _))
    refine gk_ret hT rfl rfl (.tmp rfl .nil) (fun w' hk => ?_)
    exact ⟨rfl, hk.toBelow⟩
theorem all2_any (t : Nat) (X : XA) (T : TabS) (l : List Int) (w : World) (hI : RfI T l) (h : Rd1 w (tbF2 t X T)) :
    Calls Try.prog 87 [.pointer (some ⟨t, 1, none⟩)].toArray w (Ret (fun _ : Value => True) (fun v => v) (fun v => [own 0 87 1 v (IE .u32) (setP l)]) w) := by
  have hky := hI.keys
  have hkl : T.M.length ≤ 1000 := by
    have h1 := hky.length_eq
    rw [List.length_map] at h1
    have h2 := setP_len l
    have := hI.len
    omega
  have hgl : ∀ {M : List (Int × Value)} (q : LbK M), M.length ≤ 1000 → q.1.2.length ≤ 1000 := fun {M} q hM => by
    have h1 := q.2.pm.length_eq
    have h2 : q.1.1.length ≤ M.length := by
      have h3 : q.1.1.Perm ((List.range M.length).filter fun i => decide (i ∈ q.1.1)) := (List.perm_ext_iff_of_nodup q.2.nd (List.nodup_range.filter _)).2 fun i => by
        rw [List.mem_filter, List.mem_range, decide_eq_true_eq]
        exact ⟨fun h => ⟨q.2.lt i h, h⟩, fun h => h.2⟩
      rw [h3.length_eq]
      exact Nat.le_trans (List.length_filter_le _ _) (by simp)
    have h3 := List.length_filterMap_le (fun i => (M[i]?).map (·.1)) q.1.1
    omega
  obtain ⟨r, M, s⟩ := T
  cases r with
  | none =>
    have hM : M = [] := by
      have h1 := hky.length_eq
      have h2 := setP_len l
      rw [hI.nil rfl] at h1 h2
      rw [List.length_map] at h1
      simp at h2
      rw [h2] at h1
      exact List.length_eq_zero_iff.1 h1
    subst hM
    have hset : setP l = [] := by
      have := hky.length_eq
      exact List.length_eq_zero_iff.1 (by simpa using this.symm)
    have hB := Rd1.unpack h (φ := blk t [X.f, .map none, .int .i64 s, X.u, X.v, X.n] 191) (.head _)
    refine g_enter0 T [] [] [blk t [X.f, .map none, .int .i64 s, X.u, X.v, X.n] 191] Try.func87 rfl Try.ntmps87 rfl (Rds.cons hB .nil).kn ?_
    refine gk_rowR (g := t) mE ?_
    refine gk_lessR (row t 1 [.map none, .int .i64 s, X.u, X.v, X.n]) (row t 0 [X.f, .map none, .int .i64 s, X.u, X.v, X.n]) mE (fun w h => row_sub h) (fun b h => h) ?_
    (repeat (refine gG ?_; try intro _))
    refine g_mv rfl ?_; refine mv_call_rt (fun w hk => keys_any (.map none) ⟨_, rfl⟩ w) rfl rfl rfl rfl rfl (by kernel_rfl) (fun _ => rfl) (fun bt _ => ?_)
    refine g_share (φ := blk bt [.map none] 81) (by repeat (first | with_reducible exact Sel.here | with_reducible apply Sel.there)) ?_
    refine g_mv rfl ?_; refine mv_call_rt (fun w hk => by exact sorted_any 176 [.pointer (some ⟨bt, 0, none⟩)] (StK []) ⟨([], []), good_nil []⟩ (FinK []) (fun q => q.1.2) [blk bt [.map none] 81] w (by kernel_rfl) (KyU.Kn.rds hk (by intro φ hφ; obtain rfl := List.mem_singleton.1 hφ; exact mE)) (fun w' hB => keys_iter_nil bt w' hB) rfl (fun q x q' ⟨_, _, _, _, h⟩ => by rw [h]) (fun q x q' _ => Nat.le_trans (hgl q (by simp)) (by decide)) (fun q _ => Nat.le_trans (hgl q (by simp)) (by decide))) rfl rfl rfl rfl rfl (by kernel_rfl) (fun _ => rfl) (fun r hr => ?_)
    obtain ⟨v, S⟩ := r
    obtain ⟨⟨q, hq1, hq2⟩, hso⟩ := hr
    dsimp only at hq2 hso ⊢
    have hp := hq2.trans (q.2.fin hq1)
    have hS : S = setP l := sorted_set (hp.trans hky) hso
    rw [hS]
    (repeat (refine gG ?_; try intro _))
    refine gk_ret hT rfl rfl (.tmp rfl .nil) (fun w' hk => ?_)
    exact Ret.mk v trivial rfl hk sA
  | some r =>
    have hB := Rd1.unpack h (φ := blk t [X.f, .map (some r), .int .i64 s, X.u, X.v, X.n] 191) (.head _)
    obtain ⟨B, ck, hM⟩ := (Rd1.unpack h (φ := mpk r (Value.int .u32) M) (.tail _ (.head _))).mpc
    refine g_enter0 T [] [] [blk t [X.f, .map (some r), .int .i64 s, X.u, X.v, X.n] 191, mpc r (Value.int .u32) M B ck] Try.func87 rfl Try.ntmps87 rfl (Rds.cons hB (.cons hM .nil)).kn ?_
    refine gk_rowR (g := t) mE ?_
    refine gk_lessR (row t 1 [.map (some r), .int .i64 s, X.u, X.v, X.n]) (row t 0 [X.f, .map (some r), .int .i64 s, X.u, X.v, X.n]) mE (fun w h => row_sub h) (fun b h => h) ?_
    (repeat (refine gG ?_; try intro _))
    refine g_mv rfl ?_; refine mv_call_rt (fun w hk => keys_any (.map (some r)) ⟨_, rfl⟩ w) rfl rfl rfl rfl rfl (by kernel_rfl) (fun _ => rfl) (fun bt _ => ?_)
    refine g_share (φ := blk bt [.map (some r)] 81) (by repeat (first | with_reducible exact Sel.here | with_reducible apply Sel.there)) ?_
    refine g_mv rfl ?_; refine mv_call_rt (fun w hk => by exact sorted_any 176 [.pointer (some ⟨bt, 0, none⟩)] (StK M) ⟨([], []), good_nil M⟩ (FinK M) (fun q => q.1.2) [blk bt [.map (some r)] 81, mpc r (Value.int .u32) M B ck] w (by kernel_rfl) (KyU.Kn.rds hk (by intro φ hφ; rcases List.mem_cons.1 hφ with rfl | hφ; exact mE; obtain rfl := List.mem_singleton.1 hφ; exact mE)) (fun w' hB => keys_iter M B ck r bt w' hB) rfl (fun q x q' ⟨_, _, _, _, h⟩ => by rw [h]) (fun q x q' _ => Nat.le_trans (hgl q hkl) (by decide)) (fun q _ => Nat.le_trans (hgl q hkl) (by decide))) rfl rfl rfl rfl rfl (by kernel_rfl) (fun _ => rfl) (fun r hr => ?_)
    obtain ⟨v, S⟩ := r
    obtain ⟨⟨q, hq1, hq2⟩, hso⟩ := hr
    dsimp only at hq2 hso ⊢
    have hp := hq2.trans (q.2.fin hq1)
    have hS : S = setP l := sorted_set (hp.trans hky) hso
    rw [hS]
    (repeat (refine gG ?_; try intro _))
    refine gk_ret hT rfl rfl (.tmp rfl .nil) (fun w' hk => ?_)
    exact Ret.mk v trivial rfl hk sA
end Go.Proofs.Ytdkgmgfadpnhbaa.Al

