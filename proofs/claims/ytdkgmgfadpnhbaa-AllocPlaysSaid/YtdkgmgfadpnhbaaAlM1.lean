/- refs.Table within an Alloc. free.List: New. Alloc: what there is, plain. Alloc: New, Len, Free, Late, Count, Held. Alloc: Take, Hold, Drop, Adopt. Alloc: Commit, Sound. -/
import Derived.Test.YtdkgmgfadpnhbaaRf2
import Derived.Test.YtdkgmgfadpnhbaaFr5
namespace Go.Proofs.Ytdkgmgfadpnhbaa.Al
open Go.RowKit Mem Gx Gm KyU Dd Rf
set_option linter.unusedVariables false
set_option linter.unusedSimpArgs false
set_option maxRecDepth 100000
set_option maxHeartbeats 1000000
/-- A table's map, if there is one. -/
def moF : Option Nat → List (Int × Value) → Fact
  | none, M => ⟨fun _ => False, fun _ => M = [], fun _ _ _ h => h⟩
  | some r, M => mpk r (Value.int .u32) M
theorem oneU : ∀ (x : Int) (j : Nat), (IE .u32 x j).oneCell' = true := by intro x j; rfl
theorem elt_U : Elt Try.prog 85 87 1 4 := Elt.mk' (z := .int .u32 0) Try.underlying85 (by kernel_rfl) rfl (by decide)
theorem takeAt {L : List Int} {i : Nat} {x : Int} (h : L[i]? = some x) : L.take (i + 1) = L.take i ++ [x] := by
  rw [List.take_add_one, h]
  rfl
/-- The other cells of an Alloc: free, sure, late, n. -/
structure XA where
  f : Value
  u : Value
  v : Value
  n : Value
def tbL2 (t : Nat) (X : XA) (T : TabS) : List Fact := [blk t [X.f, .map T.r, .int .i64 T.sum, X.u, X.v, X.n] 191, moF T.r T.M]
abbrev tbF2 (t : Nat) (X : XA) (T : TabS) : Fact := packF (tbL2 t X T)
theorem row_sub {w : World} {g o : Nat} {a : Value} {cs : List Value} (h : (row g o (a :: cs)).p w) : (row g (o + 1) cs).p w := fun i v hv => by
  have := h (i + 1) v hv
  rwa [show o + (i + 1) = o + 1 + i by omega] at this
theorem fin2 (t : Nat) (X : XA) (T : TabS) : ∃ E : List Nat, ∀ b, (tbF2 t X T).S b ↔ b ∈ E := by
  obtain ⟨r, M, s⟩ := T
  cases r with
  | none => exact ⟨[t], fun b => ⟨fun ⟨φ, hφ, hb⟩ => by
      rcases List.mem_cons.1 hφ with rfl | hφ
      · exact List.mem_singleton.2 hb
      · obtain rfl := List.mem_singleton.1 hφ
        exact hb.elim, fun hb => ⟨_, .head _, List.mem_singleton.1 hb⟩⟩⟩
  | some r => exact ⟨[t, r], fun b => ⟨fun ⟨φ, hφ, hb⟩ => by
      rcases List.mem_cons.1 hφ with rfl | hφ
      · have : b = t := hb
        rw [this]; exact .head _
      · obtain rfl := List.mem_singleton.1 hφ
        have : b = r := hb
        rw [this]; exact .tail _ (.head _), fun hb => by
      rcases List.mem_cons.1 hb with rfl | hb
      · exact ⟨_, .head _, rfl⟩
      · obtain rfl := List.mem_singleton.1 hb
        exact ⟨_, .tail _ (.head _), rfl⟩⟩⟩
theorem count2_any (t : Nat) (X : XA) (T : TabS) (l : List Int) (x : Int) (w : World) (hI : RfI T l) (h : Rd1 w (tbF2 t X T)) :
    Calls Try.prog 84 [.pointer (some ⟨t, 1, none⟩), .int .u32 x].toArray w fun e w' => e = .returned (.int .i64 (l.count x : Int)) ∧ Below w.heap.size w w' := by
  have hl := hI.look x
  obtain ⟨r, M, s⟩ := T
  cases r with
  | none =>
    have hB := Rd1.unpack h (φ := blk t [X.f, .map none, .int .i64 s, X.u, X.v, X.n] 191) (.head _)
    refine g_enter0 T [] [] [blk t [X.f, .map none, .int .i64 s, X.u, X.v, X.n] 191] Try.func84 rfl Try.ntmps84 rfl (Rds.cons hB .nil).kn ?_
    refine gk_rowR (g := t) mE ?_
    refine gk_lessR (row t 1 [.map none, .int .i64 s, X.u, X.v, X.n]) (row t 0 [X.f, .map none, .int .i64 s, X.u, X.v, X.n]) mE (fun w h => row_sub h) (fun b h => h) ?_
    (repeat (refine gG ?_; try intro _))
    refine g_yd rfl rfl (Ys.yd (ys_lookupG_nil x rfl rfl rfl rfl Try.underlying81 kok_u zero_I)) ?_
    (repeat (refine gG ?_; try intro _))
    refine gk_ret hT rfl rfl (.tmp rfl .nil) (fun w' hk => ?_)
    refine ⟨?_, hk.toBelow⟩
    rw [hI.nil rfl]
    rfl
  | some r =>
    have hB := Rd1.unpack h (φ := blk t [X.f, .map (some r), .int .i64 s, X.u, X.v, X.n] 191) (.head _)
    have hM := Rd1.unpack h (φ := mpk r (Value.int .u32) M) (.tail _ (.head _))
    refine g_enter0 T [] [] [blk t [X.f, .map (some r), .int .i64 s, X.u, X.v, X.n] 191, mpk r (Value.int .u32) M] Try.func84 rfl Try.ntmps84 rfl (Rds.cons hB (.cons hM .nil)).kn ?_
    refine gk_rowR (g := t) mE ?_
    refine gk_lessR (row t 1 [.map (some r), .int .i64 s, X.u, X.v, X.n]) (row t 0 [X.f, .map (some r), .int .i64 s, X.u, X.v, X.n]) mE (fun w h => row_sub h) (fun b h => h) ?_
    (repeat (refine gG ?_; try intro _))
    refine g_yd rfl rfl ((ys_lookupG (S := [mpk r (Value.int .u32) M]) x rfl rfl rfl rfl Try.underlying81 kok_u zero_I (.head _)).ydS sF) ?_
    refine g_say 10 (.int .i64 (l.count x : Int)) rfl hl ?_
    (repeat (refine gG ?_; try intro _))
    refine gk_ret hT rfl rfl (.tmp rfl .nil) (fun w' hk => ?_)
    exact ⟨rfl, hk.toBelow⟩
theorem hold2_any (t : Nat) (X : XA) (T : TabS) (l : List Int) (x : Int) (w : World) (hx : x ≠ 0) (hl9 : l.length < 1000) (hI : RfI T l) (h : Rd1 w (tbF2 t X T)) :
    Calls Try.prog 34 [.pointer (some ⟨t, 1, none⟩), .int .u32 x].toArray w (RetM (tbF2 t X T) (fun T' : TabS => RfI T' (l ++ [x])) (fun _ => .int .i64 ((l ++ [x]).count x : Int)) (fun T' => tbF2 t X T') w) := by
  obtain ⟨E, hE⟩ := fin2 t X T
  have hll := hI.len
  have hcn : l.count x ≤ l.length := List.count_le_length
  have hsum := hI.sum
  obtain ⟨r, M, s⟩ := T
  have key : ∀ (r' : Nat) (M0 : List (Int × Value)), MapIs M0 (cntV l) → RfI ⟨some r', msG x (.int .i64 (l.count x + 1 : Int)) M0, s + 1⟩ (l ++ [x]) := fun r' M0 hM => ⟨fun e => (by cases e), by show s + 1 = _; rw [List.length_append]; simp at hsum ⊢; omega, hM.set fun k' => by
    unfold cntV
    rw [cnt_snoc]
    by_cases e : k' = x
    · subst e; rw [if_pos rfl, if_pos rfl, if_neg (by omega)]; push_cast; rfl
    · rw [if_neg e, if_neg e, Nat.add_zero], by rw [List.length_append]; simp; omega⟩
  cases r with
  | none =>
    have hnil := hI.nil rfl
    have hc0 : l.count x = 0 := by rw [hnil]; rfl
    have hs0 : s = 0 := by rw [show s = (l.length : Int) from hsum, hnil]; rfl
    refine g_enter0 T E [blk t [X.f, .map none, .int .i64 s, X.u, X.v, X.n] 191, moF none M] [] Try.func34 rfl Try.ntmps34 rfl (Kn.startP h (fun b hb => (hE b).1 hb) (fun _ h => by cases h)) ?_
    (repeat' (first | (refine gG ?_; try intro _) | ((first | refine g_split rfl rfl tE (fun _ => ?_) (fun _ => ?_) | refine gk_cond rfl rfl tE (fun _ => ?_) (fun _ => ?_)) <;> (try first | (exfalso; omega; done) | (rename_i hx; exact absurd rfl hx) | (rename_i hx; cases hx; done)))))
    refine g_yd rfl rfl (Ys.yd (ys_map_nil hT rfl rfl rfl Try.underlying81)) ?_
    (repeat (refine gG ?_; try intro _))
    refine g_mv rfl (mv_makeMapG rfl (Value.int .u32) rfl (fun r => ?_))
    (repeat (refine gG ?_; try intro _))
    have hI2 := key r [] (by rw [hnil]; exact MapIs.nil.congr fun k => by simp [cntV])
    refine g_yd rfl rfl ((ys_lookupG (S := [mpk r (Value.int .u32) []]) x rfl rfl rfl rfl Try.underlying81 kok_u zero_I (.head _)).ydS sF) ?_
    refine g_say 21 (.int .i64 (l.count x : Int)) rfl (by rw [hc0]; rfl) ?_
    (repeat (refine gG ?_; try intro _))
    refine g_mv rfl (mv_mapUpdateG rfl x rfl rfl rfl rfl rfl Try.underlying81 kok_u (by first | ((repeat (first | with_reducible exact Upd.here _ | with_reducible apply Upd.there)); done) | ((repeat (first | exact Upd.here _ | apply Upd.there)); done) | fail) ?_)
    (repeat (refine gG ?_; try intro _))
    refine g_yd rfl rfl ((ys_lookupG (S := [mpk r (Value.int .u32) (msG x (.int .i64 (l.count x + 1 : Int)) [])]) x rfl rfl rfl rfl Try.underlying81 kok_u zero_I (.head _)).ydS sF) ?_
    refine g_say 35 (.int .i64 ((l ++ [x]).count x : Int)) rfl (hI2.look x) ?_
    (repeat (refine gG ?_; try intro _))
    refine gk_ret hT rfl rfl (.tmp rfl .nil) (fun w' hk => ?_)
    exact RetM.mkP (ll := fun T' => tbL2 t X T') (⟨some r, msG x (.int .i64 (l.count x + 1 : Int)) [], s + 1⟩ : TabS) hI2 rfl hk (fun b hb => (hE b).2 hb) (show SelAll [blk t [X.f, .map (some r), .int .i64 (s + 1), X.u, X.v, X.n] 191, mpk r (Value.int .u32) (msG x (.int .i64 (l.count x + 1 : Int)) [])] _ from sA)
  | some r =>
    have hI2 := key r M hI.map
    refine g_enter0 T E [blk t [X.f, .map (some r), .int .i64 s, X.u, X.v, X.n] 191, mpk r (Value.int .u32) M] [] Try.func34 rfl Try.ntmps34 rfl (Kn.startP h (fun b hb => (hE b).1 hb) (fun _ h => by cases h)) ?_
    have hsv : s = (l.length : Int) := hsum
    (repeat' (first | (refine gG ?_; try intro _) | ((first | refine g_split rfl rfl tE (fun _ => ?_) (fun _ => ?_) | refine gk_cond rfl rfl tE (fun _ => ?_) (fun _ => ?_)) <;> (try first | (exfalso; omega; done) | (rename_i hx; exact absurd rfl hx) | (rename_i hx; cases hx; done)))))
    refine g_yd rfl rfl (Ys.yd (ys_map_nil hT rfl rfl rfl Try.underlying81)) ?_
    (repeat (refine gG ?_; try intro _))
    refine g_yd rfl rfl ((ys_lookupG (S := [mpk r (Value.int .u32) M]) x rfl rfl rfl rfl Try.underlying81 kok_u zero_I (.head _)).ydS sF) ?_
    refine g_say 21 (.int .i64 (l.count x : Int)) rfl (hI.look x) ?_
    (repeat (refine gG ?_; try intro _))
    refine g_mv rfl (mv_mapUpdateG rfl x rfl rfl rfl rfl rfl Try.underlying81 kok_u (by first | ((repeat (first | with_reducible exact Upd.here _ | with_reducible apply Upd.there)); done) | ((repeat (first | exact Upd.here _ | apply Upd.there)); done) | fail) ?_)
    (repeat (refine gG ?_; try intro _))
    refine g_yd rfl rfl ((ys_lookupG (S := [mpk r (Value.int .u32) (msG x (.int .i64 (l.count x + 1 : Int)) M)]) x rfl rfl rfl rfl Try.underlying81 kok_u zero_I (.head _)).ydS sF) ?_
    refine g_say 35 (.int .i64 ((l ++ [x]).count x : Int)) rfl (hI2.look x) ?_
    (repeat (refine gG ?_; try intro _))
    refine gk_ret hT rfl rfl (.tmp rfl .nil) (fun w' hk => ?_)
    exact RetM.mkP (ll := fun T' => tbL2 t X T') (⟨some r, msG x (.int .i64 (l.count x + 1 : Int)) M, s + 1⟩ : TabS) hI2 rfl hk (fun b hb => (hE b).2 hb) (show SelAll [blk t [X.f, .map (some r), .int .i64 (s + 1), X.u, X.v, X.n] 191, mpk r (Value.int .u32) (msG x (.int .i64 (l.count x + 1 : Int)) M)] _ from sA)
theorem hold02_any (t : Nat) (w : World) : Calls Try.prog 34 [.pointer (some ⟨t, 1, none⟩), .int .u32 0].toArray w fun e w' => e = .returned (.int .i64 0) ∧ Below w.heap.size w w' := by
  refine g_enter0 T [] [] [] Try.func34 rfl Try.ntmps34 rfl (Kn.start _) ?_
  (repeat' (first | (refine gG ?_; try intro _) | ((first | refine g_split rfl rfl tE (fun _ => ?_) (fun _ => ?_) | refine gk_cond rfl rfl tE (fun _ => ?_) (fun _ => ?_)) <;> (try first | (exfalso; omega; done) | (rename_i hx; exact absurd rfl hx) | (rename_i hx; cases hx; done)))))
  refine gk_ret hT rfl rfl (.tmp rfl .nil) (fun w' hk => ?_)
  exact ⟨rfl, hk.toBelow⟩
theorem drop02_any (t : Nat) (X : XA) (T : TabS) (l : List Int) (x : Int) (w : World) (hc : l.count x = 0) (hI : RfI T l) (h : Rd1 w (tbF2 t X T)) :
    Calls Try.prog 30 [.pointer (some ⟨t, 1, none⟩), .int .u32 x].toArray w fun e w' => e = .returned (.tuple #[.int .i64 0, .bool false]) ∧ Below w.heap.size w w' := by
  have hl := hI.look x
  rw [hc] at hl
  obtain ⟨r, M, s⟩ := T
  cases r with
  | none =>
    have hB := Rd1.unpack h (φ := blk t [X.f, .map none, .int .i64 s, X.u, X.v, X.n] 191) (.head _)
    refine g_enter0 T [] [] [blk t [X.f, .map none, .int .i64 s, X.u, X.v, X.n] 191] Try.func30 rfl Try.ntmps30 rfl (Rds.cons hB .nil).kn ?_
    refine gk_rowR (g := t) mE ?_
    refine gk_lessR (row t 1 [.map none, .int .i64 s, X.u, X.v, X.n]) (row t 0 [X.f, .map none, .int .i64 s, X.u, X.v, X.n]) mE (fun w h => row_sub h) (fun b h => h) ?_
    (repeat (refine gG ?_; try intro _))
    refine g_yd rfl rfl (Ys.yd (ys_lookupG_nil x rfl rfl rfl rfl Try.underlying81 kok_u zero_I)) ?_
    refine g_say 11 (.int .i64 0) rfl rfl ?_
    (repeat' (first | (refine gG ?_; try intro _) | ((first | refine g_split rfl rfl tE (fun _ => ?_) (fun _ => ?_) | refine gk_cond rfl rfl tE (fun _ => ?_) (fun _ => ?_)) <;> (try first | (exfalso; omega; done) | (rename_i hx; exact absurd rfl hx) | (rename_i hx; cases hx; done)))))
    refine gk_ret hT rfl rfl (.tmp rfl (.tmp rfl .nil)) (fun w' hk => ?_)
    exact ⟨rfl, hk.toBelow⟩
  | some r =>
    have hB := Rd1.unpack h (φ := blk t [X.f, .map (some r), .int .i64 s, X.u, X.v, X.n] 191) (.head _)
    have hM := Rd1.unpack h (φ := mpk r (Value.int .u32) M) (.tail _ (.head _))
    refine g_enter0 T [] [] [blk t [X.f, .map (some r), .int .i64 s, X.u, X.v, X.n] 191, mpk r (Value.int .u32) M] Try.func30 rfl Try.ntmps30 rfl (Rds.cons hB (.cons hM .nil)).kn ?_
    refine gk_rowR (g := t) mE ?_
    refine gk_lessR (row t 1 [.map (some r), .int .i64 s, X.u, X.v, X.n]) (row t 0 [X.f, .map (some r), .int .i64 s, X.u, X.v, X.n]) mE (fun w h => row_sub h) (fun b h => h) ?_
    (repeat (refine gG ?_; try intro _))
    refine g_yd rfl rfl ((ys_lookupG (S := [mpk r (Value.int .u32) M]) x rfl rfl rfl rfl Try.underlying81 kok_u zero_I (.head _)).ydS sF) ?_
    refine g_say 11 (.int .i64 0) rfl hl ?_
    (repeat' (first | (refine gG ?_; try intro _) | ((first | refine g_split rfl rfl tE (fun _ => ?_) (fun _ => ?_) | refine gk_cond rfl rfl tE (fun _ => ?_) (fun _ => ?_)) <;> (try first | (exfalso; omega; done) | (rename_i hx; exact absurd rfl hx) | (rename_i hx; cases hx; done)))))
    refine gk_ret hT rfl rfl (.tmp rfl (.tmp rfl .nil)) (fun w' hk => ?_)
    exact ⟨rfl, hk.toBelow⟩
theorem drop2_any (t : Nat) (X : XA) (T : TabS) (l : List Int) (x : Int) (w : World) (hc : 0 < l.count x) (hI : RfI T l) (h : Rd1 w (tbF2 t X T)) :
    Calls Try.prog 30 [.pointer (some ⟨t, 1, none⟩), .int .u32 x].toArray w (RetM (tbF2 t X T) (fun T' : TabS => RfI T' (l.erase x)) (fun _ => .tuple #[.int .i64 ((l.erase x).count x : Int), .bool true]) (fun T' => tbF2 t X T') w) := by
  obtain ⟨E, hE⟩ := fin2 t X T
  have hll := hI.len
  have hcn : l.count x ≤ l.length := List.count_le_length
  have hsum := hI.sum
  have hmem : x ∈ l := List.count_pos_iff.1 hc
  have hel : (l.erase x).length = l.length - 1 := List.length_erase_of_mem hmem
  have hec : ∀ k, (l.erase x).count k = l.count k - if k = x then 1 else 0 := fun k => by
    by_cases e : k = x
    · subst e; rw [List.count_erase_self, if_pos rfl]
    · rw [List.count_erase_of_ne e, if_neg e, Nat.sub_zero]
  have hex : ((l.erase x).count x : Int) = (l.count x : Int) - 1 := by rw [hec, if_pos rfl]; omega
  obtain ⟨r, M, s⟩ := T
  cases r with
  | none =>
    have hnil := hI.nil rfl
    rw [hnil] at hc
    exact absurd hc (by simp)
  | some r =>
    have hsv : s = (l.length : Int) := hsum
    refine g_enter0 T E [blk t [X.f, .map (some r), .int .i64 s, X.u, X.v, X.n] 191, mpk r (Value.int .u32) M] [] Try.func30 rfl Try.ntmps30 rfl (Kn.startP h (fun b hb => (hE b).1 hb) (fun _ h => by cases h)) ?_
    (repeat (refine gG ?_; try intro _))
    refine g_yd rfl rfl ((ys_lookupG (S := [mpk r (Value.int .u32) M]) x rfl rfl rfl rfl Try.underlying81 kok_u zero_I (.head _)).ydS sF) ?_
    refine g_say 11 (.int .i64 (l.count x : Int)) rfl (hI.look x) ?_
    (repeat' (first | (refine gG ?_; try intro _) | ((first | refine g_split rfl rfl tE (fun _ => ?_) (fun _ => ?_) | refine gk_cond rfl rfl tE (fun _ => ?_) (fun _ => ?_)) <;> (try first | (exfalso; omega; done) | (rename_i hx; exact absurd rfl hx) | (rename_i hx; cases hx; done)))))
    refine g_yd rfl rfl ((ys_lookupG (S := [mpk r (Value.int .u32) M]) x rfl rfl rfl rfl Try.underlying81 kok_u zero_I (.head _)).ydS sF) ?_
    refine g_say 18 (.int .i64 (l.count x : Int)) rfl (hI.look x) ?_
    (repeat (refine gG ?_; try intro _))
    refine g_mv rfl (mv_mapUpdateG rfl x rfl rfl rfl rfl rfl Try.underlying81 kok_u (by first | ((repeat (first | with_reducible exact Upd.here _ | with_reducible apply Upd.there)); done) | ((repeat (first | exact Upd.here _ | apply Upd.there)); done) | fail) ?_)
    obtain ⟨M2, hM2⟩ : ∃ M2, M2 = msG x (.int .i64 ((l.count x : Int) - 1)) M := ⟨_, rfl⟩
    rw [← hM2]
    have hg2 : mg x M2 = some (.int .i64 ((l.count x : Int) - 1)) := by rw [hM2, mg_set, if_pos rfl]
    have hl2 : ((lkG x M2 0).map (·.2)).getD (.int .i64 0) = .int .i64 ((l.erase x).count x : Int) := by
      have h1 := hg2
      unfold mg at h1
      rw [h1, hex]
      rfl
    have hm2 : MapIs M2 (fun k => if k = x then some (.int .i64 ((l.count x : Int) - 1)) else cntV l k) := by
      rw [hM2]
      exact hI.map.set fun k => rfl
    (repeat (refine gG ?_; try intro _))
    refine g_yd rfl rfl ((ys_lookupG (S := [mpk r (Value.int .u32) M2]) x rfl rfl rfl rfl Try.underlying81 kok_u zero_I (.head _)).ydS sF) ?_
    refine g_say 32 (.int .i64 ((l.erase x).count x : Int)) rfl hl2 ?_
    by_cases h1 : 1 < l.count x
    · have hI2 : RfI ⟨some r, M2, s - 1⟩ (l.erase x) := ⟨fun e => (by cases e), by show s - 1 = _; rw [hel]; omega, hm2.congr fun k => by
        unfold cntV
        rw [hec]
        by_cases e : k = x
        · subst e; rw [if_pos rfl, if_pos rfl, if_neg (by omega)]; congr 2; omega
        · rw [if_neg e, if_neg e, Nat.sub_zero], by rw [hel]; omega⟩
      (repeat' (first | (refine gG ?_; try intro _) | ((first | refine g_split rfl rfl tE (fun _ => ?_) (fun _ => ?_) | refine gk_cond rfl rfl tE (fun _ => ?_) (fun _ => ?_)) <;> (try first | (exfalso; omega; done) | (rename_i hx; exact absurd rfl hx) | (rename_i hx; cases hx; done)))))
      refine g_yd rfl rfl ((ys_lookupG (S := [mpk r (Value.int .u32) M2]) x rfl rfl rfl rfl Try.underlying81 kok_u zero_I (.head _)).ydS sF) ?_
      refine g_say 39 (.int .i64 ((l.erase x).count x : Int)) rfl hl2 ?_
      (repeat (refine gG ?_; try intro _))
      refine gk_ret hT rfl rfl (.tmp rfl (.tmp rfl .nil)) (fun w' hk => ?_)
      exact RetM.mkP (ll := fun T' => tbL2 t X T') (⟨some r, M2, s - 1⟩ : TabS) hI2 rfl hk (fun b hb => (hE b).2 hb) (show SelAll [blk t [X.f, .map (some r), .int .i64 (s - 1), X.u, X.v, X.n] 191, mpk r (Value.int .u32) M2] _ from sA)
    · have hI2 : RfI ⟨some r, mdG x M2, s - 1⟩ (l.erase x) := ⟨fun e => (by cases e), by show s - 1 = _; rw [hel]; omega, hm2.del fun k => by
        unfold cntV
        rw [hec]
        by_cases e : k = x
        · subst e; rw [if_pos rfl, if_pos rfl, if_pos (by omega)]
        · rw [if_neg e, if_neg e, if_neg e, Nat.sub_zero], by rw [hel]; omega⟩
      have he0 : ((l.erase x).count x : Int) = 0 := by omega
      (repeat' (first | (refine gG ?_; try intro _) | ((first | refine g_split rfl rfl tE (fun _ => ?_) (fun _ => ?_) | refine gk_cond rfl rfl tE (fun _ => ?_) (fun _ => ?_)) <;> (try first | (exfalso; omega; done) | (rename_i hx; exact absurd rfl hx) | (rename_i hx; cases hx; done)))))
      refine g_mv rfl (mv_mapDeleteG rfl x rfl rfl rfl rfl rfl Try.underlying81 kok_u (by first | ((repeat (first | with_reducible exact Upd.here _ | with_reducible apply Upd.there)); done) | ((repeat (first | exact Upd.here _ | apply Upd.there)); done) | fail) ?_)
      (repeat (refine gG ?_; try intro _))
      refine gk_ret hT rfl rfl (.tmp rfl (.tmp rfl .nil)) (fun w' hk => ?_)
      exact RetM.mkP (ll := fun T' => tbL2 t X T') (⟨some r, mdG x M2, s - 1⟩ : TabS) hI2 (by rw [he0]; rfl) hk (fun b hb => (hE b).2 hb) (show SelAll [blk t [X.f, .map (some r), .int .i64 (s - 1), X.u, X.v, X.n] 191, mpk r (Value.int .u32) (mdG x M2)] _ from sA)
theorem len2_any (t : Nat) (X : XA) (T : TabS) (l : List Int) (w : World) (hI : RfI T l) (h : Rd1 w (tbF2 t X T)) :
    Calls Try.prog 85 [.pointer (some ⟨t, 1, none⟩)].toArray w fun e w' => e = .returned (.int .i64 ((setP l).length : Int)) ∧ Below w.heap.size w w' := by
  have hk1 := hI.keys.length_eq
  rw [List.length_map] at hk1
  rw [← hk1]
  obtain ⟨r, M, s⟩ := T
  cases r with
  | none =>
    have hB := Rd1.unpack h (φ := blk t [X.f, .map none, .int .i64 s, X.u, X.v, X.n] 191) (.head _)
    have hM0 : M.length = 0 := by
      have h2 := setP_len l
      rw [hI.nil rfl] at hk1 h2
      simp at h2
      rw [h2] at hk1
      exact hk1
    refine g_enter0 T [] [] [blk t [X.f, .map none, .int .i64 s, X.u, X.v, X.n] 191] Try.func85 rfl Try.ntmps85 rfl (Rds.cons hB .nil).kn ?_
    refine gk_rowR (g := t) mE ?_
    refine gk_lessR (row t 1 [.map none, .int .i64 s, X.u, X.v, X.n]) (row t 0 [X.f, .map none, .int .i64 s, X.u, X.v, X.n]) mE (fun w h => row_sub h) (fun b h => h) ?_
    (repeat (refine gG ?_; try intro _))
    refine gk_ret hT rfl rfl (.tmp rfl .nil) (fun w' hk => ?_)
    refine ⟨?_, hk.toBelow⟩
    show Ending.returned (.int .i64 0) = .returned (.int .i64 (M.length : Int))
    rw [hM0]
    rfl
  | some r =>
    have hB := Rd1.unpack h (φ := blk t [X.f, .map (some r), .int .i64 s, X.u, X.v, X.n] 191) (.head _)
    have hM := Rd1.unpack h (φ := mpk r (Value.int .u32) M) (.tail _ (.head _))
    refine g_enter0 T [] [] [blk t [X.f, .map (some r), .int .i64 s, X.u, X.v, X.n] 191, mpk r (Value.int .u32) M] Try.func85 rfl Try.ntmps85 rfl (Rds.cons hB (.cons hM .nil)).kn ?_
    refine gk_rowR (g := t) mE ?_
    refine gk_lessR (row t 1 [.map (some r), .int .i64 s, X.u, X.v, X.n]) (row t 0 [X.f, .map (some r), .int .i64 s, X.u, X.v, X.n]) mE (fun w h => row_sub h) (fun b h => h) ?_
    (repeat (refine gG ?_; try intro _))
    refine g_yd rfl rfl ((ys_map_len (S := [mpk r (Value.int .u32) M]) rfl rfl rfl rfl Try.underlying81 (.head _)).ydS sF) ?_
    (repeat (refine gG ?_; try intro _))
    refine gk_ret hT rfl rfl (.tmp rfl .nil) (fun w' hk => ?_)
    exact ⟨rfl, hk.toBelow⟩
theorem all2_any (t : Nat) (X : XA) (T : TabS) (l : List Int) (w : World) (hI : RfI T l) (h : Rd1 w (tbF2 t X T)) :
    Calls Try.prog 87 [.pointer (some ⟨t, 1, none⟩)].toArray w (Ret (fun _ : Value => True) (fun v => v) (fun v => [own 0 87 1 v (IE .u32) (setP l)]) w) := by
  have hky := hI.keys
  have hkl : T.M.length ≤ 1000 := by
    have h1 := hky.length_eq
    rw [List.length_map] at h1
    have h2 := setP_len l
    have := hI.len
    omega
  have hgl : ∀ {M : List (Int × Value)} (q : LbK M), M.length ≤ 1000 → q.1.2.length ≤ 1000 := fun {M} q hM => by
    have h1 := q.2.pm.length_eq
    have h2 : q.1.1.length ≤ M.length := by
      have h3 : q.1.1.Perm ((List.range M.length).filter fun i => decide (i ∈ q.1.1)) := (List.perm_ext_iff_of_nodup q.2.nd (List.nodup_range.filter _)).2 fun i => by
        rw [List.mem_filter, List.mem_range, decide_eq_true_eq]
        exact ⟨fun h => ⟨q.2.lt i h, h⟩, fun h => h.2⟩
      rw [h3.length_eq]
      exact Nat.le_trans (List.length_filter_le _ _) (by simp)
    have h3 := List.length_filterMap_le (fun i => (M[i]?).map (·.1)) q.1.1
    omega
  obtain ⟨r, M, s⟩ := T
  cases r with
  | none =>
    have hM : M = [] := by
      have h1 := hky.length_eq
      have h2 := setP_len l
      rw [hI.nil rfl] at h1 h2
      rw [List.length_map] at h1
      simp at h2
      rw [h2] at h1
      exact List.length_eq_zero_iff.1 h1
    subst hM
    have hset : setP l = [] := by
      have := hky.length_eq
      exact List.length_eq_zero_iff.1 (by simpa using this.symm)
    have hB := Rd1.unpack h (φ := blk t [X.f, .map none, .int .i64 s, X.u, X.v, X.n] 191) (.head _)
    refine g_enter0 T [] [] [blk t [X.f, .map none, .int .i64 s, X.u, X.v, X.n] 191] Try.func87 rfl Try.ntmps87 rfl (Rds.cons hB .nil).kn ?_
    refine gk_rowR (g := t) mE ?_
    refine gk_lessR (row t 1 [.map none, .int .i64 s, X.u, X.v, X.n]) (row t 0 [X.f, .map none, .int .i64 s, X.u, X.v, X.n]) mE (fun w h => row_sub h) (fun b h => h) ?_
    (repeat (refine gG ?_; try intro _))
    refine g_mv rfl ?_; refine mv_call_rt (fun w hk => keys_any (.map none) ⟨_, rfl⟩ w) rfl rfl rfl rfl rfl (by kernel_rfl) (fun _ => rfl) (fun bt _ => ?_)
    refine g_share (φ := blk bt [.map none] 81) (by repeat (first | with_reducible exact Sel.here | with_reducible apply Sel.there)) ?_
    refine g_mv rfl ?_; refine mv_call_rt (fun w hk => by exact sorted_any 176 [.pointer (some ⟨bt, 0, none⟩)] (StK []) ⟨([], []), good_nil []⟩ (FinK []) (fun q => q.1.2) [blk bt [.map none] 81] w (by kernel_rfl) (KyU.Kn.rds hk (by intro φ hφ; obtain rfl := List.mem_singleton.1 hφ; exact mE)) (fun w' hB => keys_iter_nil bt w' hB) rfl (fun q x q' ⟨_, _, _, _, h⟩ => by rw [h]) (fun q x q' _ => Nat.le_trans (hgl q (by simp)) (by decide)) (fun q _ => Nat.le_trans (hgl q (by simp)) (by decide))) rfl rfl rfl rfl rfl (by kernel_rfl) (fun _ => rfl) (fun r hr => ?_)
    obtain ⟨v, S⟩ := r
    obtain ⟨⟨q, hq1, hq2⟩, hso⟩ := hr
    dsimp only at hq2 hso ⊢
    have hp := hq2.trans (q.2.fin hq1)
    have hS : S = setP l := sorted_set (hp.trans hky) hso
    rw [hS]
    (repeat (refine gG ?_; try intro _))
    refine gk_ret hT rfl rfl (.tmp rfl .nil) (fun w' hk => ?_)
    exact Ret.mk v trivial rfl hk sA
  | some r =>
    have hB := Rd1.unpack h (φ := blk t [X.f, .map (some r), .int .i64 s, X.u, X.v, X.n] 191) (.head _)
    obtain ⟨B, ck, hM⟩ := (Rd1.unpack h (φ := mpk r (Value.int .u32) M) (.tail _ (.head _))).mpc
    refine g_enter0 T [] [] [blk t [X.f, .map (some r), .int .i64 s, X.u, X.v, X.n] 191, mpc r (Value.int .u32) M B ck] Try.func87 rfl Try.ntmps87 rfl (Rds.cons hB (.cons hM .nil)).kn ?_
    refine gk_rowR (g := t) mE ?_
    refine gk_lessR (row t 1 [.map (some r), .int .i64 s, X.u, X.v, X.n]) (row t 0 [X.f, .map (some r), .int .i64 s, X.u, X.v, X.n]) mE (fun w h => row_sub h) (fun b h => h) ?_
    (repeat (refine gG ?_; try intro _))
    refine g_mv rfl ?_; refine mv_call_rt (fun w hk => keys_any (.map (some r)) ⟨_, rfl⟩ w) rfl rfl rfl rfl rfl (by kernel_rfl) (fun _ => rfl) (fun bt _ => ?_)
    refine g_share (φ := blk bt [.map (some r)] 81) (by repeat (first | with_reducible exact Sel.here | with_reducible apply Sel.there)) ?_
    refine g_mv rfl ?_; refine mv_call_rt (fun w hk => by exact sorted_any 176 [.pointer (some ⟨bt, 0, none⟩)] (StK M) ⟨([], []), good_nil M⟩ (FinK M) (fun q => q.1.2) [blk bt [.map (some r)] 81, mpc r (Value.int .u32) M B ck] w (by kernel_rfl) (KyU.Kn.rds hk (by intro φ hφ; rcases List.mem_cons.1 hφ with rfl | hφ; exact mE; obtain rfl := List.mem_singleton.1 hφ; exact mE)) (fun w' hB => keys_iter M B ck r bt w' hB) rfl (fun q x q' ⟨_, _, _, _, h⟩ => by rw [h]) (fun q x q' _ => Nat.le_trans (hgl q hkl) (by decide)) (fun q _ => Nat.le_trans (hgl q hkl) (by decide))) rfl rfl rfl rfl rfl (by kernel_rfl) (fun _ => rfl) (fun r hr => ?_)
    obtain ⟨v, S⟩ := r
    obtain ⟨⟨q, hq1, hq2⟩, hso⟩ := hr
    dsimp only at hq2 hso ⊢
    have hp := hq2.trans (q.2.fin hq1)
    have hS : S = setP l := sorted_set (hp.trans hky) hso
    rw [hS]
    (repeat (refine gG ?_; try intro _))
    refine gk_ret hT rfl rfl (.tmp rfl .nil) (fun w' hk => ?_)
    exact Ret.mk v trivial rfl hk sA
end Go.Proofs.Ytdkgmgfadpnhbaa.Al
namespace Go.Proofs.Ytdkgmgfadpnhbaa.Hp
open Go.RowKit Mem Gx
set_option linter.unusedVariables false
set_option linter.unusedSimpArgs false
set_option maxRecDepth 100000
set_option maxHeartbeats 4000000
theorem elt_U : Elt Try.prog 85 87 1 4 := Elt.mk' (z := .int .u32 0) Try.underlying85 (by kernel_rfl) rfl (by decide)
def iota (k : Nat) : List Int := (List.range k).map fun (i : Nat) => (i : Int) + 1
theorem iota_succ (k : Nat) : iota (k + 1) = iota k ++ [(k : Int) + 1] := by
  unfold iota
  rw [List.range_succ, List.map_append]
  rfl
theorem iota_mem {k : Nat} {x : Int} (h : x ∈ iota k) : 1 ≤ x ∧ x ≤ k := by
  unfold iota at h
  obtain ⟨i, hi, rfl⟩ := List.mem_map.1 h
  have := List.mem_range.1 hi
  omega
theorem iota_len (k : Nat) : (iota k).length = k := by simp [iota]
theorem ins_end {b : Int} : ∀ {S : List Int}, (∀ x, x ∈ S → x < b) → ins b S = S ++ [b]
  | [], _ => rfl
  | x :: r, h => by
    unfold ins
    rw [if_pos (h x (.head _)), ins_end fun y hy => h y (.tail _ hy)]
    rfl
theorem give_iota (k : Nat) : giveP ((k : Int) + 1) (iota k) = (iota (k + 1), true) := by
  rw [give_yes (by
    rintro (h | h)
    · omega
    · have := iota_mem h; omega), ins_end (fun x hx => by have := iota_mem hx; omega), iota_succ]
theorem iota_sorted : ∀ k, (iota k).Pairwise (· < ·)
  | 0 => .nil
  | k + 1 => by
    rw [iota_succ]
    refine List.pairwise_append.2 ⟨iota_sorted k, List.pairwise_singleton _ _, fun a ha b hb => ?_⟩
    obtain rfl := List.mem_singleton.1 hb
    have := iota_mem ha
    omega
theorem lnew_bad (n : Int) (w : World) (hn : n < 0 ∨ 4096 < n) : Calls Try.prog 106 [.int .i64 n].toArray w fun e w' => e = .returned (.tuple #[.pointer none, .int .i64 10]) ∧ Below w.heap.size w w' := by
  refine g_enter0 T [] [] [] Try.func106 rfl Try.ntmps106 rfl (Kn.start _) ?_
  (repeat' (first | (refine gG ?_; try intro _) | ((first | refine g_split rfl rfl tE (fun _ => ?_) (fun _ => ?_) | refine gk_cond rfl rfl tE (fun _ => ?_) (fun _ => ?_)) <;> (try first | (exfalso; omega; done) | (rename_i hx; exact absurd rfl hx) | (rename_i hx; cases hx; done)))))
  all_goals refine gk_ret hT rfl rfl (.tmp rfl (.tmp rfl .nil)) (fun w' hk => ?_)
  all_goals exact ⟨rfl, hk.toBelow⟩
theorem gk_triv {X : Cx} {f : Fr} {O R : List Fact} {ks : List KI} (ψ : Fact) (hp : ∀ w, ψ.p w) (hn : ∀ b, ¬ ψ.S b) (hg : GK X ks f (ψ :: O) R) : GK X ks f O R := .mk fun a w hr hk => hg.out a w hr (hk.addO ψ (hp w) hn)
theorem lnew_any (n : Nat) (w : World) (hn : n ≤ 4096) : Calls Try.prog 106 [.int .i64 (n : Int)].toArray w (Ret (fun q : Nat × FrS => FrOk q.2 (iota n)) (fun q => .tuple #[.pointer (some ⟨q.1, 0, none⟩), .int .i64 0]) (fun q => [packF (frF q.1 q.2)]) w) := by
  refine g_enter0 T [] [] [] Try.func106 rfl Try.ntmps106 rfl (Kn.start _) ?_
  (repeat' (first | (refine gG ?_; try intro _) | ((first | refine g_split rfl rfl tE (fun _ => ?_) (fun _ => ?_) | refine gk_cond rfl rfl tE (fun _ => ?_) (fun _ => ?_)) <;> (try first | (exfalso; omega; done) | (rename_i hx; exact absurd rfl hx) | (rename_i hx; cases hx; done)))))
  rename_i g
  refine gk_own 0 87 1 (IE .u32) ?_
  refine gk_pack (frL g [.map none] 230 (.slice none 0 0) []) [] sA ?_
  have h0 : FrOk ⟨none, .slice none 0 0, [], []⟩ (iota 0) := ⟨List.Perm.refl _, List.Perm.refl _, .nil, fun k h0 hk => absurd hk (Nat.not_lt_zero _), fun _ => rfl, Nat.zero_le _⟩
  refine gk_triv (mpo none []) (fun _ => rfl) (fun b h => h) ?_
  refine gk_pack (frF g ⟨none, .slice none 0 0, [], []⟩) [] (sA : SelAll [packF (frL g [.map none] 230 (.slice none 0 0) []), mpo none []] _) ?_
  refine gk_loop_sel (fun (q : Nat × FrS) => match q with | (k, s) => (k ≤ n ∧ FrOk s (iota k))) (fun (q : Nat × FrS) => match q with | (k, s) => [(4, .pointer (some ⟨g, 0, none⟩)), (14, .int .i64 n), (15, .int .i64 k)]) (fun (q : Nat × FrS) => match q with | (k, s) => [packF (frF g s)]) (fun (q : Nat × FrS) => match q with | (k, s) => []) (fun (q : Nat × FrS) => match q with | (k, s) => n - k) (0, ⟨none, .slice none 0 0, [], []⟩) rfl ⟨Nat.zero_le _, h0⟩ (by repeat (first | exact trivial | refine ⟨rfl, ?_⟩)) sA sS ?_
  rintro ⟨k, s⟩ hI
  replace hI : (k ≤ n ∧ FrOk s (iota k)) := hI
  change GK _ _ [(4, .pointer (some ⟨g, 0, none⟩)), (14, .int .i64 n), (15, .int .i64 k)] [packF (frF g s)] []
  obtain ⟨hk1, hs⟩ := hI
  by_cases hlt : k < n
  · (repeat (refine gG ?_; try intro _))
    refine gk_cond rfl rfl (tells_tB _) (fun _ => ?_) (fun h => absurd (by omega) h)
    (repeat (refine gG ?_; try intro _))
    refine g_mv rfl (mv_call_mod (φ := packF (frF g s)) (ψ := fun q : FrS × Bool => packF (frF g q.1)) (fun w hk => lgive_any g s (iota k) ((k : Int) + 1) w hs (by rw [iota_len]; omega) (hk.rO (φ := packF (frF g s)) mE)) rfl rfl rfl rfl rfl (by kernel_rfl) (by intro _; first | ((repeat (first | with_reducible exact Upd.here _ | with_reducible apply Upd.there)); done) | ((repeat (first | exact Upd.here _ | apply Upd.there)); done) | fail) (fun q hI => ?_))
    obtain ⟨s1, b1⟩ := q
    obtain ⟨h1, h2⟩ := hI
    rw [give_iota] at h1 h2
    (repeat (refine gG ?_; try intro _))
    refine gk_again_sel rfl (k + 1, s1) ⟨by omega, h1⟩ (by dsimp only; omega) (by repeat (first | exact trivial | refine ⟨rfl, ?_⟩)) sA sS
  · obtain rfl : k = n := by omega
    (repeat (refine gG ?_; try intro _))
    refine gk_cond rfl rfl (tells_tB _) (fun h => absurd h (by omega)) (fun _ => ?_)
    (repeat (refine gG ?_; try intro _))
    refine gk_ret hT rfl rfl (.tmp rfl (.tmp rfl .nil)) (fun w' hk => ?_)
    exact Ret.mk (g, s) hs rfl hk sA
end Go.Proofs.Ytdkgmgfadpnhbaa.Hp
namespace Go.Proofs.Ytdkgmgfadpnhbaa.Al
open Go.RowKit Mem Gx Gm KyU Dd Rf Hp
set_option linter.unusedVariables false
set_option linter.unusedSimpArgs false
set_option maxRecDepth 100000
/-- What an Alloc says: free, held, sure, waiting. -/
structure AlS where
  S : List Int
  l : List Int
  U : List Int
  L : List Int
/-- Each block is free, or held, or waits. -/
structure AlP (n : Nat) (s : AlS) : Prop where
  rng : ∀ b, (b ∈ s.S ∨ b ∈ s.l ∨ b ∈ s.L) ↔ (1 ≤ b ∧ b ≤ n)
  fl : ∀ b, b ∈ s.S → b ∉ s.l
  fL : ∀ b, b ∈ s.S → b ∉ s.L
  lL : ∀ b, b ∈ s.l → b ∉ s.L
  sorted : s.S.Pairwise (· < ·)
  nd : s.L.Nodup
  sub : ∀ b, b ∈ s.L → b ∈ s.U
def uV (U : List Int) (k : Int) : Option Value := if k ∈ U then some (.int .i64 1) else none
/-- Where it lies. -/
structure AlD where
  f : Nat
  fs : FrS
  T : TabS
  rs : Nat
  M : List (Int × Value)
  v : Value
structure AlI (n : Nat) (D : AlD) (s : AlS) : Prop where
  p : AlP n s
  fr : FrOk D.fs s.S
  rf : RfI D.T s.l
  u : MapIs D.M (uV s.U)
abbrev alX (n : Nat) (D : AlD) : XA := ⟨.pointer (some ⟨D.f, 0, none⟩), .map (some D.rs), D.v, .int .i64 (n : Int)⟩
def alL (a n : Nat) (D : AlD) (s : AlS) : List Fact := [tbF2 a (alX n D) D.T, packF (frF D.f D.fs), mpk D.rs (Value.int .u32) D.M, own 0 87 1 D.v (IE .u32) s.L]
abbrev alF (a n : Nat) (D : AlD) (s : AlS) : Fact := packF (alL a n D s)
theorem AlP.len {n : Nat} {s : AlS} (h : AlP n s) : s.S.length + (setP s.l).length + s.L.length = n := by
  have nS : s.S.Nodup := h.sorted.imp fun h => by omega
  have nl : (setP s.l).Nodup := nodup_of_rise (setP_rise s.l)
  have nd : (s.S ++ (setP s.l ++ s.L)).Nodup := by
    rw [List.nodup_append, List.nodup_append]
    refine ⟨nS, ⟨nl, h.nd, fun a ha b hb e => ?_⟩, fun a ha b hb e => ?_⟩
    · subst e; exact h.lL a (mem_setP.1 ha) hb
    · subst e
      rcases List.mem_append.1 hb with hb | hb
      · exact h.fl a ha (mem_setP.1 hb)
      · exact h.fL a ha hb
  have hp : (s.S ++ (setP s.l ++ s.L)).Perm (iota n) := (List.perm_ext_iff_of_nodup nd ((iota_sorted n).imp fun h => by omega)).2 fun b => by
    rw [List.mem_append, List.mem_append, mem_setP, h.rng b]
    refine ⟨fun hb => ?_, fun hb => iota_mem hb⟩
    unfold iota
    rw [List.mem_map]
    exact ⟨(b - 1).toNat, by rw [List.mem_range]; omega, by omega⟩
  have := hp.length_eq
  rw [iota_len, List.length_append, List.length_append] at this
  omega
theorem AlP.lens {n : Nat} {s : AlS} (h : AlP n s) : s.S.length ≤ n ∧ s.L.length ≤ n := by
  have := h.len
  exact ⟨by omega, by omega⟩
theorem AlP.pos {n : Nat} {s : AlS} (h : AlP n s) {b : Int} (hb : b ∈ s.S ∨ b ∈ s.l ∨ b ∈ s.L) : 1 ≤ b ∧ b ≤ n := (h.rng b).1 hb
theorem alp_new (n : Nat) : AlP n ⟨iota n, [], [], []⟩ := ⟨fun b => by
    constructor
    · rintro (h | h | h)
      · exact iota_mem h
      · cases h
      · cases h
    · intro h
      refine .inl ?_
      show b ∈ iota n
      unfold iota
      rw [List.mem_map]
      exact ⟨(b - 1).toNat, by rw [List.mem_range]; omega, by omega⟩, fun _ _ h => (by cases h), fun _ _ h => (by cases h), fun _ h => (by cases h), iota_sorted n, List.nodup_nil, fun _ h => (by cases h)⟩
/-- Take: the lowest one. -/
theorem AlP.take {n : Nat} {S' l U L : List Int} {x : Int} (h : AlP n ⟨x :: S', l, U, L⟩) : AlP n ⟨S', l ++ [x], U, L⟩ := by
  have hx : x ∉ S' := fun hx => by have := (List.pairwise_cons.1 h.sorted).1 x hx; omega
  refine ⟨fun b => ?_, fun b hb hb2 => ?_, fun b hb => h.fL b (.tail _ hb), fun b hb => ?_, (List.pairwise_cons.1 h.sorted).2, h.nd, h.sub⟩
  · rw [← h.rng b, List.mem_append, List.mem_singleton, List.mem_cons]
    constructor
    · rintro (h1 | (h1 | h1) | h1)
      · exact .inl (.inr h1)
      · exact .inr (.inl h1)
      · exact .inl (.inl h1)
      · exact .inr (.inr h1)
    · rintro ((h1 | h1) | h1 | h1)
      · exact .inr (.inl (.inr h1))
      · exact .inl h1
      · exact .inr (.inl (.inl h1))
      · exact .inr (.inr h1)
  · rcases List.mem_append.1 hb2 with hb2 | hb2
    · exact h.fl b (.tail _ hb) hb2
    · obtain rfl := List.mem_singleton.1 hb2; exact hx hb
  · rcases List.mem_append.1 hb with hb | hb
    · exact h.lL b hb
    · obtain rfl := List.mem_singleton.1 hb; exact h.fL b (.head _)
/-- A block that is held is held once more. -/
theorem AlP.hold {n : Nat} {S l U L : List Int} {b : Int} (h : AlP n ⟨S, l, U, L⟩) (hb : b ∈ l) : AlP n ⟨S, l ++ [b], U, L⟩ := by
  have e : ∀ x, x ∈ l ++ [b] ↔ x ∈ l := fun x => by
    rw [List.mem_append, List.mem_singleton]
    exact ⟨fun h => h.elim id fun e => e ▸ hb, .inl⟩
  exact ⟨fun x => by rw [← h.rng x]; show (x ∈ S ∨ x ∈ l ++ [b] ∨ x ∈ L) ↔ _; rw [e], fun x hx h2 => h.fl x hx ((e x).1 h2), h.fL, fun x hx => h.lL x ((e x).1 hx), h.sorted, h.nd, h.sub⟩
theorem mem_erase_more {l : List Int} {b x : Int} (h : 1 < l.count b) : x ∈ l.erase b ↔ x ∈ l := by
  by_cases e : x = b
  · subst e
    rw [← List.count_pos_iff, ← List.count_pos_iff, List.count_erase_self]
    omega
  · exact List.mem_erase_of_ne e
theorem mem_erase_last {l : List Int} {b x : Int} (h : l.count b = 1) : x ∈ l.erase b ↔ x ∈ l ∧ x ≠ b := by
  by_cases e : x = b
  · subst e
    rw [← List.count_pos_iff, List.count_erase_self]
    exact ⟨fun h2 => by omega, fun h2 => absurd rfl h2.2⟩
  · rw [List.mem_erase_of_ne e]
    exact ⟨fun h => ⟨h, e⟩, fun h => h.1⟩
theorem AlP.dropM {n : Nat} {S l U L : List Int} {b : Int} (h : AlP n ⟨S, l, U, L⟩) (hb : 1 < l.count b) : AlP n ⟨S, l.erase b, U, L⟩ :=
  ⟨fun x => by rw [← h.rng x]; show (x ∈ S ∨ x ∈ l.erase b ∨ x ∈ L) ↔ _; rw [mem_erase_more hb], fun x hx h2 => h.fl x hx ((mem_erase_more hb).1 h2), h.fL, fun x hx => h.lL x ((mem_erase_more hb).1 hx), h.sorted, h.nd, h.sub⟩
theorem AlP.dropL {n : Nat} {S l U L : List Int} {b : Int} (h : AlP n ⟨S, l, U, L⟩) (hb : l.count b = 1) (hu : b ∈ U) : AlP n ⟨S, l.erase b, U, L ++ [b]⟩ := by
  have hbl : b ∈ l := List.count_pos_iff.1 (by omega)
  refine ⟨fun x => ?_, fun x hx h2 => h.fl x hx ((mem_erase_last hb).1 h2).1, fun x hx h2 => ?_, fun x hx h2 => ?_, h.sorted, ?_, fun x hx => ?_⟩
  · rw [← h.rng x]
    show (x ∈ S ∨ x ∈ l.erase b ∨ x ∈ L ++ [b]) ↔ (x ∈ S ∨ x ∈ l ∨ x ∈ L)
    rw [mem_erase_last hb, List.mem_append, List.mem_singleton]
    constructor
    · rintro (h1 | h1 | h1 | h1)
      · exact .inl h1
      · exact .inr (.inl h1.1)
      · exact .inr (.inr h1)
      · exact .inr (.inl (h1 ▸ hbl))
    · rintro (h1 | h1 | h1)
      · exact .inl h1
      · by_cases e : x = b
        · exact .inr (.inr (.inr e))
        · exact .inr (.inl ⟨h1, e⟩)
      · exact .inr (.inr (.inl h1))
  · rcases List.mem_append.1 h2 with h2 | h2
    · exact h.fL x hx h2
    · obtain rfl := List.mem_singleton.1 h2; exact h.fl x hx hbl
  · obtain ⟨h3, h4⟩ := (mem_erase_last hb).1 hx
    rcases List.mem_append.1 h2 with h2 | h2
    · exact h.lL x h3 h2
    · exact h4 (List.mem_singleton.1 h2)
  · rw [List.nodup_append]
    exact ⟨h.nd, by simp, fun x hx y hy e => by obtain rfl := List.mem_singleton.1 hy; subst e; exact h.lL x hbl hx⟩
  · rcases List.mem_append.1 hx with hx | hx
    · exact h.sub x hx
    · obtain rfl := List.mem_singleton.1 hx; exact hu
theorem AlP.dropF {n : Nat} {S l U L : List Int} {b : Int} (h : AlP n ⟨S, l, U, L⟩) (hb : l.count b = 1) : AlP n ⟨ins b S, l.erase b, U, L⟩ := by
  have hbl : b ∈ l := List.count_pos_iff.1 (by omega)
  have hbS : b ∉ S := fun h2 => h.fl b h2 hbl
  have hm : ∀ x, x ∈ ins b S ↔ x = b ∨ x ∈ S := fun x => by rw [(ins_perm b S).mem_iff, List.mem_cons]
  refine ⟨fun x => ?_, fun x hx h2 => ?_, fun x hx h2 => ?_, fun x hx => h.lL x ((mem_erase_last hb).1 hx).1, ins_sorted b S h.sorted hbS, h.nd, h.sub⟩
  · rw [← h.rng x]
    show (x ∈ ins b S ∨ x ∈ l.erase b ∨ x ∈ L) ↔ (x ∈ S ∨ x ∈ l ∨ x ∈ L)
    rw [mem_erase_last hb, hm]
    constructor
    · rintro ((h1 | h1) | h1 | h1)
      · exact .inr (.inl (h1 ▸ hbl))
      · exact .inl h1
      · exact .inr (.inl h1.1)
      · exact .inr (.inr h1)
    · rintro (h1 | h1 | h1)
      · exact .inl (.inr h1)
      · by_cases e : x = b
        · exact .inl (.inl e)
        · exact .inr (.inl ⟨h1, e⟩)
      · exact .inr (.inr h1)
  · obtain ⟨h3, h4⟩ := (mem_erase_last hb).1 h2
    rcases (hm x).1 hx with e | hx
    · exact h4 e
    · exact h.fl x hx h3
  · rcases (hm x).1 hx with e | hx
    · subst e; exact h.lL x hbl h2
    · exact h.fL x hx h2
/-- All that waited are free. -/
def insL : List Int → List Int → List Int
  | [], S => S
  | b :: L, S => insL L (ins b S)
theorem insL_spec : ∀ {L S : List Int}, S.Pairwise (· < ·) → L.Nodup → (∀ b, b ∈ L → b ∉ S) → (insL L S).Pairwise (· < ·) ∧ ∀ x, x ∈ insL L S ↔ x ∈ S ∨ x ∈ L
  | [], S, hs, _, _ => ⟨hs, fun x => by simp [insL]⟩
  | b :: L, S, hs, hn, hd => by
    rw [List.nodup_cons] at hn
    have hbS := hd b (.head _)
    have hm : ∀ x, x ∈ ins b S ↔ x = b ∨ x ∈ S := fun x => by rw [(ins_perm b S).mem_iff, List.mem_cons]
    obtain ⟨h1, h2⟩ := insL_spec (L := L) (S := ins b S) (ins_sorted b S hs hbS) hn.2 fun x hx h3 => by
      rcases (hm x).1 h3 with e | h3
      · subst e; exact hn.1 hx
      · exact hd x (.tail _ hx) h3
    refine ⟨h1, fun x => ?_⟩
    show x ∈ insL L (ins b S) ↔ _
    rw [h2, hm, List.mem_cons]
    constructor
    · rintro ((h | h) | h)
      · exact .inr (.inl h)
      · exact .inl h
      · exact .inr (.inr h)
    · rintro (h | h | h)
      · exact .inl (.inr h)
      · exact .inl (.inl h)
      · exact .inr h
theorem AlP.commit {n : Nat} {s : AlS} (h : AlP n s) : AlP n ⟨insL s.L s.S, s.l, setP s.l, []⟩ := by
  obtain ⟨h1, h2⟩ := insL_spec h.sorted h.nd fun b hb h3 => h.fL b h3 hb
  refine ⟨fun x => ?_, fun x hx h3 => ?_, fun x hx h3 => (by cases h3), fun x hx h3 => (by cases h3), h1, List.nodup_nil, fun x hx => (by cases hx)⟩
  · rw [← h.rng x]
    show (x ∈ insL s.L s.S ∨ x ∈ s.l ∨ x ∈ []) ↔ _
    rw [h2]
    simp only [List.not_mem_nil, or_false]
    constructor
    · rintro ((h | h) | h)
      · exact .inl h
      · exact .inr (.inr h)
      · exact .inr (.inl h)
    · rintro (h | h | h)
      · exact .inl (.inl h)
      · exact .inr h
      · exact .inl (.inr h)
  · rcases (h2 x).1 hx with h4 | h4
    · exact h.fl x h4 h3
    · exact h.lL x h3 h4
/-- A block is held, whether it was or not (it doesn't wait). -/
theorem AlP.adopt {n : Nat} {S l U L : List Int} {b : Int} (h : AlP n ⟨S, l, U, L⟩) (h1 : 1 ≤ b) (h2 : b ≤ n) (hL : b ∉ L) : AlP n ⟨dropP b S, l ++ [b], U, L⟩ := by
  have hm : ∀ x, x ∈ dropP b S ↔ x ∈ S ∧ x ≠ b := fun x => by unfold dropP; rw [List.mem_filter, decide_eq_true_eq]
  refine ⟨fun x => ?_, fun x hx h3 => ?_, fun x hx => h.fL x ((hm x).1 hx).1, fun x hx h3 => ?_, h.sorted.filter _, h.nd, h.sub⟩
  · show (x ∈ dropP b S ∨ x ∈ l ++ [b] ∨ x ∈ L) ↔ _
    rw [hm, List.mem_append, List.mem_singleton]
    have hr := h.rng x
    dsimp only at hr
    constructor
    · rintro (h4 | (h4 | h4) | h4)
      · exact hr.1 (.inl h4.1)
      · exact hr.1 (.inr (.inl h4))
      · omega
      · exact hr.1 (.inr (.inr h4))
    · intro h4
      by_cases e : x = b
      · exact .inr (.inl (.inr e))
      · rcases hr.2 h4 with h5 | h5 | h5
        · exact .inl ⟨h5, e⟩
        · exact .inr (.inl (.inl h5))
        · exact .inr (.inr h5)
  · obtain ⟨h4, h5⟩ := (hm x).1 hx
    rcases List.mem_append.1 h3 with h3 | h3
    · exact h.fl x h4 h3
    · exact h5 (List.mem_singleton.1 h3)
  · rcases List.mem_append.1 hx with hx | hx
    · exact h.lL x hx h3
    · obtain rfl := List.mem_singleton.1 hx; exact hL h3
end Go.Proofs.Ytdkgmgfadpnhbaa.Al
namespace Go.Proofs.Ytdkgmgfadpnhbaa.Al
open Go.RowKit Mem Gx Gm KyU Dd Rf Hp
set_option linter.unusedVariables false
set_option linter.unusedSimpArgs false
set_option maxRecDepth 100000
set_option maxHeartbeats 1000000
/-- What may be read of an Alloc. -/
structure RdA (a n f : Nat) (fs : FrS) (T1 : TabS) (rs : Nat) (M : List (Int × Value)) (v : Value) (L : List Int) (w : World) : Prop where
  b : Rd1 w (blk a [.pointer (some ⟨f, 0, none⟩), .map T1.r, .int .i64 T1.sum, .map (some rs), v, .int .i64 (n : Int)] 191)
  t : Rd1 w (tbF2 a (⟨.pointer (some ⟨f, 0, none⟩), .map (some rs), v, .int .i64 (n : Int)⟩ : XA) T1)
  f : Rd1 w (packF (frF f fs))
  m : Rd1 w (mpk rs (Value.int .u32) M)
  o : Rd1 w (own 0 87 1 v (IE .u32) L)
theorem rda {a n : Nat} {f : Nat} {fs : FrS} {T1 : TabS} {rs : Nat} {M : List (Int × Value)} {v : Value} {s : AlS} {w : World} (h : Rd1 w (alF a n ⟨f, fs, T1, rs, M, v⟩ s)) : RdA a n f fs T1 rs M v s.L w := by
  have ht : Rd1 w (tbF2 a (⟨.pointer (some ⟨f, 0, none⟩), .map (some rs), v, .int .i64 (n : Int)⟩ : XA) T1) := h.unpack (.head _)
  exact ⟨ht.unpack (.head _), ht, h.unpack (.tail _ (.head _)), h.unpack (.tail _ (.tail _ (.head _))), h.unpack (.tail _ (.tail _ (.tail _ (.head _))))⟩
theorem alen_any (a n : Nat) (D : AlD) (s : AlS) (w : World) (h : Rd1 w (alF a n D s)) :
    Calls Try.prog 115 [.pointer (some ⟨a, 0, none⟩)].toArray w fun e w' => e = .returned (.int .i64 (n : Int)) ∧ Below w.heap.size w w' := by
  obtain ⟨f, fs, T1, rs, M, v⟩ := D
  have hr := rda h
  refine g_enter0 T [] [] [blk a [.pointer (some ⟨f, 0, none⟩), .map T1.r, .int .i64 T1.sum, .map (some rs), v, .int .i64 (n : Int)] 191] Try.func115 rfl Try.ntmps115 rfl (Rds.cons hr.b .nil).kn ?_
  refine gk_rowR (g := a) mE ?_
  (repeat (refine gG ?_; try intro _))
  refine gk_ret hT rfl rfl (.tmp rfl .nil) (fun w' hk => ?_)
  exact ⟨rfl, hk.toBelow⟩
theorem afree_any (a n : Nat) (D : AlD) (s : AlS) (w : World) (hI : AlI n D s) (h : Rd1 w (alF a n D s)) :
    Calls Try.prog 59 [.pointer (some ⟨a, 0, none⟩)].toArray w fun e w' => e = .returned (.int .i64 (s.S.length : Int)) ∧ Below w.heap.size w w' := by
  have hl := hI.fr.l.length_eq
  have h9 := hI.fr.len
  obtain ⟨f, fs, T1, rs, M, v⟩ := D
  have hr := rda h
  replace hl : fs.L.length = s.S.length := hl
  rw [← hl]
  refine g_enter0 T [] [] [blk a [.pointer (some ⟨f, 0, none⟩), .map T1.r, .int .i64 T1.sum, .map (some rs), v, .int .i64 (n : Int)] 191, packF (frF f fs)] Try.func59 rfl Try.ntmps59 rfl (Rds.cons hr.b (.cons hr.f .nil)).kn ?_
  refine gk_rowR (g := a) mE ?_
  (repeat (refine gG ?_; try intro _))
  refine g_mv rfl ?_; refine mv_call_bel (fun w hk => llen_any f fs w (hk.rR (φ := packF (frF f fs)) mE) (by omega)) rfl rfl rfl rfl rfl (by kernel_rfl) ?_
  (repeat (refine gG ?_; try intro _))
  refine gk_ret hT rfl rfl (.tmp rfl .nil) (fun w' hk => ?_)
  exact ⟨rfl, hk.toBelow⟩
theorem alate_any (a n : Nat) (D : AlD) (s : AlS) (w : World) (h : Rd1 w (alF a n D s)) :
    Calls Try.prog 58 [.pointer (some ⟨a, 0, none⟩)].toArray w fun e w' => e = .returned (.int .i64 (s.L.length : Int)) ∧ Below w.heap.size w w' := by
  obtain ⟨f, fs, T1, rs, M, v⟩ := D
  obtain ⟨S, l, U, L⟩ := s
  have hr := rda h
  obtain ⟨A, c, hv, _⟩ := own_rdv hr.o
  replace hv : v = .slice A L.length c := hv
  subst hv
  refine g_enter0 T [] [] [blk a [.pointer (some ⟨f, 0, none⟩), .map T1.r, .int .i64 T1.sum, .map (some rs), .slice A L.length c, .int .i64 (n : Int)] 191] Try.func58 rfl Try.ntmps58 rfl (Rds.cons hr.b .nil).kn ?_
  refine gk_rowR (g := a) mE ?_
  (repeat (refine gG ?_; try intro _))
  refine gk_ret hT rfl rfl (.tmp rfl .nil) (fun w' hk => ?_)
  exact ⟨rfl, hk.toBelow⟩
theorem acount_any (a n : Nat) (D : AlD) (s : AlS) (b : Int) (w : World) (hI : AlI n D s) (h : Rd1 w (alF a n D s)) :
    Calls Try.prog 116 [.pointer (some ⟨a, 0, none⟩), .int .u32 b].toArray w fun e w' => e = .returned (.int .i64 (s.l.count b : Int)) ∧ Below w.heap.size w w' := by
  have hf := hI.rf
  obtain ⟨f, fs, T1, rs, M, v⟩ := D
  have hr := rda h
  refine g_enter0 T [] [] [tbF2 a (⟨.pointer (some ⟨f, 0, none⟩), .map (some rs), v, .int .i64 (n : Int)⟩ : XA) T1] Try.func116 rfl Try.ntmps116 rfl (Rds.cons hr.t .nil).kn ?_
  (repeat (refine gG ?_; try intro _))
  refine g_mv rfl ?_; refine mv_call_bel (fun w hk => count2_any a (⟨.pointer (some ⟨f, 0, none⟩), .map (some rs), v, .int .i64 (n : Int)⟩ : XA) T1 s.l b w hf (hk.rR (φ := tbF2 a (⟨.pointer (some ⟨f, 0, none⟩), .map (some rs), v, .int .i64 (n : Int)⟩ : XA) T1) mE)) rfl rfl rfl rfl rfl (by kernel_rfl) ?_
  (repeat (refine gG ?_; try intro _))
  refine gk_ret hT rfl rfl (.tmp rfl .nil) (fun w' hk => ?_)
  exact ⟨rfl, hk.toBelow⟩
theorem aheld_any (a n : Nat) (D : AlD) (s : AlS) (w : World) (hI : AlI n D s) (h : Rd1 w (alF a n D s)) :
    Calls Try.prog 117 [.pointer (some ⟨a, 0, none⟩)].toArray w (Ret (fun _ : Value => True) (fun v => v) (fun v => [own 0 87 1 v (IE .u32) (setP s.l)]) w) := by
  have hf := hI.rf
  obtain ⟨f, fs, T1, rs, M, v⟩ := D
  have hr := rda h
  refine g_enter0 T [] [] [tbF2 a (⟨.pointer (some ⟨f, 0, none⟩), .map (some rs), v, .int .i64 (n : Int)⟩ : XA) T1] Try.func117 rfl Try.ntmps117 rfl (Rds.cons hr.t .nil).kn ?_
  (repeat (refine gG ?_; try intro _))
  refine g_mv rfl ?_; refine mv_call_rt (fun w hk => all2_any a (⟨.pointer (some ⟨f, 0, none⟩), .map (some rs), v, .int .i64 (n : Int)⟩ : XA) T1 s.l w hf (hk.rR (φ := tbF2 a (⟨.pointer (some ⟨f, 0, none⟩), .map (some rs), v, .int .i64 (n : Int)⟩ : XA) T1) mE)) rfl rfl rfl rfl rfl (by kernel_rfl) (fun _ => rfl) (fun v1 _ => ?_)
  (repeat (refine gG ?_; try intro _))
  refine gk_ret hT rfl rfl (.tmp rfl .nil) (fun w' hk => ?_)
  exact Ret.mk v1 trivial rfl hk sA
theorem anew_bad (n : Int) (w : World) (hn : n < 0 ∨ 4096 < n) : Calls Try.prog 54 [.int .i64 n].toArray w fun e w' => e = .returned (.tuple #[.pointer none, .int .i64 10]) ∧ Below w.heap.size w w' := by
  refine g_enter0 T [] [] [] Try.func54 rfl Try.ntmps54 rfl (Kn.start _) ?_
  (repeat' (first | (refine gG ?_; try intro _) | (refine g_mv rfl ?_; first | refine mv_call_bel (fun w hk => lnew_bad n w hn) rfl rfl rfl rfl rfl (by kernel_rfl) ?_) | ((first | refine g_split rfl rfl tE (fun _ => ?_) (fun _ => ?_) | refine gk_cond rfl rfl tE (fun _ => ?_) (fun _ => ?_)) <;> (try first | (exfalso; omega; done) | (rename_i hx; exact absurd rfl hx) | (rename_i hx; cases hx; done)))))
  refine gk_ret hT rfl rfl (.tmp rfl (.tmp rfl .nil)) (fun w' hk => ?_)
  exact ⟨rfl, hk.toBelow⟩
theorem anew_any (n : Nat) (w : World) (hn : n ≤ 4096) : Calls Try.prog 54 [.int .i64 (n : Int)].toArray w (Ret (fun q : Nat × AlD => AlI n q.2 ⟨iota n, [], [], []⟩) (fun q => .tuple #[.pointer (some ⟨q.1, 0, none⟩), .int .i64 0]) (fun q => [alF q.1 n q.2 ⟨iota n, [], [], []⟩]) w) := by
  refine g_enter0 T [] [] [] Try.func54 rfl Try.ntmps54 rfl (Kn.start _) ?_
  (repeat (refine gG ?_; try intro _))
  refine g_mv rfl ?_; refine mv_call_rt (fun w hk => lnew_any n w hn) rfl rfl rfl rfl rfl (by kernel_rfl) (fun _ => rfl) (fun q hq => ?_)
  obtain ⟨f, fs⟩ := q
  dsimp only at hq ⊢
  (repeat' (first | (refine gG ?_; try intro _) | ((first | refine g_split rfl rfl tE (fun _ => ?_) (fun _ => ?_) | refine gk_cond rfl rfl tE (fun _ => ?_) (fun _ => ?_)) <;> (try first | (exfalso; omega; done) | (rename_i hx; exact absurd rfl hx) | (rename_i hx; cases hx; done)))))
  refine g_mv rfl (mv_makeMapG rfl (Value.int .u32) rfl (fun rs => ?_))
  (repeat (refine gG ?_; try intro _))
  rename_i a
  refine gk_own 0 87 1 (IE .u32) ?_
  refine gk_triv (moF none []) (fun w => rfl) (fun b h => h) ?_
  obtain ⟨v, hv⟩ : ∃ v, v = Value.slice none 0 0 := ⟨_, rfl⟩
  refine gk_pack (tbL2 a (⟨.pointer (some ⟨f, 0, none⟩), .map (some rs), .slice none 0 0, .int .i64 (n : Int)⟩ : XA) ⟨none, [], 0⟩) [packF (frF f fs), mpk rs (Value.int .u32) [], own 0 87 1 (.slice none 0 0) (IE .u32) []] sA ?_
  refine gk_pack (alL a n ⟨f, fs, ⟨none, [], 0⟩, rs, [], .slice none 0 0⟩ ⟨iota n, [], [], []⟩) [] sA ?_
  refine gk_ret hT rfl rfl (.tmp rfl (.tmp rfl .nil)) (fun w' hk => ?_)
  exact Ret.mk ((a, ⟨f, fs, ⟨none, [], 0⟩, rs, [], .slice none 0 0⟩) : Nat × AlD) ⟨alp_new n, hq, ⟨fun _ => rfl, rfl, MapIs.nil.congr fun k => by simp [cntV], by simp⟩, MapIs.nil.congr fun k => by simp [uV]⟩ rfl hk sA
end Go.Proofs.Ytdkgmgfadpnhbaa.Al
namespace Go.Proofs.Ytdkgmgfadpnhbaa.Al
open Go.RowKit Mem Gx Gm KyU Dd Rf Hp
set_option linter.unusedVariables false
set_option linter.unusedSimpArgs false
set_option maxRecDepth 100000
set_option maxHeartbeats 2000000
def takeA (s : AlS) : AlS × Int × Int := match s.S with
  | [] => (s, 0, 30)
  | x :: S' => (⟨S', s.l ++ [x], s.U, s.L⟩, x, 0)
theorem atake_any (a n : Nat) (D : AlD) (s : AlS) (w : World) (hl9 : s.l.length < 1000) (hI : AlI n D s) (h : Rd1 w (alF a n D s)) :
    Calls Try.prog 55 [.pointer (some ⟨a, 0, none⟩)].toArray w (RetM (alF a n D s) (fun r : AlD × AlS × Int × Int => AlI n r.1 r.2.1 ∧ r.2 = takeA s) (fun r => .tuple #[.int .u32 r.2.2.1, .int .i64 r.2.2.2]) (fun r => alF a n r.1 r.2.1) w) := by
  obtain ⟨f, fs, T1, rs, M, v⟩ := D
  obtain ⟨S, l, U, L⟩ := s
  obtain ⟨hp, hf, hr, hu⟩ := hI
  dsimp only at hp hf hr hu hl9
  refine g_enter0 T (finE (alF a n ⟨f, fs, T1, rs, M, v⟩ ⟨S, l, U, L⟩) w) [tbF2 a (⟨.pointer (some ⟨f, 0, none⟩), .map (some rs), v, .int .i64 (n : Int)⟩ : XA) T1, packF (frF f fs), mpk rs (Value.int .u32) M, own 0 87 1 v (IE .u32) L] [] Try.func55 rfl Try.ntmps55 rfl (Kn.startP h (fun b hb => (finE_mem h.2 b).2 hb) (fun _ h => by cases h)) ?_
  rw [show tbF2 a (⟨.pointer (some ⟨f, 0, none⟩), .map (some rs), v, .int .i64 (n : Int)⟩ : XA) T1 = packF [blk a [.pointer (some ⟨f, 0, none⟩), .map T1.r, .int .i64 T1.sum, .map (some rs), v, .int .i64 (n : Int)] 191, moF T1.r T1.M] from rfl]
  refine gk_unpack (l := [blk a [.pointer (some ⟨f, 0, none⟩), .map T1.r, .int .i64 T1.sum, .map (some rs), v, .int .i64 (n : Int)] 191, moF T1.r T1.M]) (by repeat (first | with_reducible exact Sel.here | with_reducible apply Sel.there)) ?_
  (repeat (refine gG ?_; try intro _))
  refine g_mv rfl (mv_call_mod (φ := packF (frF f fs)) (ψ := fun r : FrS × Int × Bool => packF (frF f r.1)) (fun w1 hk => by exact ltake_any f fs S w1 hf (hk.rO (φ := packF (frF f fs)) mE)) rfl rfl rfl rfl rfl (by kernel_rfl) (by intro _; first | ((repeat (first | with_reducible exact Upd.here _ | with_reducible apply Upd.there)); done) | ((repeat (first | exact Upd.here _ | apply Upd.there)); done) | fail) (fun r hr2 => ?_))
  obtain ⟨fs', b, ok⟩ := r
  obtain ⟨hf', hv⟩ := hr2
  dsimp only at hf' hv ⊢
  cases S with
  | nil =>
    obtain ⟨rfl, rfl⟩ : b = 0 ∧ ok = false := by cases hv; exact ⟨rfl, rfl⟩
    (repeat (refine gG ?_; try intro _))
    refine gk_pack (tbL2 a (⟨.pointer (some ⟨f, 0, none⟩), .map (some rs), v, .int .i64 (n : Int)⟩ : XA) T1) [packF (frF f fs'), mpk rs (Value.int .u32) M, own 0 87 1 v (IE .u32) L] sA ?_
    refine gk_ret hT rfl rfl (.tmp rfl (.tmp rfl .nil)) (fun w' hk => ?_)
    exact RetM.mkP (ll := fun r : AlD × AlS × Int × Int => alL a n r.1 r.2.1) ((⟨f, fs', T1, rs, M, v⟩, ⟨[], l, U, L⟩, 0, 30) : AlD × AlS × Int × Int) ⟨⟨hp, hf', hr, hu⟩, rfl⟩ rfl hk (fun b hb => (finE_mem h.2 b).1 hb) (show SelAll [tbF2 a (⟨.pointer (some ⟨f, 0, none⟩), .map (some rs), v, .int .i64 (n : Int)⟩ : XA) T1, packF (frF f fs'), mpk rs (Value.int .u32) M, own 0 87 1 v (IE .u32) L] _ from sA)
  | cons x S' =>
    obtain ⟨rfl, rfl⟩ : b = x ∧ ok = true := by cases hv; exact ⟨rfl, rfl⟩
    have hx := hp.pos (b := b) (.inl (.head _))
    (repeat (refine gG ?_; try intro _))
    refine g_pack (tbL2 a (⟨.pointer (some ⟨f, 0, none⟩), .map (some rs), v, .int .i64 (n : Int)⟩ : XA) T1) [packF (frF f fs'), mpk rs (Value.int .u32) M, own 0 87 1 v (IE .u32) L] sA ?_
    refine g_mv rfl (mv_call_mod (φ := tbF2 a (⟨.pointer (some ⟨f, 0, none⟩), .map (some rs), v, .int .i64 (n : Int)⟩ : XA) T1) (ψ := fun T' : TabS => tbF2 a (⟨.pointer (some ⟨f, 0, none⟩), .map (some rs), v, .int .i64 (n : Int)⟩ : XA) T') (fun w1 hk => by exact hold2_any a (⟨.pointer (some ⟨f, 0, none⟩), .map (some rs), v, .int .i64 (n : Int)⟩ : XA) T1 l b w1 (by omega) hl9 hr (hk.rO (φ := tbF2 a (⟨.pointer (some ⟨f, 0, none⟩), .map (some rs), v, .int .i64 (n : Int)⟩ : XA) T1) mE)) rfl rfl rfl rfl rfl (by kernel_rfl) (by intro _; first | ((repeat (first | with_reducible exact Upd.here _ | with_reducible apply Upd.there)); done) | ((repeat (first | exact Upd.here _ | apply Upd.there)); done) | fail) (fun T' hT' => ?_))
    (repeat (refine gG ?_; try intro _))
    refine gk_ret hT rfl rfl (.tmp rfl (.tmp rfl .nil)) (fun w' hk => ?_)
    exact RetM.mkP (ll := fun r : AlD × AlS × Int × Int => alL a n r.1 r.2.1) ((⟨f, fs', T', rs, M, v⟩, ⟨S', l ++ [b], U, L⟩, b, 0) : AlD × AlS × Int × Int) ⟨⟨hp.take, hf', hT', hu⟩, rfl⟩ rfl hk (fun b hb => (finE_mem h.2 b).1 hb) (show SelAll [tbF2 a (⟨.pointer (some ⟨f, 0, none⟩), .map (some rs), v, .int .i64 (n : Int)⟩ : XA) T', packF (frF f fs'), mpk rs (Value.int .u32) M, own 0 87 1 v (IE .u32) L] _ from sA)
/-- What Drop leaves. -/
def dropA (s : AlS) (b : Int) : AlS × Int := if s.l.count b = 0 then (s, 60) else if 1 < s.l.count b then (⟨s.S, s.l.erase b, s.U, s.L⟩, 0) else if b ∈ s.U then (⟨s.S, s.l.erase b, s.U, s.L ++ [b]⟩, 0) else (⟨ins b s.S, s.l.erase b, s.U, s.L⟩, 0)
theorem lk_u {M : List (Int × Value)} {U : List Int} (hu : MapIs M (uV U)) (b : Int) : ((lkG b M 0).map (·.2)).getD (.int .i64 0) = .int .i64 (if b ∈ U then 1 else 0) := by
  have h1 := hu.get b
  unfold mg at h1
  rw [h1]
  unfold uV
  split <;> rfl
theorem adrop_any (a n : Nat) (D : AlD) (s : AlS) (b : Int) (w : World) (hn : n ≤ 4096) (hI : AlI n D s) (h : Rd1 w (alF a n D s)) :
    Calls Try.prog 57 [.pointer (some ⟨a, 0, none⟩), .int .u32 b].toArray w (RetM (alF a n D s) (fun r : AlD × AlS × Int => AlI n r.1 r.2.1 ∧ r.2 = dropA s b) (fun r => .int .i64 r.2.2) (fun r => alF a n r.1 r.2.1) w) := by
  have hlens := hI.p.lens
  obtain ⟨f, fs, T1, rs, M, v⟩ := D
  obtain ⟨S, l, U, L⟩ := s
  obtain ⟨hp, hf, hr, hu⟩ := hI
  dsimp only at hp hf hr hu hlens
  refine g_enter0 T (finE (alF a n ⟨f, fs, T1, rs, M, v⟩ ⟨S, l, U, L⟩) w) [tbF2 a (⟨.pointer (some ⟨f, 0, none⟩), .map (some rs), v, .int .i64 (n : Int)⟩ : XA) T1, packF (frF f fs), mpk rs (Value.int .u32) M, own 0 87 1 v (IE .u32) L] [] Try.func57 rfl Try.ntmps57 rfl (Kn.startP h (fun b hb => (finE_mem h.2 b).2 hb) (fun _ h => by cases h)) ?_
  (repeat (refine gG ?_; try intro _))
  by_cases h0 : l.count b = 0
  · have hd : dropA ⟨S, l, U, L⟩ b = (⟨S, l, U, L⟩, 60) := if_pos h0
    refine g_mv rfl ?_; refine mv_call_bel (fun w hk => drop02_any a (⟨.pointer (some ⟨f, 0, none⟩), .map (some rs), v, .int .i64 (n : Int)⟩ : XA) T1 l b w h0 hr (hk.rO (φ := tbF2 a (⟨.pointer (some ⟨f, 0, none⟩), .map (some rs), v, .int .i64 (n : Int)⟩ : XA) T1) mE)) rfl rfl rfl rfl rfl (by kernel_rfl) ?_
    (repeat' (first | (refine gG ?_; try intro _) | ((first | refine g_split rfl rfl tE (fun _ => ?_) (fun _ => ?_) | refine gk_cond rfl rfl tE (fun _ => ?_) (fun _ => ?_)) <;> (try first | (exfalso; omega; done) | (rename_i hx; exact absurd rfl hx) | (rename_i hx; cases hx; done)))))
    refine gk_ret hT rfl rfl (.tmp rfl .nil) (fun w' hk => ?_)
    exact RetM.mkP (ll := fun r : AlD × AlS × Int => alL a n r.1 r.2.1) ((⟨f, fs, T1, rs, M, v⟩, ⟨S, l, U, L⟩, 60) : AlD × AlS × Int) ⟨⟨hp, hf, hr, hu⟩, hd.symm⟩ rfl hk (fun b hb => (finE_mem h.2 b).1 hb) (show SelAll [tbF2 a (⟨.pointer (some ⟨f, 0, none⟩), .map (some rs), v, .int .i64 (n : Int)⟩ : XA) T1, packF (frF f fs), mpk rs (Value.int .u32) M, own 0 87 1 v (IE .u32) L] _ from sA)
  have hb : b ∈ l := List.count_pos_iff.1 (by omega)
  have hb1 := hp.pos (b := b) (.inr (.inl hb))
  have hec : (l.erase b).count b = l.count b - 1 := List.count_erase_self
  refine g_mv rfl (mv_call_mod (φ := tbF2 a (⟨.pointer (some ⟨f, 0, none⟩), .map (some rs), v, .int .i64 (n : Int)⟩ : XA) T1) (ψ := fun T' : TabS => tbF2 a (⟨.pointer (some ⟨f, 0, none⟩), .map (some rs), v, .int .i64 (n : Int)⟩ : XA) T') (fun w1 hk => by exact drop2_any a (⟨.pointer (some ⟨f, 0, none⟩), .map (some rs), v, .int .i64 (n : Int)⟩ : XA) T1 l b w1 (by omega) hr (hk.rO (φ := tbF2 a (⟨.pointer (some ⟨f, 0, none⟩), .map (some rs), v, .int .i64 (n : Int)⟩ : XA) T1) mE)) rfl rfl rfl rfl rfl (by kernel_rfl) (by intro _; first | ((repeat (first | with_reducible exact Upd.here _ | with_reducible apply Upd.there)); done) | ((repeat (first | exact Upd.here _ | apply Upd.there)); done) | fail) (fun T' hT' => ?_))
  by_cases h1 : 1 < l.count b
  · have hd : dropA ⟨S, l, U, L⟩ b = (⟨S, l.erase b, U, L⟩, 0) := (if_neg h0).trans (if_pos h1)
    (repeat' (first | (refine gG ?_; try intro _) | ((first | refine g_split rfl rfl tE (fun _ => ?_) (fun _ => ?_) | refine gk_cond rfl rfl tE (fun _ => ?_) (fun _ => ?_)) <;> (try first | (exfalso; omega; done) | (rename_i hx; exact absurd rfl hx) | (rename_i hx; cases hx; done)))))
    refine gk_ret hT rfl rfl (.tmp rfl .nil) (fun w' hk => ?_)
    exact RetM.mkP (ll := fun r : AlD × AlS × Int => alL a n r.1 r.2.1) ((⟨f, fs, T', rs, M, v⟩, ⟨S, l.erase b, U, L⟩, 0) : AlD × AlS × Int) ⟨⟨hp.dropM h1, hf, hT', hu⟩, hd.symm⟩ rfl hk (fun b hb => (finE_mem h.2 b).1 hb) (show SelAll [tbF2 a (⟨.pointer (some ⟨f, 0, none⟩), .map (some rs), v, .int .i64 (n : Int)⟩ : XA) T', packF (frF f fs), mpk rs (Value.int .u32) M, own 0 87 1 v (IE .u32) L] _ from sA)
  have hc1 : l.count b = 1 := by omega
  rw [show tbF2 a (⟨.pointer (some ⟨f, 0, none⟩), .map (some rs), v, .int .i64 (n : Int)⟩ : XA) T' = packF [blk a [.pointer (some ⟨f, 0, none⟩), .map T'.r, .int .i64 T'.sum, .map (some rs), v, .int .i64 (n : Int)] 191, moF T'.r T'.M] from rfl]
  refine g_unpack (l := [blk a [.pointer (some ⟨f, 0, none⟩), .map T'.r, .int .i64 T'.sum, .map (some rs), v, .int .i64 (n : Int)] 191, moF T'.r T'.M]) (by repeat (first | with_reducible exact Sel.here | with_reducible apply Sel.there)) ?_
  (repeat' (first | (refine gG ?_; try intro _) | ((first | refine g_split rfl rfl tE (fun _ => ?_) (fun _ => ?_) | refine gk_cond rfl rfl tE (fun _ => ?_) (fun _ => ?_)) <;> (try first | (exfalso; omega; done) | (rename_i hx; exact absurd rfl hx) | (rename_i hx; cases hx; done)))))
  refine g_yd rfl rfl ((ys_lookupG (S := [mpk rs (Value.int .u32) M]) b rfl rfl rfl rfl Try.underlying81 kok_u zero_I (.head _)).ydS sF) ?_
  refine g_say 33 (.int .i64 (if b ∈ U then 1 else 0)) rfl (lk_u hu b) ?_
  by_cases hbu : b ∈ U
  · have hd : dropA ⟨S, l, U, L⟩ b = (⟨S, l.erase b, U, L ++ [b]⟩, 0) := (if_neg h0).trans ((if_neg h1).trans (if_pos hbu))
    rw [if_pos hbu]
    (repeat' (first | (refine gG ?_; try intro _) | ((first | refine g_split rfl rfl tE (fun _ => ?_) (fun _ => ?_) | refine gk_cond rfl rfl tE (fun _ => ?_) (fun _ => ?_)) <;> (try first | (exfalso; omega; done) | (rename_i hx; exact absurd rfl hx) | (rename_i hx; cases hx; done)))))
    refine g_mv rfl (mv_append (L := L) rfl [b] rfl rfl rfl rfl Al.elt_U (by intro _; first | ((repeat (first | with_reducible exact Upd.here _ | with_reducible apply Upd.there)); done) | ((repeat (first | exact Upd.here _ | apply Upd.there)); done) | fail) (src_blk mE rfl) rfl Al.oneU (by simp only [maxLen, List.length_append, List.length_cons, List.length_nil]; omega) (by simp only [List.length_append, List.length_cons, List.length_nil]; omega) (Nat.zero_le _) (fun v2 => ?_))
    refine g_ownv v2 mE (fun A1 c1 hv1 _ _ _ => ?_)
    subst hv1
    (repeat (refine gG ?_; try intro _))
    refine gk_pack (tbL2 a (⟨.pointer (some ⟨f, 0, none⟩), .map (some rs), .slice A1 (L ++ [b]).length c1, .int .i64 (n : Int)⟩ : XA) T') [packF (frF f fs), mpk rs (Value.int .u32) M, own 0 87 1 (.slice A1 (L ++ [b]).length c1) (IE .u32) (L ++ [b])] sA ?_
    refine gk_ret hT rfl rfl (.tmp rfl .nil) (fun w' hk => ?_)
    exact RetM.mkP (ll := fun r : AlD × AlS × Int => alL a n r.1 r.2.1) ((⟨f, fs, T', rs, M, .slice A1 (L ++ [b]).length c1⟩, ⟨S, l.erase b, U, L ++ [b]⟩, 0) : AlD × AlS × Int) ⟨⟨hp.dropL hc1 hbu, hf, hT', hu⟩, hd.symm⟩ rfl hk (fun b hb => (finE_mem h.2 b).1 hb) (show SelAll [tbF2 a (⟨.pointer (some ⟨f, 0, none⟩), .map (some rs), .slice A1 (L ++ [b]).length c1, .int .i64 (n : Int)⟩ : XA) T', packF (frF f fs), mpk rs (Value.int .u32) M, own 0 87 1 (.slice A1 (L ++ [b]).length c1) (IE .u32) (L ++ [b])] _ from sA)
  · have hd : dropA ⟨S, l, U, L⟩ b = (⟨ins b S, l.erase b, U, L⟩, 0) := (if_neg h0).trans ((if_neg h1).trans (if_neg hbu))
    have hg : giveP b S = (ins b S, true) := give_yes fun h2 => h2.elim (by omega) fun h3 => hp.fl b h3 hb
    rw [if_neg hbu]
    (repeat' (first | (refine gG ?_; try intro _) | ((first | refine g_split rfl rfl tE (fun _ => ?_) (fun _ => ?_) | refine gk_cond rfl rfl tE (fun _ => ?_) (fun _ => ?_)) <;> (try first | (exfalso; omega; done) | (rename_i hx; exact absurd rfl hx) | (rename_i hx; cases hx; done)))))
    refine g_mv rfl (mv_call_mod (φ := packF (frF f fs)) (ψ := fun r : FrS × Bool => packF (frF f r.1)) (fun w1 hk => by exact lgive_any f fs S b w1 hf (by omega) (hk.rO (φ := packF (frF f fs)) mE)) rfl rfl rfl rfl rfl (by kernel_rfl) (by intro _; first | ((repeat (first | with_reducible exact Upd.here _ | with_reducible apply Upd.there)); done) | ((repeat (first | exact Upd.here _ | apply Upd.there)); done) | fail) (fun r hr2 => ?_))
    obtain ⟨fs', ok⟩ := r
    obtain ⟨hf', hok⟩ := hr2
    rw [hg] at hf'
    dsimp only at hf' ⊢
    (repeat (refine gG ?_; try intro _))
    refine gk_pack (tbL2 a (⟨.pointer (some ⟨f, 0, none⟩), .map (some rs), v, .int .i64 (n : Int)⟩ : XA) T') [packF (frF f fs'), mpk rs (Value.int .u32) M, own 0 87 1 v (IE .u32) L] sA ?_
    refine gk_ret hT rfl rfl (.tmp rfl .nil) (fun w' hk => ?_)
    exact RetM.mkP (ll := fun r : AlD × AlS × Int => alL a n r.1 r.2.1) ((⟨f, fs', T', rs, M, v⟩, ⟨ins b S, l.erase b, U, L⟩, 0) : AlD × AlS × Int) ⟨⟨hp.dropF hc1, hf', hT', hu⟩, hd.symm⟩ rfl hk (fun b hb => (finE_mem h.2 b).1 hb) (show SelAll [tbF2 a (⟨.pointer (some ⟨f, 0, none⟩), .map (some rs), v, .int .i64 (n : Int)⟩ : XA) T', packF (frF f fs'), mpk rs (Value.int .u32) M, own 0 87 1 v (IE .u32) L] _ from sA)
end Go.Proofs.Ytdkgmgfadpnhbaa.Al
namespace Go.Proofs.Ytdkgmgfadpnhbaa.Al
open Go.RowKit Mem Gx Gm KyU Dd Rf Hp
set_option linter.unusedVariables false
set_option linter.unusedSimpArgs false
set_option maxRecDepth 100000
set_option maxHeartbeats 2000000
theorem insL_snoc : ∀ (L S : List Int) (x : Int), insL (L ++ [x]) S = ins x (insL L S)
  | [], S, x => rfl
  | b :: L, S, x => insL_snoc L (ins b S) x
theorem insL_len : ∀ (L S : List Int), (insL L S).length = S.length + L.length
  | [], S => rfl
  | b :: L, S => by
    show (insL L (ins b S)).length = _
    rw [insL_len L, (ins_perm b S).length_eq, List.length_cons, List.length_cons]
    omega
def commitA (s : AlS) : AlS := ⟨insL s.L s.S, s.l, setP s.l, []⟩
theorem acommit_any (a n : Nat) (D : AlD) (s : AlS) (w : World) (hn : n ≤ 4096) (hI : AlI n D s) (h : Rd1 w (alF a n D s)) :
    Calls Try.prog 56 [.pointer (some ⟨a, 0, none⟩)].toArray w (RetM (alF a n D s) (fun r : AlD => AlI n r (commitA s)) (fun _ => .tuple #[]) (fun r => alF a n r (commitA s)) w) := by
  have hlens := hI.p.len
  have hcm := hI.p.commit
  obtain ⟨f, fs, T1, rs, M, v⟩ := D
  obtain ⟨S, l, U, L⟩ := s
  obtain ⟨hp, hf, hr, hu⟩ := hI
  dsimp only at hp hf hr hu hlens hcm
  have hll := hr.len
  refine g_enter0 T (finE (alF a n ⟨f, fs, T1, rs, M, v⟩ ⟨S, l, U, L⟩) w) [own 0 87 1 v (IE .u32) L, tbF2 a (⟨.pointer (some ⟨f, 0, none⟩), .map (some rs), v, .int .i64 (n : Int)⟩ : XA) T1, packF (frF f fs), mpk rs (Value.int .u32) M] [] Try.func56 rfl Try.ntmps56 rfl ((Kn.startP h (fun b hb => (finE_mem h.2 b).2 hb) (fun _ h => by cases h)).sel sA (List.Subset.refl _)) ?_
  refine gk_freeze _ (by intro _; first | ((repeat (first | with_reducible exact Upd.here _ | with_reducible apply Upd.there)); done) | ((repeat (first | exact Upd.here _ | apply Upd.there)); done) | fail) (fun A c hA hA1 hA2 hA3 => ?_); subst hA
  refine gk_share (φ := sl A 1 (IE .u32) L) (by repeat (first | with_reducible exact Sel.here | with_reducible apply Sel.there)) ?_
  rw [show tbF2 a (⟨.pointer (some ⟨f, 0, none⟩), .map (some rs), .slice A L.length c, .int .i64 (n : Int)⟩ : XA) T1 = packF [blk a [.pointer (some ⟨f, 0, none⟩), .map T1.r, .int .i64 T1.sum, .map (some rs), .slice A L.length c, .int .i64 (n : Int)] 191, moF T1.r T1.M] from rfl]
  refine gk_unpack (l := [blk a [.pointer (some ⟨f, 0, none⟩), .map T1.r, .int .i64 T1.sum, .map (some rs), .slice A L.length c, .int .i64 (n : Int)] 191, moF T1.r T1.M]) (by repeat (first | with_reducible exact Sel.here | with_reducible apply Sel.there)) ?_
  (repeat (refine gG ?_; try intro _))
  refine gk_loop_sel (fun (q : Nat × FrS) => match q with | (i, fs') => (i ≤ L.length ∧ FrOk fs' (insL (L.take i) S))) (fun (q : Nat × FrS) => match q with | (i, fs') => [(0, .pointer (some ⟨a, 0, none⟩)), (9, .slice A L.length c), (10, .int .i64 (L.length : Int)), (11, .int .i64 (i : Int))]) (fun (q : Nat × FrS) => match q with | (i, fs') => [blk a [.pointer (some ⟨f, 0, none⟩), .map T1.r, .int .i64 T1.sum, .map (some rs), .slice A L.length c, .int .i64 (n : Int)] 191, moF T1.r T1.M, packF (frF f fs'), mpk rs (Value.int .u32) M]) (fun (q : Nat × FrS) => match q with | (i, fs') => [sl A 1 (IE .u32) L]) (fun (q : Nat × FrS) => match q with | (i, fs') => L.length - i) (0, fs) rfl ⟨Nat.zero_le _, hf⟩ (by repeat (first | exact trivial | refine ⟨rfl, ?_⟩)) sA sS ?_
  rintro ⟨i, fs'⟩ hI
  replace hI : (i ≤ L.length ∧ FrOk fs' (insL (L.take i) S)) := hI
  change GK _ _ [(0, .pointer (some ⟨a, 0, none⟩)), (9, .slice A L.length c), (10, .int .i64 (L.length : Int)), (11, .int .i64 (i : Int))] [blk a [.pointer (some ⟨f, 0, none⟩), .map T1.r, .int .i64 T1.sum, .map (some rs), .slice A L.length c, .int .i64 (n : Int)] 191, moF T1.r T1.M, packF (frF f fs'), mpk rs (Value.int .u32) M] [sl A 1 (IE .u32) L]
  obtain ⟨hi, hf'⟩ := hI
  by_cases hlt : i < L.length
  · obtain ⟨x, hx⟩ : ∃ b, L[i]? = some b := ⟨L[i], List.getElem?_eq_getElem hlt⟩
    have htk := takeAt hx
    have hxL := List.mem_of_getElem? hx
    have hxp := hp.pos (b := x) (.inr (.inr hxL))
    have hxS : x ∉ insL (L.take i) S := fun h2 => by
      obtain ⟨_, h3⟩ := insL_spec (L := L.take i) hp.sorted (hp.nd.sublist (List.take_sublist i L)) fun b hb h4 => hp.fL b h4 (List.mem_of_mem_take hb)
      rcases (h3 x).1 h2 with h4 | h4
      · exact hp.fL x h4 hxL
      · have h5 := hp.nd
        have e : L = L.take i ++ x :: L.drop (i + 1) := by
          rw [← (List.getElem?_eq_some_iff.1 hx).2, ← List.drop_eq_getElem_cons hlt, List.take_append_drop]
        rw [e, List.nodup_append] at h5
        exact h5.2.2 x h4 x (.head _) rfl
    have hil : (insL (L.take i) S).length < 10000 := by rw [insL_len, List.length_take]; omega
    have hg : giveP x (insL (L.take i) S) = (ins x (insL (L.take i) S), true) := give_yes fun h2 => h2.elim (by omega) hxS
    have hsn := insL_snoc (L.take i) S x
    rw [← htk] at hsn
    refine gk_elem (enc := IE .u32) (L := L) i mE hlt (by decide) (fun g o y eA hy => ?_)
    subst eA
    obtain rfl : x = y := by rw [hx] at hy; exact Option.some.inj hy
    (repeat' (first | (refine gG ?_; try intro _) | ((first | refine g_split rfl rfl tE (fun _ => ?_) (fun _ => ?_) | refine gk_cond rfl rfl tE (fun _ => ?_) (fun _ => ?_)) <;> (try first | (exfalso; omega; done) | (rename_i hx; exact absurd rfl hx) | (rename_i hx; cases hx; done)))))
    refine g_mv rfl (mv_call_mod (φ := packF (frF f fs')) (ψ := fun r : FrS × Bool => packF (frF f r.1)) (fun w1 hk => by exact lgive_any f fs' (insL (L.take i) S) x w1 hf' hil (hk.rO (φ := packF (frF f fs')) mE)) rfl rfl rfl rfl rfl (by kernel_rfl) (by intro _; first | ((repeat (first | with_reducible exact Upd.here _ | with_reducible apply Upd.there)); done) | ((repeat (first | exact Upd.here _ | apply Upd.there)); done) | fail) (fun r hr2 => ?_))
    obtain ⟨fs2, ok⟩ := r
    obtain ⟨hf2, hok⟩ := hr2
    rw [hg] at hf2
    dsimp only at hf2 ⊢
    (repeat (refine gG ?_; try intro _))
    refine gk_say 11 (.int .i64 ((i + 1 : Nat) : Int)) rfl (by first | (congr 1; done) | (congr 1; omega)) ?_
    have hI2 : i + 1 ≤ L.length ∧ FrOk fs2 (insL (L.take (i + 1)) S) := ⟨hlt, by rw [hsn]; exact hf2⟩
    refine gk_again_sel rfl (i + 1, fs2) hI2 (by dsimp only; omega) (by repeat (first | exact trivial | refine ⟨rfl, ?_⟩)) sA sS
  · rw [List.take_of_length_le (by omega)] at hf'
    (repeat' (first | (refine gG ?_; try intro _) | ((first | refine g_split rfl rfl tE (fun _ => ?_) (fun _ => ?_) | refine gk_cond rfl rfl tE (fun _ => ?_) (fun _ => ?_)) <;> (try first | (exfalso; omega; done) | (rename_i hx; exact absurd rfl hx) | (rename_i hx; cases hx; done)))))
    refine g_mv rfl (mv_clearG rfl rfl rfl rfl rfl Try.underlying81 (by first | ((repeat (first | with_reducible exact Upd.here _ | with_reducible apply Upd.there)); done) | ((repeat (first | exact Upd.here _ | apply Upd.there)); done) | fail) ?_)
    (repeat (refine gG ?_; try intro _))
    refine g_pack (tbL2 a (⟨.pointer (some ⟨f, 0, none⟩), .map (some rs), .slice none 0 0, .int .i64 (n : Int)⟩ : XA) T1) [packF (frF f fs'), mpk rs (Value.int .u32) []] sA ?_
    refine g_mv rfl ?_; refine mv_call_rt (fun w hk => all2_any a (⟨.pointer (some ⟨f, 0, none⟩), .map (some rs), .slice none 0 0, .int .i64 (n : Int)⟩ : XA) T1 l w hr (hk.rO (φ := tbF2 a (⟨.pointer (some ⟨f, 0, none⟩), .map (some rs), .slice none 0 0, .int .i64 (n : Int)⟩ : XA) T1) mE)) rfl rfl rfl rfl rfl (by kernel_rfl) (fun _ => rfl) (fun v1 _ => ?_)
    refine g_freeze _ (by intro _; first | ((repeat (first | with_reducible exact Upd.here _ | with_reducible apply Upd.there)); done) | ((repeat (first | exact Upd.here _ | apply Upd.there)); done) | fail) (fun A1 c1 hA1 hA11 hA12 hA13 => ?_); subst hA1
    refine g_share (φ := sl A1 1 (IE .u32) (setP l)) (by repeat (first | with_reducible exact Sel.here | with_reducible apply Sel.there)) ?_
    rw [show packF (tbL2 a (⟨.pointer (some ⟨f, 0, none⟩), .map (some rs), .slice none 0 0, .int .i64 (n : Int)⟩ : XA) T1) = packF [blk a [.pointer (some ⟨f, 0, none⟩), .map T1.r, .int .i64 T1.sum, .map (some rs), .slice none 0 0, .int .i64 (n : Int)] 191, moF T1.r T1.M] from rfl]
    refine g_unpack (l := [blk a [.pointer (some ⟨f, 0, none⟩), .map T1.r, .int .i64 T1.sum, .map (some rs), .slice none 0 0, .int .i64 (n : Int)] 191, moF T1.r T1.M]) (by repeat (first | with_reducible exact Sel.here | with_reducible apply Sel.there)) ?_
    (repeat (refine gG ?_; try intro _))
    refine gk_loop_sel (fun (q : Nat × (List (Int × Value))) => match q with | (j, M') => (j ≤ (setP l).length ∧ MapIs M' (uV ((setP l).take j)))) (fun (q : Nat × (List (Int × Value))) => match q with | (j, M') => [(0, .pointer (some ⟨a, 0, none⟩)), (32, .slice A1 (setP l).length c1), (33, .int .i64 ((setP l).length : Int)), (34, .int .i64 (j : Int))]) (fun (q : Nat × (List (Int × Value))) => match q with | (j, M') => [blk a [.pointer (some ⟨f, 0, none⟩), .map T1.r, .int .i64 T1.sum, .map (some rs), .slice none 0 0, .int .i64 (n : Int)] 191, moF T1.r T1.M, packF (frF f fs'), mpk rs (Value.int .u32) M']) (fun (q : Nat × (List (Int × Value))) => match q with | (j, M') => [sl A1 1 (IE .u32) (setP l)]) (fun (q : Nat × (List (Int × Value))) => match q with | (j, M') => (setP l).length - j) (0, []) rfl ⟨Nat.zero_le _, MapIs.nil.congr fun k => by simp [uV]⟩ (by repeat (first | exact trivial | refine ⟨rfl, ?_⟩)) sA sS ?_
    rintro ⟨j, M'⟩ hI
    replace hI : (j ≤ (setP l).length ∧ MapIs M' (uV ((setP l).take j))) := hI
    change GK _ _ [(0, .pointer (some ⟨a, 0, none⟩)), (32, .slice A1 (setP l).length c1), (33, .int .i64 ((setP l).length : Int)), (34, .int .i64 (j : Int))] [blk a [.pointer (some ⟨f, 0, none⟩), .map T1.r, .int .i64 T1.sum, .map (some rs), .slice none 0 0, .int .i64 (n : Int)] 191, moF T1.r T1.M, packF (frF f fs'), mpk rs (Value.int .u32) M'] [sl A1 1 (IE .u32) (setP l)]
    obtain ⟨hj, hu'⟩ := hI
    by_cases hlt2 : j < (setP l).length
    · obtain ⟨x, hx⟩ : ∃ b, (setP l)[j]? = some b := ⟨(setP l)[j], List.getElem?_eq_getElem hlt2⟩
      have htk := takeAt hx
      refine gk_elem (enc := IE .u32) (L := setP l) j mE hlt2 (by decide) (fun g o y eA hy => ?_)
      subst eA
      obtain rfl : x = y := by rw [hx] at hy; exact Option.some.inj hy
      have hI2 : j + 1 ≤ (setP l).length ∧ MapIs (msG x (.int .i64 1) M') (uV ((setP l).take (j + 1))) := ⟨hlt2, hu'.set fun k => by
        unfold uV
        rw [htk]
        by_cases e : k = x
        · subst e; simp
        · rw [if_neg e]
          simp [e]⟩
      (repeat' (first | (refine gG ?_; try intro _) | ((first | refine g_split rfl rfl tE (fun _ => ?_) (fun _ => ?_) | refine gk_cond rfl rfl tE (fun _ => ?_) (fun _ => ?_)) <;> (try first | (exfalso; omega; done) | (rename_i hx; exact absurd rfl hx) | (rename_i hx; cases hx; done)))))
      refine g_mv rfl (mv_mapUpdateG rfl x rfl rfl rfl rfl rfl Try.underlying81 kok_u (by first | ((repeat (first | with_reducible exact Upd.here _ | with_reducible apply Upd.there)); done) | ((repeat (first | exact Upd.here _ | apply Upd.there)); done) | fail) ?_)
      (repeat (refine gG ?_; try intro _))
      refine gk_say 34 (.int .i64 ((j + 1 : Nat) : Int)) rfl (by first | (congr 1; done) | (congr 1; omega)) ?_
      refine gk_again_sel rfl (j + 1, msG x (.int .i64 1) M') hI2 (by dsimp only; omega) (by repeat (first | exact trivial | refine ⟨rfl, ?_⟩)) sA sS
    · rw [List.take_of_length_le (by omega)] at hu'
      (repeat' (first | (refine gG ?_; try intro _) | ((first | refine g_split rfl rfl tE (fun _ => ?_) (fun _ => ?_) | refine gk_cond rfl rfl tE (fun _ => ?_) (fun _ => ?_)) <;> (try first | (exfalso; omega; done) | (rename_i hx; exact absurd rfl hx) | (rename_i hx; cases hx; done)))))
      refine gk_own 0 87 1 (IE .u32) ?_
      refine gk_pack (tbL2 a (⟨.pointer (some ⟨f, 0, none⟩), .map (some rs), .slice none 0 0, .int .i64 (n : Int)⟩ : XA) T1) [packF (frF f fs'), mpk rs (Value.int .u32) M', own 0 87 1 (.slice none 0 0) (IE .u32) []] sA ?_
      refine gk_fin hT rfl rfl .nil (fun w' hk => ?_)
      exact RetM.mkP (ll := fun r : AlD => alL a n r (commitA ⟨S, l, U, L⟩)) ((⟨f, fs', T1, rs, M', .slice none 0 0⟩ : AlD)) ⟨hcm, hf', hr, hu'⟩ rfl hk (fun b hb => (finE_mem h.2 b).1 hb) (show SelAll [tbF2 a (⟨.pointer (some ⟨f, 0, none⟩), .map (some rs), .slice none 0 0, .int .i64 (n : Int)⟩ : XA) T1, packF (frF f fs'), mpk rs (Value.int .u32) M', own 0 87 1 (.slice none 0 0) (IE .u32) []] _ from sA)
theorem asound_any (a n : Nat) (D : AlD) (s : AlS) (w : World) (hn : n ≤ 4096) (hI : AlI n D s) (h : Rd1 w (alF a n D s)) :
    Calls Try.prog 60 [.pointer (some ⟨a, 0, none⟩)].toArray w fun e w' => e = .returned (.bool true) ∧ Below w.heap.size w w' := by
  have hlens := hI.p.len
  obtain ⟨f, fs, T1, rs, M, v⟩ := D
  obtain ⟨S, l, U, L⟩ := s
  obtain ⟨hp, hf, hr, hu⟩ := hI
  dsimp only at hp hf hr hu hlens
  have hll := hr.len
  have hfl := hf.l.length_eq
  have hnil : fs.mo = none → fs.K = [] := fun e => by
    have h1 := hf.nil e
    have h2 := hf.k.length_eq
    rw [h1] at h2
    exact List.length_eq_zero_iff.1 h2
  have hrd := rda h
  obtain ⟨A, c, hv, _⟩ := own_rdv hrd.o
  replace hv : v = .slice A L.length c := hv
  subst hv
  have hsl : Rd1 w (sl A 1 (IE .u32) L) := SoU.rd_own hrd.o
  have hhas : ∀ b, b ∉ S → ∀ w, Rd1 w (packF (frF f fs)) → Calls Try.prog 110 [.pointer (some ⟨f, 0, none⟩), .int .u32 b].toArray w fun e w' => e = .returned (.bool false) ∧ Below w.heap.size w w' := fun b hb w h2 => by
    have h3 := lhas_any f fs b w h2 hnil
    rwa [tB_false fun h4 => hb (hf.k.mem_iff.1 h4)] at h3
  refine g_enter0 T [] [] [blk a [.pointer (some ⟨f, 0, none⟩), .map T1.r, .int .i64 T1.sum, .map (some rs), .slice A L.length c, .int .i64 (n : Int)] 191, tbF2 a (⟨.pointer (some ⟨f, 0, none⟩), .map (some rs), .slice A L.length c, .int .i64 (n : Int)⟩ : XA) T1, packF (frF f fs), mpk rs (Value.int .u32) M, sl A 1 (IE .u32) L] Try.func60 rfl Try.ntmps60 rfl (Rds.cons hrd.b (.cons hrd.t (.cons hrd.f (.cons hrd.m (.cons hsl .nil))))).kn ?_
  refine gk_rowR (g := a) mE ?_
  (repeat (refine gG ?_; try intro _))
  refine gk_any [0, 1, 2, 3, 4, 5] (Cut _ (fun _ : Unit => [(0, .pointer (some ⟨a, 0, none⟩)), (27, .bool false)]) (fun _ => []) (fun _ => [row a 0 [.pointer (some ⟨f, 0, none⟩), .map T1.r, .int .i64 T1.sum, .map (some rs), .slice A L.length c, .int .i64 (n : Int)], tbF2 a (⟨.pointer (some ⟨f, 0, none⟩), .map (some rs), .slice A L.length c, .int .i64 (n : Int)⟩ : XA) T1, packF (frF f fs), mpk rs (Value.int .u32) M, sl A 1 (IE .u32) L])) rfl rfl (by kernel_rfl) ?_ (cut_k fun _ => ?_)
  · skip
    refine gb_take 0 rfl (by decide +kernel) rfl rfl (ys_ev (nw := true) hT rfl sI) sF ?_
    refine gb_take 1 rfl (by decide +kernel) rfl rfl (ys_ev (nw := true) hT rfl sI) sF ?_
    refine gb_take 2 rfl (by decide +kernel) rfl rfl (ys_ev (nw := true) hT rfl sI) sF ?_
    refine gb_take 3 rfl (by decide +kernel) rfl rfl (by first | exact ys_blk hT rfl rfl mE rfl rfl | exact ys_row hT rfl rfl mE rfl rfl | exact ys_row0 hT rfl rfl mE rfl rfl) sF ?_
    refine gb_take 5 rfl (by decide +kernel) rfl rfl (ys_ev (nw := true) hT rfl sI) sF ?_
    refine gb_take 6 rfl (by decide +kernel) rfl rfl (ys_ev (nw := true) hT rfl sI) sF ?_
    refine gb_take 7 rfl (by decide +kernel) rfl rfl (ys_ev (nw := true) hT rfl sI) sF ?_
    refine gb_take 10 rfl (by decide +kernel) rfl rfl (ys_ev (nw := true) hT rfl sI) sF ?_
    refine gb_take 11 rfl (by decide +kernel) rfl rfl (ys_ev (nw := true) hT rfl sI) sF ?_
    refine gb_take 12 rfl (by decide +kernel) rfl rfl (ys_ev (nw := true) hT rfl sI) sF ?_
    refine gb_take 13 rfl (by decide +kernel) rfl rfl (by first | exact ys_blk hT rfl rfl mE rfl rfl | exact ys_row hT rfl rfl mE rfl rfl | exact ys_row0 hT rfl rfl mE rfl rfl) sF ?_
    refine gb_take 14 rfl (by decide +kernel) rfl rfl (ys_ev (nw := true) hT rfl sI) sF ?_
    refine gb_take 16 rfl (by decide +kernel) rfl rfl (ys_ev (nw := true) hT rfl sI) sF ?_
    refine gb_take 17 rfl (by decide +kernel) rfl rfl (ys_ev (nw := true) hT rfl sI) sF ?_
    refine gb_take 18 rfl (by decide +kernel) rfl rfl (ys_ev (nw := true) hT rfl sI) sF ?_
    refine gb_take 19 rfl (by decide +kernel) rfl rfl (by first | exact ys_blk hT rfl rfl mE rfl rfl | exact ys_row hT rfl rfl mE rfl rfl | exact ys_row0 hT rfl rfl mE rfl rfl) sF ?_
    refine gb_only 4 (by decide +kernel) rfl rfl ?_
    refine mv_call_bel (fun w hk => llen_any f fs w (hk.rR (φ := packF (frF f fs)) mE) (by omega)) rfl rfl rfl rfl rfl (by kernel_rfl) ?_
    refine ⟨sF, ?_⟩
    refine gb_only 8 (by decide +kernel) rfl rfl ?_
    refine mv_call_bel (fun w hk => len2_any a (⟨.pointer (some ⟨f, 0, none⟩), .map (some rs), .slice A L.length c, .int .i64 (n : Int)⟩ : XA) T1 l w hr (hk.rR (φ := tbF2 a (⟨.pointer (some ⟨f, 0, none⟩), .map (some rs), .slice A L.length c, .int .i64 (n : Int)⟩ : XA) T1) mE)) rfl rfl rfl rfl rfl (by kernel_rfl) ?_
    refine ⟨sF, ?_⟩
    refine gb_take 9 rfl (by decide +kernel) rfl rfl (ys_ev (nw := true) hT rfl sI) sF ?_
    refine gb_take 15 rfl (by decide +kernel) rfl rfl (ys_ev (nw := true) hT rfl sI) sF ?_
    refine gb_take 20 rfl (by decide +kernel) rfl rfl (ys_ev (nw := true) hT rfl sI) sF ?_
    try (refine gb_say 27 (.bool false) rfl (congrArg Value.bool (tB_false (by omega))) ?_)
    refine gb_nil (by decide +kernel) ?_
    exact ⟨(), (by repeat (first | exact trivial | refine ⟨rfl, ?_⟩)), sA, sS⟩
  (repeat (refine gG ?_; try intro _))
  refine gk_loop_sel (fun (q : Nat × Unit) => match q with | (i, z) => (i ≤ L.length)) (fun (q : Nat × Unit) => match q with | (i, z) => [(0, .pointer (some ⟨a, 0, none⟩)), (31, .slice A L.length c), (32, .int .i64 (L.length : Int)), (33, .int .i64 (i : Int))]) (fun (q : Nat × Unit) => match q with | (i, z) => []) (fun (q : Nat × Unit) => match q with | (i, z) => [row a 0 [.pointer (some ⟨f, 0, none⟩), .map T1.r, .int .i64 T1.sum, .map (some rs), .slice A L.length c, .int .i64 (n : Int)], tbF2 a (⟨.pointer (some ⟨f, 0, none⟩), .map (some rs), .slice A L.length c, .int .i64 (n : Int)⟩ : XA) T1, packF (frF f fs), mpk rs (Value.int .u32) M, sl A 1 (IE .u32) L]) (fun (q : Nat × Unit) => match q with | (i, z) => L.length - i) (0, ()) rfl (Nat.zero_le _) (by repeat (first | exact trivial | refine ⟨rfl, ?_⟩)) sA sS ?_
  rintro ⟨i, z⟩ hI
  replace hI : (i ≤ L.length) := hI
  change GK _ _ [(0, .pointer (some ⟨a, 0, none⟩)), (31, .slice A L.length c), (32, .int .i64 (L.length : Int)), (33, .int .i64 (i : Int))] [] [row a 0 [.pointer (some ⟨f, 0, none⟩), .map T1.r, .int .i64 T1.sum, .map (some rs), .slice A L.length c, .int .i64 (n : Int)], tbF2 a (⟨.pointer (some ⟨f, 0, none⟩), .map (some rs), .slice A L.length c, .int .i64 (n : Int)⟩ : XA) T1, packF (frF f fs), mpk rs (Value.int .u32) M, sl A 1 (IE .u32) L]
  by_cases hlt : i < L.length
  · obtain ⟨x, hx⟩ : ∃ b, L[i]? = some b := ⟨L[i], List.getElem?_eq_getElem hlt⟩
    have hxL := List.mem_of_getElem? hx
    have hc0 : l.count x = 0 := List.count_eq_zero.2 fun h2 => hp.lL x h2 hxL
    refine gk_elem (enc := IE .u32) (L := L) i mE hlt (by decide) (fun g o y eA hy => ?_)
    refine gk_lessR (φ := sl A 1 (IE .u32) L) (ψ := sl A 1 (IE .u32) L) mE (fun w h => h) (fun b h => h) ?_
    obtain rfl : x = y := by rw [hx] at hy; exact Option.some.inj hy
    subst eA
    (repeat' (first | (refine gG ?_; try intro _) | (refine g_mv rfl ?_; first | refine mv_call_bel (fun w hk => hhas x (fun h2 => hp.fL x h2 hxL) w (hk.rR (φ := packF (frF f fs)) mE)) rfl rfl rfl rfl rfl (by kernel_rfl) ?_ | refine mv_call_bel (fun w hk => count2_any a (⟨.pointer (some ⟨f, 0, none⟩), .map (some rs), .slice (some ⟨g, o, none⟩) L.length c, .int .i64 (n : Int)⟩ : XA) T1 l x w hr (hk.rR (φ := tbF2 a (⟨.pointer (some ⟨f, 0, none⟩), .map (some rs), .slice (some ⟨g, o, none⟩) L.length c, .int .i64 (n : Int)⟩ : XA) T1) mE)) rfl rfl rfl rfl rfl (by kernel_rfl) ?_) | ((first | refine g_split rfl rfl tE (fun _ => ?_) (fun _ => ?_) | refine gk_cond rfl rfl tE (fun _ => ?_) (fun _ => ?_)) <;> (try first | (exfalso; omega; done) | (rename_i hx; exact absurd rfl hx) | (rename_i hx; cases hx; done)))))
    refine g_yd rfl rfl ((ys_lookupG (S := [mpk rs (Value.int .u32) M]) x rfl rfl rfl rfl Try.underlying81 kok_u zero_I (.head _)).ydS sF) ?_
    refine g_say 57 (.int .i64 1) rfl ((lk_u hu x).trans (by rw [if_pos (hp.sub x hxL)])) ?_
    (repeat' (first | (refine gG ?_; try intro _) | ((first | refine g_split rfl rfl tE (fun _ => ?_) (fun _ => ?_) | refine gk_cond rfl rfl tE (fun _ => ?_) (fun _ => ?_)) <;> (try first | (exfalso; omega; done) | (rename_i hx; exact absurd rfl hx) | (rename_i hx; cases hx; done)))))
    refine gk_say 33 (.int .i64 ((i + 1 : Nat) : Int)) rfl (by first | (congr 1; done) | (congr 1; omega)) ?_
    refine gk_again_sel rfl (i + 1, ()) (by omega) (by dsimp only; omega) (by repeat (first | exact trivial | refine ⟨rfl, ?_⟩)) sA sS
  · (repeat' (first | (refine gG ?_; try intro _) | ((first | refine g_split rfl rfl tE (fun _ => ?_) (fun _ => ?_) | refine gk_cond rfl rfl tE (fun _ => ?_) (fun _ => ?_)) <;> (try first | (exfalso; omega; done) | (rename_i hx; exact absurd rfl hx) | (rename_i hx; cases hx; done)))))
    refine g_mv rfl ?_; refine mv_call_rt (fun w hk => all2_any a (⟨.pointer (some ⟨f, 0, none⟩), .map (some rs), .slice A L.length c, .int .i64 (n : Int)⟩ : XA) T1 l w hr (hk.rR (φ := tbF2 a (⟨.pointer (some ⟨f, 0, none⟩), .map (some rs), .slice A L.length c, .int .i64 (n : Int)⟩ : XA) T1) mE)) rfl rfl rfl rfl rfl (by kernel_rfl) (fun _ => rfl) (fun v1 _ => ?_)
    refine g_freeze _ (by intro _; first | ((repeat (first | with_reducible exact Upd.here _ | with_reducible apply Upd.there)); done) | ((repeat (first | exact Upd.here _ | apply Upd.there)); done) | fail) (fun A1 c1 hA1 hA11 hA12 hA13 => ?_); subst hA1
    (repeat (refine gG ?_; try intro _))
    refine gk_share (φ := sl A1 1 (IE .u32) (setP l)) (by repeat (first | with_reducible exact Sel.here | with_reducible apply Sel.there)) ?_
    refine gk_loop_sel (fun (q : Nat × Unit) => match q with | (j, z) => (j ≤ (setP l).length)) (fun (q : Nat × Unit) => match q with | (j, z) => [(0, .pointer (some ⟨a, 0, none⟩)), (64, .slice A1 (setP l).length c1), (65, .int .i64 ((setP l).length : Int)), (66, .int .i64 (j : Int))]) (fun (q : Nat × Unit) => match q with | (j, z) => []) (fun (q : Nat × Unit) => match q with | (j, z) => [row a 0 [.pointer (some ⟨f, 0, none⟩), .map T1.r, .int .i64 T1.sum, .map (some rs), .slice A L.length c, .int .i64 (n : Int)], packF (frF f fs), sl A1 1 (IE .u32) (setP l)]) (fun (q : Nat × Unit) => match q with | (j, z) => (setP l).length - j) (0, ()) rfl (Nat.zero_le _) (by repeat (first | exact trivial | refine ⟨rfl, ?_⟩)) sA sS ?_
    rintro ⟨j, z⟩ hI
    replace hI : (j ≤ (setP l).length) := hI
    change GK _ _ [(0, .pointer (some ⟨a, 0, none⟩)), (64, .slice A1 (setP l).length c1), (65, .int .i64 ((setP l).length : Int)), (66, .int .i64 (j : Int))] [] [row a 0 [.pointer (some ⟨f, 0, none⟩), .map T1.r, .int .i64 T1.sum, .map (some rs), .slice A L.length c, .int .i64 (n : Int)], packF (frF f fs), sl A1 1 (IE .u32) (setP l)]
    by_cases hlt2 : j < (setP l).length
    · obtain ⟨x, hx⟩ : ∃ b, (setP l)[j]? = some b := ⟨(setP l)[j], List.getElem?_eq_getElem hlt2⟩
      have hxl := mem_setP.1 (List.mem_of_getElem? hx)
      refine gk_elem (enc := IE .u32) (L := setP l) j mE hlt2 (by decide) (fun g o y eA hy => ?_)
      subst eA
      obtain rfl : x = y := by rw [hx] at hy; exact Option.some.inj hy
      (repeat' (first | (refine gG ?_; try intro _) | (refine g_mv rfl ?_; first | refine mv_call_bel (fun w hk => hhas x (fun h2 => hp.fl x h2 hxl) w (hk.rR (φ := packF (frF f fs)) mE)) rfl rfl rfl rfl rfl (by kernel_rfl) ?_) | ((first | refine g_split rfl rfl tE (fun _ => ?_) (fun _ => ?_) | refine gk_cond rfl rfl tE (fun _ => ?_) (fun _ => ?_)) <;> (try first | (exfalso; omega; done) | (rename_i hx; exact absurd rfl hx) | (rename_i hx; cases hx; done)))))
      refine gk_say 66 (.int .i64 ((j + 1 : Nat) : Int)) rfl (by first | (congr 1; done) | (congr 1; omega)) ?_
      refine gk_again_sel rfl (j + 1, ()) (by omega) (by dsimp only; omega) (by repeat (first | exact trivial | refine ⟨rfl, ?_⟩)) sA sS
    · (repeat' (first | (refine gG ?_; try intro _) | ((first | refine g_split rfl rfl tE (fun _ => ?_) (fun _ => ?_) | refine gk_cond rfl rfl tE (fun _ => ?_) (fun _ => ?_)) <;> (try first | (exfalso; omega; done) | (rename_i hx; exact absurd rfl hx) | (rename_i hx; cases hx; done)))))
      refine gk_ret hT rfl rfl (.tmp rfl .nil) (fun w' hk => ?_)
      exact ⟨rfl, hk.toBelow⟩
end Go.Proofs.Ytdkgmgfadpnhbaa.Al

