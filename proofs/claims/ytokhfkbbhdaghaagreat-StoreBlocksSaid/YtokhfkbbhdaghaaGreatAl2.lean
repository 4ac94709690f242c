/- refs.Table within an Alloc. -/
import Derived.Test.YtokhfkbbhdaghaaGreatRf2
namespace Go.Proofs.YtokhfkbbhdaghaaGreat.Al
open Go.RowKit Mem Gx KyU Dd Rf
set_option linter.unusedVariables false
set_option linter.unusedSimpArgs false
set_option maxRecDepth 100000
set_option maxHeartbeats 1000000
/-- A table's map, if there is one. -/
def moF : Option Nat → List (Int × Value) → Fact
  | none, M => ⟨fun _ => False, fun _ => M = [], fun _ _ _ h => h⟩
  | some r, M => mpk r (Value.int .u32) M
theorem oneU : ∀ (x : Int) (j : Nat), (IE .u32 x j).oneCell' = true := by intro x j; rfl
theorem elt_U : Elt Tryz.prog 45 22 1 4 := Elt.mk' (z := .int .u32 0) Tryz.underlying45 (by kernel_rfl) rfl (by decide)
theorem takeAt {L : List Int} {i : Nat} {x : Int} (h : L[i]? = some x) : L.take (i + 1) = L.take i ++ [x] := by
  rw [List.take_add_one, h]
  rfl
/-- The other cells of an Alloc: free, sure, late, n. -/
structure XA where
  f : Value
  u : Value
  v : Value
  n : Value
def tbL2 (t : Nat) (X : XA) (T : TabS) : List Fact := [blk t [X.f, .map T.r, .int .i64 T.sum, X.u, X.v, X.n] 80, moF T.r T.M]
abbrev tbF2 (t : Nat) (X : XA) (T : TabS) : Fact := packF (tbL2 t X T)
theorem row_sub {w : World} {g o : Nat} {a : Value} {cs : List Value} (h : (row g o (a :: cs)).p w) : (row g (o + 1) cs).p w := fun i v hv => by
  have := h (i + 1) v hv
  rwa [show o + (i + 1) = o + 1 + i by omega] at this
theorem fin2 (t : Nat) (X : XA) (T : TabS) : ∃ E : List Nat, ∀ b, (tbF2 t X T).S b ↔ b ∈ E := by
  obtain ⟨r, M, s⟩ := T
  cases r with
  | none => exact ⟨[t], fun b => ⟨fun ⟨φ, hφ, hb⟩ => by
      rcases List.mem_cons.1 hφ with rfl | hφ
      · exact List.mem_singleton.2 hb
      · obtain rfl := List.mem_singleton.1 hφ
        exact hb.elim, fun hb => ⟨_, .head _, List.mem_singleton.1 hb⟩⟩⟩
  | some r => exact ⟨[t, r], fun b => ⟨fun ⟨φ, hφ, hb⟩ => by
      rcases List.mem_cons.1 hφ with rfl | hφ
      · have : b = t := hb
        rw [this]; exact .head _
      · obtain rfl := List.mem_singleton.1 hφ
        have : b = r := hb
        rw [this]; exact .tail _ (.head _), fun hb => by
      rcases List.mem_cons.1 hb with rfl | hb
      · exact ⟨_, .head _, rfl⟩
      · obtain rfl := List.mem_singleton.1 hb
        exact ⟨_, .tail _ (.head _), rfl⟩⟩⟩
theorem hold2_any (t : Nat) (X : XA) (T : TabS) (l : List Int) (x : Int) (w : World) (hx : x ≠ 0) (hl9 : l.length < 1000) (hI : RfI T l) (h : Rd1 w (tbF2 t X T)) :
    Calls Tryz.prog 85 [.pointer (some ⟨t, 1, none⟩), .int .u32 x].toArray w (RetM (tbF2 t X T) (fun T' : TabS => RfI T' (l ++ [x])) (fun _ => .int .i64 ((l ++ [x]).count x : Int)) (fun T' => tbF2 t X T') w) := by
  obtain ⟨E, hE⟩ := fin2 t X T
  have hll := hI.len
  have hcn : l.count x ≤ l.length := List.count_le_length
  have hsum := hI.sum
  obtain ⟨r, M, s⟩ := T
  have key : ∀ (r' : Nat) (M0 : List (Int × Value)), MapIs M0 (cntV l) → RfI ⟨some r', msG x (.int .i64 (l.count x + 1 : Int)) M0, s + 1⟩ (l ++ [x]) := fun r' M0 hM => ⟨fun e => (by cases e), by show s + 1 = _; rw [List.length_append]; simp at hsum ⊢; omega, hM.set fun k' => by
    unfold cntV
    rw [cnt_snoc]
    by_cases e : k' = x
    · subst e; rw [if_pos rfl, if_pos rfl, if_neg (by omega)]; push_cast; rfl
    · rw [if_neg e, if_neg e, Nat.add_zero], by rw [List.length_append]; simp; omega⟩
  cases r with
  | none =>
    have hnil := hI.nil rfl
    have hc0 : l.count x = 0 := by rw [hnil]; rfl
    have hs0 : s = 0 := by rw [show s = (l.length : Int) from hsum, hnil]; rfl
    refine g_enter0 T E [blk t [X.f, .map none, .int .i64 s, X.u, X.v, X.n] 80, moF none M] [] Tryz.func85 rfl Tryz.ntmps85 rfl (Kn.startP h (fun b hb => (hE b).1 hb) (fun _ h => by cases h)) ?_
    (repeat' (first | (refine gG ?_; try intro _) | ((first | refine g_split rfl rfl tE (fun _ => ?_) (fun _ => ?_) | refine gk_cond rfl rfl tE (fun _ => ?_) (fun _ => ?_)) <;> (try first | (exfalso; omega; done) | (rename_i hx; exact absurd rfl hx) | (rename_i hx; cases hx; done)))))
    refine g_yd rfl rfl (Ys.yd (ys_map_nil hT rfl rfl rfl Tryz.underlying76)) ?_
    (repeat (refine gG ?_; try intro _))
    refine g_mv rfl (mv_makeMapG rfl (Value.int .u32) rfl (fun r => ?_))
    (repeat (refine gG ?_; try intro _))
    have hI2 := key r [] (by rw [hnil]; exact MapIs.nil.congr fun k => by simp [cntV])
    refine g_yd rfl rfl ((ys_lookupG (S := [mpk r (Value.int .u32) []]) x rfl rfl rfl rfl Tryz.underlying76 kok_u zero_I (.head _)).ydS sF) ?_
    refine g_say 21 (.int .i64 (l.count x : Int)) rfl (by rw [hc0]; rfl) ?_
    (repeat (refine gG ?_; try intro _))
    refine g_mv rfl (mv_mapUpdateG rfl x rfl rfl rfl rfl rfl Tryz.underlying76 kok_u (by first | ((repeat (first | with_reducible exact Upd.here _ | with_reducible apply Upd.there)); done) | ((repeat (first | exact Upd.here _ | apply Upd.there)); done) | fail) ?_)
    (repeat (refine gG ?_; try intro _))
    refine g_yd rfl rfl ((ys_lookupG (S := [mpk r (Value.int .u32) (msG x (.int .i64 (l.count x + 1 : Int)) [])]) x rfl rfl rfl rfl Tryz.underlying76 kok_u zero_I (.head _)).ydS sF) ?_
    refine g_say 35 (.int .i64 ((l ++ [x]).count x : Int)) rfl (hI2.look x) ?_
    (repeat (refine gG ?_; try intro _))
    refine gk_ret hT rfl rfl (.tmp rfl .nil) (fun w' hk => ?_)
    exact RetM.mkP (ll := fun T' => tbL2 t X T') (⟨some r, msG x (.int .i64 (l.count x + 1 : Int)) [], s + 1⟩ : TabS) hI2 rfl hk (fun b hb => (hE b).2 hb) (show SelAll [blk t [X.f, .map (some r), .int .i64 (s + 1), X.u, X.v, X.n] 80, mpk r (Value.int .u32) (msG x (.int .i64 (l.count x + 1 : Int)) [])] _ from sA)
  | some r =>
    have hI2 := key r M hI.map
    refine g_enter0 T E [blk t [X.f, .map (some r), .int .i64 s, X.u, X.v, X.n] 80, mpk r (Value.int .u32) M] [] Tryz.func85 rfl Tryz.ntmps85 rfl (Kn.startP h (fun b hb => (hE b).1 hb) (fun _ h => by cases h)) ?_
    have hsv : s = (l.length : Int) := hsum
    (repeat' (first | (refine gG ?_; try intro _) | ((first | refine g_split rfl rfl tE (fun _ => ?_) (fun _ => ?_) | refine gk_cond rfl rfl tE (fun _ => ?_) (fun _ => ?_)) <;> (try first | (exfalso; omega; done) | (rename_i hx; exact absurd rfl hx) | (rename_i hx; cases hx; done)))))
    refine g_yd rfl rfl (Ys.yd (ys_map_nil hT rfl rfl rfl Tryz.underlying76)) ?_
    (repeat (refine gG ?_; try intro _))
    refine g_yd rfl rfl ((ys_lookupG (S := [mpk r (Value.int .u32) M]) x rfl rfl rfl rfl Tryz.underlying76 kok_u zero_I (.head _)).ydS sF) ?_
    refine g_say 21 (.int .i64 (l.count x : Int)) rfl (hI.look x) ?_
    (repeat (refine gG ?_; try intro _))
    refine g_mv rfl (mv_mapUpdateG rfl x rfl rfl rfl rfl rfl Tryz.underlying76 kok_u (by first | ((repeat (first | with_reducible exact Upd.here _ | with_reducible apply Upd.there)); done) | ((repeat (first | exact Upd.here _ | apply Upd.there)); done) | fail) ?_)
    (repeat (refine gG ?_; try intro _))
    refine g_yd rfl rfl ((ys_lookupG (S := [mpk r (Value.int .u32) (msG x (.int .i64 (l.count x + 1 : Int)) M)]) x rfl rfl rfl rfl Tryz.underlying76 kok_u zero_I (.head _)).ydS sF) ?_
    refine g_say 35 (.int .i64 ((l ++ [x]).count x : Int)) rfl (hI2.look x) ?_
    (repeat (refine gG ?_; try intro _))
    refine gk_ret hT rfl rfl (.tmp rfl .nil) (fun w' hk => ?_)
    exact RetM.mkP (ll := fun T' => tbL2 t X T') (⟨some r, msG x (.int .i64 (l.count x + 1 : Int)) M, s + 1⟩ : TabS) hI2 rfl hk (fun b hb => (hE b).2 hb) (show SelAll [blk t [X.f, .map (some r), .int .i64 (s + 1), X.u, X.v, X.n] 80, mpk r (Value.int .u32) (msG x (.int .i64 (l.count x + 1 : Int)) M)] _ from sA)
theorem hold02_any (t : Nat) (w : World) : Calls Tryz.prog 85 [.pointer (some ⟨t, 1, none⟩), .int .u32 0].toArray w fun e w' => e = .returned (.int .i64 0) ∧ Below w.heap.size w w' := by
  refine g_enter0 T [] [] [] Tryz.func85 rfl Tryz.ntmps85 rfl (Kn.start _) ?_
  (repeat' (first | (refine gG ?_; try intro _) | ((first | refine g_split rfl rfl tE (fun _ => ?_) (fun _ => ?_) | refine gk_cond rfl rfl tE (fun _ => ?_) (fun _ => ?_)) <;> (try first | (exfalso; omega; done) | (rename_i hx; exact absurd rfl hx) | (rename_i hx; cases hx; done)))))
  refine gk_ret hT rfl rfl (.tmp rfl .nil) (fun w' hk => ?_)
  exact ⟨rfl, hk.toBelow⟩
theorem len2_any (t : Nat) (X : XA) (T : TabS) (l : List Int) (w : World) (hI : RfI T l) (h : Rd1 w (tbF2 t X T)) :
    Calls Tryz.prog 144 [.pointer (some ⟨t, 1, none⟩)].toArray w fun e w' => e = .returned (.int .i64 ((setP l).length : Int)) ∧ Below w.heap.size w w' := by
  have hk1 := hI.keys.length_eq
  rw [List.length_map] at hk1
  rw [← hk1]
  obtain ⟨r, M, s⟩ := T
  cases r with
  | none =>
    have hB := Rd1.unpack h (φ := blk t [X.f, .map none, .int .i64 s, X.u, X.v, X.n] 80) (.head _)
    have hM0 : M.length = 0 := by
      have h2 := setP_len l
      rw [hI.nil rfl] at hk1 h2
      simp at h2
      rw [h2] at hk1
      exact hk1
    refine g_enter0 T [] [] [blk t [X.f, .map none, .int .i64 s, X.u, X.v, X.n] 80] Tryz.func144 rfl Tryz.ntmps144 rfl (Rds.cons hB .nil).kn ?_
    refine gk_rowR (g := t) mE ?_
    refine gk_lessR (row t 1 [.map none, .int .i64 s, X.u, X.v, X.n]) (row t 0 [X.f, .map none, .int .i64 s, X.u, X.v, X.n]) mE (fun w h => row_sub h) (fun b h => h) ?_
    (repeat (refine gG ?_; try intro _))
    refine gk_ret hT rfl rfl (.tmp rfl .nil) (fun w' hk => ?_)
    refine ⟨?_, hk.toBelow⟩
    show Ending.returned (.int .i64 0) = .returned (.int .i64 (M.length : Int))
    rw [hM0]
    rfl
  | some r =>
    have hB := Rd1.unpack h (φ := blk t [X.f, .map (some r), .int .i64 s, X.u, X.v, X.n] 80) (.head _)
    have hM := Rd1.unpack h (φ := mpk r (Value.int .u32) M) (.tail _ (.head _))
    refine g_enter0 T [] [] [blk t [X.f, .map (some r), .int .i64 s, X.u, X.v, X.n] 80, mpk r (Value.int .u32) M] Tryz.func144 rfl Tryz.ntmps144 rfl (Rds.cons hB (.cons hM .nil)).kn ?_
    refine gk_rowR (g := t) mE ?_
    refine gk_lessR (row t 1 [.map (some r), .int .i64 s, X.u, X.v, X.n]) (row t 0 [X.f, .map (some r), .int .i64 s, X.u, X.v, X.n]) mE (fun w h => row_sub h) (fun b h => h) ?_
    (repeat (refine gG ?_; try intro _))
    refine g_yd rfl rfl ((ys_map_len (S := [mpk r (Value.int .u32) M]) rfl rfl rfl rfl Tryz.underlying76 (.head _)).ydS sF) ?_
    (repeat (refine gG ?_; try intro _))
    refine gk_ret hT rfl rfl (.tmp rfl .nil) (fun w' hk => ?_)
    exact ⟨rfl, hk.toBelow⟩
end Go.Proofs.YtokhfkbbhdaghaaGreat.Al
