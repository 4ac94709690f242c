/- refs.Table: Count, Hold, Drop, Len, Sum. -/
import Derived.Test.YteajefmnbalofaaKyU
namespace Go.Proofs.Yteajefmnbalofaa.Rf
open Go.RowKit Mem Gx
set_option linter.unusedVariables false
set_option linter.unusedSimpArgs false
set_option maxRecDepth 100000
set_option maxHeartbeats 1000000
theorem kok_u : KOk Try.prog 60 (Value.int .u32) := kok_int Try.underlying60
theorem zero_I : ∀ w, (zeroValue 3).run Try.prog w = .ok (.int .i64 0) w := fun w => rfl
/-- A map's entries. -/
def vals (M : List (Int × Int)) : List (Int × Value) := M.map fun p => (p.1, .int .i64 p.2)
/-- A table: its map (if there is one), its sum. -/
structure TabS where
  r : Option Nat
  M : List (Int × Value)
  sum : Int
def tbL (t : Nat) (T : TabS) : List Fact := match T.r with
  | none => [blk t [.map none, .int .i64 T.sum] 100]
  | some r => [blk t [.map (some r), .int .i64 T.sum] 100, mpk r (Value.int .u32) T.M]
abbrev tbF (t : Nat) (T : TabS) : Fact := packF (tbL t T)
def cntV (l : List Int) (k : Int) : Option Value := if l.count k = 0 then none else some (.int .i64 (l.count k : Int))
/-- The table is of a row. -/
structure RfI (T : TabS) (l : List Int) : Prop where
  nil : T.r = none → l = []
  sum : T.sum = l.length
  map : MapIs T.M (cntV l)
  len : l.length ≤ 1000
theorem RfI.look {T : TabS} {l : List Int} (h : RfI T l) (k : Int) : ((lkG k T.M 0).map (·.2)).getD (.int .i64 0) = .int .i64 (l.count k : Int) := by
  have h1 : mg k T.M = cntV l k := h.map.get k
  unfold mg at h1
  rw [h1]
  unfold cntV
  split
  · rename_i h0; rw [h0]; rfl
  · rfl
theorem RfI.fin (t : Nat) (T : TabS) : ∃ E : List Nat, ∀ b, (tbF t T).S b ↔ b ∈ E := by
  obtain ⟨r, M, s⟩ := T
  cases r with
  | none => exact ⟨[t], fun b => ⟨fun ⟨φ, hφ, hb⟩ => by obtain rfl := List.mem_singleton.1 hφ; exact List.mem_singleton.2 hb, fun hb => ⟨_, .head _, List.mem_singleton.1 hb⟩⟩⟩
  | some r => exact ⟨[t, r], fun b => ⟨fun ⟨φ, hφ, hb⟩ => by
      rcases List.mem_cons.1 hφ with rfl | hφ
      · have : b = t := hb
        rw [this]; exact .head _
      · obtain rfl := List.mem_singleton.1 hφ
        have : b = r := hb
        rw [this]; exact .tail _ (.head _), fun hb => by
      rcases List.mem_cons.1 hb with rfl | hb
      · exact ⟨_, .head _, rfl⟩
      · obtain rfl := List.mem_singleton.1 hb
        exact ⟨_, .tail _ (.head _), rfl⟩⟩⟩
theorem cnt_snoc (l : List Int) (b k : Int) : (l ++ [b]).count k = l.count k + if k = b then 1 else 0 := by
  rw [List.count_append, List.count_singleton]
  by_cases h : k = b
  · subst h; simp
  · rw [if_neg h, if_neg (by simpa using fun e => h e.symm)]
theorem hold_any (t : Nat) (T : TabS) (l : List Int) (x : Int) (w : World) (hx : x ≠ 0) (hl9 : l.length < 1000) (hI : RfI T l) (h : Rd1 w (tbF t T)) :
    Calls Try.prog 48 [.pointer (some ⟨t, 0, none⟩), .int .u32 x].toArray w (RetM (tbF t T) (fun T' : TabS => RfI T' (l ++ [x])) (fun _ => .int .i64 ((l ++ [x]).count x : Int)) (fun T' => tbF t T') w) := by
  obtain ⟨E, hE⟩ := RfI.fin t T
  have hll := hI.len
  have hcn : l.count x ≤ l.length := List.count_le_length
  have hsum := hI.sum
  obtain ⟨r, M, s⟩ := T
  have key : ∀ (r' : Nat) (M0 : List (Int × Value)), MapIs M0 (cntV l) → RfI ⟨some r', msG x (.int .i64 (l.count x + 1 : Int)) M0, s + 1⟩ (l ++ [x]) := fun r' M0 hM => ⟨fun e => (by cases e), by show s + 1 = _; rw [List.length_append]; simp at hsum ⊢; omega, hM.set fun k' => by
    unfold cntV
    rw [cnt_snoc]
    by_cases e : k' = x
    · subst e; rw [if_pos rfl, if_pos rfl, if_neg (by omega)]; push_cast; rfl
    · rw [if_neg e, if_neg e, Nat.add_zero], by rw [List.length_append]; simp; omega⟩
  cases r with
  | none =>
    have hnil := hI.nil rfl
    have hc0 : l.count x = 0 := by rw [hnil]; rfl
    have hs0 : s = 0 := by rw [show s = (l.length : Int) from hsum, hnil]; rfl
    refine g_enter0 T E [blk t [.map none, .int .i64 s] 100] [] Try.func48 rfl Try.ntmps48 rfl (Kn.startP h (fun b hb => (hE b).1 hb) (fun _ h => by cases h)) ?_
    (repeat' (first | (refine gG ?_; try intro _) | ((first | refine g_split rfl rfl tE (fun _ => ?_) (fun _ => ?_) | refine gk_cond rfl rfl tE (fun _ => ?_) (fun _ => ?_)) <;> (try first | (exfalso; omega; done) | (rename_i hx; exact absurd rfl hx) | (rename_i hx; cases hx; done)))))
    refine g_yd rfl rfl (Ys.yd (ys_map_nil hT rfl rfl rfl Try.underlying98)) ?_
    (repeat (refine gG ?_; try intro _))
    refine g_mv rfl (mv_makeMapG rfl (Value.int .u32) rfl (fun r => ?_))
    (repeat (refine gG ?_; try intro _))
    have hI2 := key r [] (by rw [hnil]; exact MapIs.nil.congr fun k => by simp [cntV])
    refine g_yd rfl rfl ((ys_lookupG (S := [mpk r (Value.int .u32) []]) x rfl rfl rfl rfl Try.underlying98 kok_u zero_I (.head _)).ydS sF) ?_
    refine g_say 21 (.int .i64 (l.count x : Int)) rfl (by rw [hc0]; rfl) ?_
    (repeat (refine gG ?_; try intro _))
    refine g_mv rfl (mv_mapUpdateG rfl x rfl rfl rfl rfl rfl Try.underlying98 kok_u (by first | ((repeat (first | with_reducible exact Upd.here _ | with_reducible apply Upd.there)); done) | ((repeat (first | exact Upd.here _ | apply Upd.there)); done) | fail) ?_)
    (repeat (refine gG ?_; try intro _))
    refine g_yd rfl rfl ((ys_lookupG (S := [mpk r (Value.int .u32) (msG x (.int .i64 (l.count x + 1 : Int)) [])]) x rfl rfl rfl rfl Try.underlying98 kok_u zero_I (.head _)).ydS sF) ?_
    refine g_say 35 (.int .i64 ((l ++ [x]).count x : Int)) rfl (hI2.look x) ?_
    (repeat (refine gG ?_; try intro _))
    refine gk_ret hT rfl rfl (.tmp rfl .nil) (fun w' hk => ?_)
    exact RetM.mkP (ll := fun T' => tbL t T') (⟨some r, msG x (.int .i64 (l.count x + 1 : Int)) [], s + 1⟩ : TabS) hI2 rfl hk (fun b hb => (hE b).2 hb) (show SelAll [blk t [.map (some r), .int .i64 (s + 1)] 100, mpk r (Value.int .u32) (msG x (.int .i64 (l.count x + 1 : Int)) [])] _ from sA)
  | some r =>
    have hI2 := key r M hI.map
    refine g_enter0 T E [blk t [.map (some r), .int .i64 s] 100, mpk r (Value.int .u32) M] [] Try.func48 rfl Try.ntmps48 rfl (Kn.startP h (fun b hb => (hE b).1 hb) (fun _ h => by cases h)) ?_
    have hsv : s = (l.length : Int) := hsum
    (repeat' (first | (refine gG ?_; try intro _) | ((first | refine g_split rfl rfl tE (fun _ => ?_) (fun _ => ?_) | refine gk_cond rfl rfl tE (fun _ => ?_) (fun _ => ?_)) <;> (try first | (exfalso; omega; done) | (rename_i hx; exact absurd rfl hx) | (rename_i hx; cases hx; done)))))
    refine g_yd rfl rfl (Ys.yd (ys_map_nil hT rfl rfl rfl Try.underlying98)) ?_
    (repeat (refine gG ?_; try intro _))
    refine g_yd rfl rfl ((ys_lookupG (S := [mpk r (Value.int .u32) M]) x rfl rfl rfl rfl Try.underlying98 kok_u zero_I (.head _)).ydS sF) ?_
    refine g_say 21 (.int .i64 (l.count x : Int)) rfl (hI.look x) ?_
    (repeat (refine gG ?_; try intro _))
    refine g_mv rfl (mv_mapUpdateG rfl x rfl rfl rfl rfl rfl Try.underlying98 kok_u (by first | ((repeat (first | with_reducible exact Upd.here _ | with_reducible apply Upd.there)); done) | ((repeat (first | exact Upd.here _ | apply Upd.there)); done) | fail) ?_)
    (repeat (refine gG ?_; try intro _))
    refine g_yd rfl rfl ((ys_lookupG (S := [mpk r (Value.int .u32) (msG x (.int .i64 (l.count x + 1 : Int)) M)]) x rfl rfl rfl rfl Try.underlying98 kok_u zero_I (.head _)).ydS sF) ?_
    refine g_say 35 (.int .i64 ((l ++ [x]).count x : Int)) rfl (hI2.look x) ?_
    (repeat (refine gG ?_; try intro _))
    refine gk_ret hT rfl rfl (.tmp rfl .nil) (fun w' hk => ?_)
    exact RetM.mkP (ll := fun T' => tbL t T') (⟨some r, msG x (.int .i64 (l.count x + 1 : Int)) M, s + 1⟩ : TabS) hI2 rfl hk (fun b hb => (hE b).2 hb) (show SelAll [blk t [.map (some r), .int .i64 (s + 1)] 100, mpk r (Value.int .u32) (msG x (.int .i64 (l.count x + 1 : Int)) M)] _ from sA)
theorem hold0_any (t : Nat) (w : World) : Calls Try.prog 48 [.pointer (some ⟨t, 0, none⟩), .int .u32 0].toArray w fun e w' => e = .returned (.int .i64 0) ∧ Below w.heap.size w w' := by
  refine g_enter0 T [] [] [] Try.func48 rfl Try.ntmps48 rfl (Kn.start _) ?_
  (repeat' (first | (refine gG ?_; try intro _) | ((first | refine g_split rfl rfl tE (fun _ => ?_) (fun _ => ?_) | refine gk_cond rfl rfl tE (fun _ => ?_) (fun _ => ?_)) <;> (try first | (exfalso; omega; done) | (rename_i hx; exact absurd rfl hx) | (rename_i hx; cases hx; done)))))
  refine gk_ret hT rfl rfl (.tmp rfl .nil) (fun w' hk => ?_)
  exact ⟨rfl, hk.toBelow⟩
end Go.Proofs.Yteajefmnbalofaa.Rf

