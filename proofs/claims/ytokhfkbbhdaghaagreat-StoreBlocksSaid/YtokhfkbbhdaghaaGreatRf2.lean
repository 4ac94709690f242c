/- refs.Table: Count, Hold, Drop, Len, Sum. refs.Table: Len, Sum, All. -/
import Derived.Test.YtokhfkbbhdaghaaGreatKyU
import Derived.Test.YtokhfkbbhdaghaaGreatExP
namespace Go.Proofs.YtokhfkbbhdaghaaGreat.Rf
open Go.RowKit Mem Gx
set_option linter.unusedVariables false
set_option linter.unusedSimpArgs false
set_option maxRecDepth 100000
set_option maxHeartbeats 1000000
theorem kok_u : KOk Tryz.prog 22 (Value.int .u32) := kok_int Tryz.underlying22
theorem zero_I : ∀ w, (zeroValue 3).run Tryz.prog w = .ok (.int .i64 0) w := fun w => rfl
/-- A map's entries. -/
def vals (M : List (Int × Int)) : List (Int × Value) := M.map fun p => (p.1, .int .i64 p.2)
/-- A table: its map (if there is one), its sum. -/
structure TabS where
  r : Option Nat
  M : List (Int × Value)
  sum : Int
def tbL (t : Nat) (T : TabS) : List Fact := match T.r with
  | none => [blk t [.map none, .int .i64 T.sum] 78]
  | some r => [blk t [.map (some r), .int .i64 T.sum] 78, mpk r (Value.int .u32) T.M]
abbrev tbF (t : Nat) (T : TabS) : Fact := packF (tbL t T)
def cntV (l : List Int) (k : Int) : Option Value := if l.count k = 0 then none else some (.int .i64 (l.count k : Int))
/-- The table is of a row. -/
structure RfI (T : TabS) (l : List Int) : Prop where
  nil : T.r = none → l = []
  sum : T.sum = l.length
  map : MapIs T.M (cntV l)
  len : l.length ≤ 1000
theorem RfI.look {T : TabS} {l : List Int} (h : RfI T l) (k : Int) : ((lkG k T.M 0).map (·.2)).getD (.int .i64 0) = .int .i64 (l.count k : Int) := by
  have h1 : mg k T.M = cntV l k := h.map.get k
  unfold mg at h1
  rw [h1]
  unfold cntV
  split
  · rename_i h0; rw [h0]; rfl
  · rfl
theorem RfI.fin (t : Nat) (T : TabS) : ∃ E : List Nat, ∀ b, (tbF t T).S b ↔ b ∈ E := by
  obtain ⟨r, M, s⟩ := T
  cases r with
  | none => exact ⟨[t], fun b => ⟨fun ⟨φ, hφ, hb⟩ => by obtain rfl := List.mem_singleton.1 hφ; exact List.mem_singleton.2 hb, fun hb => ⟨_, .head _, List.mem_singleton.1 hb⟩⟩⟩
  | some r => exact ⟨[t, r], fun b => ⟨fun ⟨φ, hφ, hb⟩ => by
      rcases List.mem_cons.1 hφ with rfl | hφ
      · have : b = t := hb
        rw [this]; exact .head _
      · obtain rfl := List.mem_singleton.1 hφ
        have : b = r := hb
        rw [this]; exact .tail _ (.head _), fun hb => by
      rcases List.mem_cons.1 hb with rfl | hb
      · exact ⟨_, .head _, rfl⟩
      · obtain rfl := List.mem_singleton.1 hb
        exact ⟨_, .tail _ (.head _), rfl⟩⟩⟩
theorem cnt_snoc (l : List Int) (b k : Int) : (l ++ [b]).count k = l.count k + if k = b then 1 else 0 := by
  rw [List.count_append, List.count_singleton]
  by_cases h : k = b
  · subst h; simp
  · rw [if_neg h, if_neg (by simpa using fun e => h e.symm)]
theorem hold_any (t : Nat) (T : TabS) (l : List Int) (x : Int) (w : World) (hx : x ≠ 0) (hl9 : l.length < 1000) (hI : RfI T l) (h : Rd1 w (tbF t T)) :
    Calls Tryz.prog 85 [.pointer (some ⟨t, 0, none⟩), .int .u32 x].toArray w (RetM (tbF t T) (fun T' : TabS => RfI T' (l ++ [x])) (fun _ => .int .i64 ((l ++ [x]).count x : Int)) (fun T' => tbF t T') w) := by
  obtain ⟨E, hE⟩ := RfI.fin t T
  have hll := hI.len
  have hcn : l.count x ≤ l.length := List.count_le_length
  have hsum := hI.sum
  obtain ⟨r, M, s⟩ := T
  have key : ∀ (r' : Nat) (M0 : List (Int × Value)), MapIs M0 (cntV l) → RfI ⟨some r', msG x (.int .i64 (l.count x + 1 : Int)) M0, s + 1⟩ (l ++ [x]) := fun r' M0 hM => ⟨fun e => (by cases e), by show s + 1 = _; rw [List.length_append]; simp at hsum ⊢; omega, hM.set fun k' => by
    unfold cntV
    rw [cnt_snoc]
    by_cases e : k' = x
    · subst e; rw [if_pos rfl, if_pos rfl, if_neg (by omega)]; push_cast; rfl
    · rw [if_neg e, if_neg e, Nat.add_zero], by rw [List.length_append]; simp; omega⟩
  cases r with
  | none =>
    have hnil := hI.nil rfl
    have hc0 : l.count x = 0 := by rw [hnil]; rfl
    have hs0 : s = 0 := by rw [show s = (l.length : Int) from hsum, hnil]; rfl
    refine g_enter0 T E [blk t [.map none, .int .i64 s] 78] [] Tryz.func85 rfl Tryz.ntmps85 rfl (Kn.startP h (fun b hb => (hE b).1 hb) (fun _ h => by cases h)) ?_
    (repeat' (first | (refine gG ?_; try intro _) | ((first | refine g_split rfl rfl tE (fun _ => ?_) (fun _ => ?_) | refine gk_cond rfl rfl tE (fun _ => ?_) (fun _ => ?_)) <;> (try first | (exfalso; omega; done) | (rename_i hx; exact absurd rfl hx) | (rename_i hx; cases hx; done)))))
    refine g_yd rfl rfl (Ys.yd (ys_map_nil hT rfl rfl rfl Tryz.underlying76)) ?_
    (repeat (refine gG ?_; try intro _))
    refine g_mv rfl (mv_makeMapG rfl (Value.int .u32) rfl (fun r => ?_))
    (repeat (refine gG ?_; try intro _))
    have hI2 := key r [] (by rw [hnil]; exact MapIs.nil.congr fun k => by simp [cntV])
    refine g_yd rfl rfl ((ys_lookupG (S := [mpk r (Value.int .u32) []]) x rfl rfl rfl rfl Tryz.underlying76 kok_u zero_I (.head _)).ydS sF) ?_
    refine g_say 21 (.int .i64 (l.count x : Int)) rfl (by rw [hc0]; rfl) ?_
    (repeat (refine gG ?_; try intro _))
    refine g_mv rfl (mv_mapUpdateG rfl x rfl rfl rfl rfl rfl Tryz.underlying76 kok_u (by first | ((repeat (first | with_reducible exact Upd.here _ | with_reducible apply Upd.there)); done) | ((repeat (first | exact Upd.here _ | apply Upd.there)); done) | fail) ?_)
    (repeat (refine gG ?_; try intro _))
    refine g_yd rfl rfl ((ys_lookupG (S := [mpk r (Value.int .u32) (msG x (.int .i64 (l.count x + 1 : Int)) [])]) x rfl rfl rfl rfl Tryz.underlying76 kok_u zero_I (.head _)).ydS sF) ?_
    refine g_say 35 (.int .i64 ((l ++ [x]).count x : Int)) rfl (hI2.look x) ?_
    (repeat (refine gG ?_; try intro _))
    refine gk_ret hT rfl rfl (.tmp rfl .nil) (fun w' hk => ?_)
    exact RetM.mkP (ll := fun T' => tbL t T') (⟨some r, msG x (.int .i64 (l.count x + 1 : Int)) [], s + 1⟩ : TabS) hI2 rfl hk (fun b hb => (hE b).2 hb) (show SelAll [blk t [.map (some r), .int .i64 (s + 1)] 78, mpk r (Value.int .u32) (msG x (.int .i64 (l.count x + 1 : Int)) [])] _ from sA)
  | some r =>
    have hI2 := key r M hI.map
    refine g_enter0 T E [blk t [.map (some r), .int .i64 s] 78, mpk r (Value.int .u32) M] [] Tryz.func85 rfl Tryz.ntmps85 rfl (Kn.startP h (fun b hb => (hE b).1 hb) (fun _ h => by cases h)) ?_
    have hsv : s = (l.length : Int) := hsum
    (repeat' (first | (refine gG ?_; try intro _) | ((first | refine g_split rfl rfl tE (fun _ => ?_) (fun _ => ?_) | refine gk_cond rfl rfl tE (fun _ => ?_) (fun _ => ?_)) <;> (try first | (exfalso; omega; done) | (rename_i hx; exact absurd rfl hx) | (rename_i hx; cases hx; done)))))
    refine g_yd rfl rfl (Ys.yd (ys_map_nil hT rfl rfl rfl Tryz.underlying76)) ?_
    (repeat (refine gG ?_; try intro _))
    refine g_yd rfl rfl ((ys_lookupG (S := [mpk r (Value.int .u32) M]) x rfl rfl rfl rfl Tryz.underlying76 kok_u zero_I (.head _)).ydS sF) ?_
    refine g_say 21 (.int .i64 (l.count x : Int)) rfl (hI.look x) ?_
    (repeat (refine gG ?_; try intro _))
    refine g_mv rfl (mv_mapUpdateG rfl x rfl rfl rfl rfl rfl Tryz.underlying76 kok_u (by first | ((repeat (first | with_reducible exact Upd.here _ | with_reducible apply Upd.there)); done) | ((repeat (first | exact Upd.here _ | apply Upd.there)); done) | fail) ?_)
    (repeat (refine gG ?_; try intro _))
    refine g_yd rfl rfl ((ys_lookupG (S := [mpk r (Value.int .u32) (msG x (.int .i64 (l.count x + 1 : Int)) M)]) x rfl rfl rfl rfl Tryz.underlying76 kok_u zero_I (.head _)).ydS sF) ?_
    refine g_say 35 (.int .i64 ((l ++ [x]).count x : Int)) rfl (hI2.look x) ?_
    (repeat (refine gG ?_; try intro _))
    refine gk_ret hT rfl rfl (.tmp rfl .nil) (fun w' hk => ?_)
    exact RetM.mkP (ll := fun T' => tbL t T') (⟨some r, msG x (.int .i64 (l.count x + 1 : Int)) M, s + 1⟩ : TabS) hI2 rfl hk (fun b hb => (hE b).2 hb) (show SelAll [blk t [.map (some r), .int .i64 (s + 1)] 78, mpk r (Value.int .u32) (msG x (.int .i64 (l.count x + 1 : Int)) M)] _ from sA)
theorem hold0_any (t : Nat) (w : World) : Calls Tryz.prog 85 [.pointer (some ⟨t, 0, none⟩), .int .u32 0].toArray w fun e w' => e = .returned (.int .i64 0) ∧ Below w.heap.size w w' := by
  refine g_enter0 T [] [] [] Tryz.func85 rfl Tryz.ntmps85 rfl (Kn.start _) ?_
  (repeat' (first | (refine gG ?_; try intro _) | ((first | refine g_split rfl rfl tE (fun _ => ?_) (fun _ => ?_) | refine gk_cond rfl rfl tE (fun _ => ?_) (fun _ => ?_)) <;> (try first | (exfalso; omega; done) | (rename_i hx; exact absurd rfl hx) | (rename_i hx; cases hx; done)))))
  refine gk_ret hT rfl rfl (.tmp rfl .nil) (fun w' hk => ?_)
  exact ⟨rfl, hk.toBelow⟩
end Go.Proofs.YtokhfkbbhdaghaaGreat.Rf
namespace Go.Proofs.YtokhfkbbhdaghaaGreat.Rf
open Go.RowKit Mem Gx KyU Dd
set_option linter.unusedVariables false
set_option linter.unusedSimpArgs false
set_option maxRecDepth 100000
set_option maxHeartbeats 1000000
/-- The blocks of a row, rising, each once. -/
def setP (l : List Int) : List Int := dd (Ex.srt l)
theorem setP_rise (l : List Int) : (setP l).Pairwise (fun x y => x < y) := (Ex.ddN_rise (Ex.srt_rise l) (Ex.srt l).length (Nat.le_refl _)).1
theorem mem_setP {l : List Int} {x : Int} : x ∈ setP l ↔ x ∈ l := by
  unfold setP
  rw [mem_dd]
  exact (List.mergeSort_perm _ _).mem_iff
theorem nodup_of_rise {l : List Int} (h : l.Pairwise (fun x y => x < y)) : l.Nodup := h.imp fun h => by omega
theorem RfI.keys {T : TabS} {l : List Int} (h : RfI T l) : (T.M.map (·.1)).Perm (setP l) := (List.perm_ext_iff_of_nodup h.map.nodup (nodup_of_rise (setP_rise l))).2 fun k => by
  rw [mem_setP]
  have h1 := h.map.get k
  have h2 := @mg_mem _ _ k T.M
  rw [h1] at h2
  unfold cntV at h2
  by_cases hk : l.count k = 0
  · rw [if_pos hk] at h2
    exact ⟨fun hm => absurd hm (h2.1 rfl), fun hm => absurd (List.count_pos_iff.2 hm) (by omega)⟩
  · rw [if_neg hk] at h2
    refine ⟨fun _ => List.count_pos_iff.1 (by omega), fun _ => Classical.byContradiction fun hn => ?_⟩
    have := h2.2 hn
    cases this
theorem sorted_set {l S : List Int} (hp : S.Perm (setP l)) (hs : Pq.SortedIn (fun x y : Int => x < y) 0 S.length S) : S = setP l := by
  refine List.Perm.eq_of_pairwise (le := fun x y : Int => x ≤ y) (fun a b _ _ h1 h2 => by omega) ?_ ((setP_rise l).imp fun h => by omega) hp
  rw [List.pairwise_iff_getElem]
  intro i j hi hj hij
  have := hs i j _ _ (Nat.zero_le _) hij hj (List.getElem?_eq_getElem hi) (List.getElem?_eq_getElem hj)
  exact Int.not_lt.1 this
theorem setP_len (l : List Int) : (setP l).length ≤ l.length := by
  unfold setP
  have := (ddN_len (L := Ex.srt l) (k := (Ex.srt l).length))
  rw [Ex.srt_len] at this
  have e : dd (Ex.srt l) = ddN (Ex.srt l) (Ex.srt l).length := rfl
  rw [e, Ex.srt_len]
  exact this
theorem len_any (t : Nat) (T : TabS) (l : List Int) (w : World) (hI : RfI T l) (h : Rd1 w (tbF t T)) :
    Calls Tryz.prog 144 [.pointer (some ⟨t, 0, none⟩)].toArray w fun e w' => e = .returned (.int .i64 ((setP l).length : Int)) ∧ Below w.heap.size w w' := by
  have hk1 := hI.keys.length_eq
  rw [List.length_map] at hk1
  rw [← hk1]
  obtain ⟨r, M, s⟩ := T
  cases r with
  | none =>
    have hB := Rd1.unpack h (φ := blk t [.map none, .int .i64 s] 78) (.head _)
    have hM0 : M.length = 0 := by
      have h2 := setP_len l
      rw [hI.nil rfl] at hk1 h2
      simp at h2
      rw [h2] at hk1
      exact hk1
    refine g_enter0 T [] [] [blk t [.map none, .int .i64 s] 78] Tryz.func144 rfl Tryz.ntmps144 rfl (Rds.cons hB .nil).kn ?_
    refine gk_rowR (g := t) mE ?_
    (repeat (refine gG ?_; try intro _))
    refine gk_ret hT rfl rfl (.tmp rfl .nil) (fun w' hk => ?_)
    refine ⟨?_, hk.toBelow⟩
    show Ending.returned (.int .i64 0) = .returned (.int .i64 (M.length : Int))
    rw [hM0]
    rfl
  | some r =>
    have hB := Rd1.unpack h (φ := blk t [.map (some r), .int .i64 s] 78) (.head _)
    have hM := Rd1.unpack h (φ := mpk r (Value.int .u32) M) (.tail _ (.head _))
    refine g_enter0 T [] [] [blk t [.map (some r), .int .i64 s] 78, mpk r (Value.int .u32) M] Tryz.func144 rfl Tryz.ntmps144 rfl (Rds.cons hB (.cons hM .nil)).kn ?_
    refine gk_rowR (g := t) mE ?_
    (repeat (refine gG ?_; try intro _))
    refine g_yd rfl rfl ((ys_map_len (S := [mpk r (Value.int .u32) M]) rfl rfl rfl rfl Tryz.underlying76 (.head _)).ydS sF) ?_
    (repeat (refine gG ?_; try intro _))
    refine gk_ret hT rfl rfl (.tmp rfl .nil) (fun w' hk => ?_)
    exact ⟨rfl, hk.toBelow⟩
end Go.Proofs.YtokhfkbbhdaghaaGreat.Rf
