/- refs.Table: Len, Sum, All. -/
import Derived.Test.YteajefmnbalofaaRf1
import Derived.Test.YteajefmnbalofaaExP
namespace Go.Proofs.Yteajefmnbalofaa.Rf
open Go.RowKit Mem Gx KyU Dd
set_option linter.unusedVariables false
set_option linter.unusedSimpArgs false
set_option maxRecDepth 100000
set_option maxHeartbeats 1000000
/-- The blocks of a row, rising, each once. -/
def setP (l : List Int) : List Int := dd (Ex.srt l)
theorem setP_rise (l : List Int) : (setP l).Pairwise (fun x y => x < y) := (Ex.ddN_rise (Ex.srt_rise l) (Ex.srt l).length (Nat.le_refl _)).1
theorem mem_setP {l : List Int} {x : Int} : x ∈ setP l ↔ x ∈ l := by
  unfold setP
  rw [mem_dd]
  exact (List.mergeSort_perm _ _).mem_iff
theorem nodup_of_rise {l : List Int} (h : l.Pairwise (fun x y => x < y)) : l.Nodup := h.imp fun h => by omega
theorem RfI.keys {T : TabS} {l : List Int} (h : RfI T l) : (T.M.map (·.1)).Perm (setP l) := (List.perm_ext_iff_of_nodup h.map.nodup (nodup_of_rise (setP_rise l))).2 fun k => by
  rw [mem_setP]
  have h1 := h.map.get k
  have h2 := @mg_mem _ _ k T.M
  rw [h1] at h2
  unfold cntV at h2
  by_cases hk : l.count k = 0
  · rw [if_pos hk] at h2
    exact ⟨fun hm => absurd hm (h2.1 rfl), fun hm => absurd (List.count_pos_iff.2 hm) (by omega)⟩
  · rw [if_neg hk] at h2
    refine ⟨fun _ => List.count_pos_iff.1 (by omega), fun _ => Classical.byContradiction fun hn => ?_⟩
    have := h2.2 hn
    cases this
theorem sorted_set {l S : List Int} (hp : S.Perm (setP l)) (hs : Pq.SortedIn (fun x y : Int => x < y) 0 S.length S) : S = setP l := by
  refine List.Perm.eq_of_pairwise (le := fun x y : Int => x ≤ y) (fun a b _ _ h1 h2 => by omega) ?_ ((setP_rise l).imp fun h => by omega) hp
  rw [List.pairwise_iff_getElem]
  intro i j hi hj hij
  have := hs i j _ _ (Nat.zero_le _) hij hj (List.getElem?_eq_getElem hi) (List.getElem?_eq_getElem hj)
  exact Int.not_lt.1 this
theorem setP_len (l : List Int) : (setP l).length ≤ l.length := by
  unfold setP
  have := (ddN_len (L := Ex.srt l) (k := (Ex.srt l).length))
  rw [Ex.srt_len] at this
  have e : dd (Ex.srt l) = ddN (Ex.srt l) (Ex.srt l).length := rfl
  rw [e, Ex.srt_len]
  exact this
theorem len_any (t : Nat) (T : TabS) (l : List Int) (w : World) (hI : RfI T l) (h : Rd1 w (tbF t T)) :
    Calls Try.prog 121 [.pointer (some ⟨t, 0, none⟩)].toArray w fun e w' => e = .returned (.int .i64 ((setP l).length : Int)) ∧ Below w.heap.size w w' := by
  have hk1 := hI.keys.length_eq
  rw [List.length_map] at hk1
  rw [← hk1]
  obtain ⟨r, M, s⟩ := T
  cases r with
  | none =>
    have hB := Rd1.unpack h (φ := blk t [.map none, .int .i64 s] 100) (.head _)
    have hM0 : M.length = 0 := by
      have h2 := setP_len l
      rw [hI.nil rfl] at hk1 h2
      simp at h2
      rw [h2] at hk1
      exact hk1
    refine g_enter0 T [] [] [blk t [.map none, .int .i64 s] 100] Try.func121 rfl Try.ntmps121 rfl (Rds.cons hB .nil).kn ?_
    refine gk_rowR (g := t) mE ?_
    (repeat (refine gG ?_; try intro _))
    refine gk_ret hT rfl rfl (.tmp rfl .nil) (fun w' hk => ?_)
    refine ⟨?_, hk.toBelow⟩
    show Ending.returned (.int .i64 0) = .returned (.int .i64 (M.length : Int))
    rw [hM0]
    rfl
  | some r =>
    have hB := Rd1.unpack h (φ := blk t [.map (some r), .int .i64 s] 100) (.head _)
    have hM := Rd1.unpack h (φ := mpk r (Value.int .u32) M) (.tail _ (.head _))
    refine g_enter0 T [] [] [blk t [.map (some r), .int .i64 s] 100, mpk r (Value.int .u32) M] Try.func121 rfl Try.ntmps121 rfl (Rds.cons hB (.cons hM .nil)).kn ?_
    refine gk_rowR (g := t) mE ?_
    (repeat (refine gG ?_; try intro _))
    refine g_yd rfl rfl ((ys_map_len (S := [mpk r (Value.int .u32) M]) rfl rfl rfl rfl Try.underlying98 (.head _)).ydS sF) ?_
    (repeat (refine gG ?_; try intro _))
    refine gk_ret hT rfl rfl (.tmp rfl .nil) (fun w' hk => ?_)
    exact ⟨rfl, hk.toBelow⟩
end Go.Proofs.Yteajefmnbalofaa.Rf

