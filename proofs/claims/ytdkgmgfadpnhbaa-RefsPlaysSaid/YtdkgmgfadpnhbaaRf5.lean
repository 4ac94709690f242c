/- refs.Same. -/
import Derived.Test.YtdkgmgfadpnhbaaRf4
namespace Go.Proofs.Ytdkgmgfadpnhbaa.Rf
open Go.RowKit Mem Gx Gm KyU Dd
set_option linter.unusedVariables false
set_option linter.unusedSimpArgs false
set_option maxRecDepth 100000
set_option maxHeartbeats 1000000
theorem same_core (t1 t2 : Nat) (o1 o2 : Option Nat) (s1 s2 : Int) (φ φ' : Fact) (b : Bool) (w : World) (h1 : Rd1 w (blk t1 [.map o1, .int .i64 s1] 83)) (h2 : Rd1 w (blk t2 [.map o2, .int .i64 s2] 83)) (h3 : Rd1 w φ) (h4 : Rd1 w φ') (hc : ∀ w', Rd1 w' φ → Rd1 w' φ' → Calls Try.prog 88 [.map o1, .map o2].toArray w' fun e w2 => e = .returned (.bool b) ∧ Below w'.heap.size w' w2) :
    Calls Try.prog 37 [.pointer (some ⟨t1, 0, none⟩), .pointer (some ⟨t2, 0, none⟩)].toArray w fun e w' => e = .returned (.bool b) ∧ Below w.heap.size w w' := by
  refine g_enter0 T [] [] [blk t1 [.map o1, .int .i64 s1] 83, blk t2 [.map o2, .int .i64 s2] 83, φ, φ'] Try.func37 rfl Try.ntmps37 rfl (Rds.cons h1 (.cons h2 (.cons h3 (.cons h4 .nil)))).kn ?_
  refine gk_rowR (g := t1) mE ?_
  refine gk_rowR (g := t2) mE ?_
  (repeat (refine gG ?_; try intro _))
  refine gk_any [0, 1, 2, 3] (Cut _ (fun _ : Unit => [(4, .bool b)]) (fun _ => []) (fun _ => [])) rfl rfl (by kernel_rfl) ?_ (cut_k fun _ => ?_)
  · skip
    refine gb_take 0 rfl (by decide +kernel) rfl rfl (ys_ev (nw := true) hT rfl sI) sF ?_
    refine gb_take 1 rfl (by decide +kernel) rfl rfl (ys_ev (nw := true) hT rfl sI) sF ?_
    refine gb_take 2 rfl (by decide +kernel) rfl rfl (ys_ev (nw := true) hT rfl sI) sF ?_
    refine gb_take 3 rfl (by decide +kernel) rfl rfl (by first | exact ys_blk hT rfl rfl mE rfl rfl | exact ys_row hT rfl rfl mE rfl rfl | exact ys_row0 hT rfl rfl mE rfl rfl) sF ?_
    refine gb_take 4 rfl (by decide +kernel) rfl rfl (ys_ev (nw := true) hT rfl sI) sF ?_
    refine gb_take 5 rfl (by decide +kernel) rfl rfl (ys_ev (nw := true) hT rfl sI) sF ?_
    refine gb_take 6 rfl (by decide +kernel) rfl rfl (ys_ev (nw := true) hT rfl sI) sF ?_
    refine gb_take 7 rfl (by decide +kernel) rfl rfl (by first | exact ys_blk hT rfl rfl mE rfl rfl | exact ys_row hT rfl rfl mE rfl rfl | exact ys_row0 hT rfl rfl mE rfl rfl) sF ?_
    refine gb_only 8 (by decide +kernel) rfl rfl ?_
    refine mv_call_bel (fun w hk => hc w (hk.rR (φ := φ) mE) (hk.rR (φ := φ') mE)) rfl rfl rfl rfl rfl (by kernel_rfl) ?_
    refine ⟨sF, ?_⟩
    refine gb_take 9 rfl (by decide +kernel) rfl rfl (ys_ev (nw := true) hT rfl sI) sF ?_
    refine gb_nil (by decide +kernel) ?_
    exact ⟨(), (by repeat (first | exact trivial | refine ⟨rfl, ?_⟩)), sA, sS⟩
  · (repeat (refine gG ?_; try intro _))
    refine gk_ret hT rfl rfl (.tmp rfl .nil) (fun w' hk => ?_)
    exact ⟨rfl, hk.toBelow⟩
theorem tbF_blk {w : World} {t : Nat} {T : TabS} (h : Rd1 w (tbF t T)) : Rd1 w (blk t [.map T.r, .int .i64 T.sum] 83) := by
  obtain ⟨r, M, s⟩ := T
  cases r with
  | none => exact Rd1.unpack h (.head _)
  | some r => exact Rd1.unpack h (.head _)
theorem tbF_map {w : World} {t r : Nat} {T : TabS} (h : Rd1 w (tbF t T)) (hr : T.r = some r) : Rd1 w (mpk r (Value.int .u32) T.M) := by
  obtain ⟨r, M, s⟩ := T
  obtain rfl : _ = some _ := hr
  exact Rd1.unpack h (.tail _ (.head _))
theorem RfI.none_nil {T : TabS} {l : List Int} (h : RfI T l) (hr : T.r = none) : T.M = [] := by
  have h1 := h.keys.length_eq
  have h2 := setP_len l
  rw [h.nil hr] at h1 h2
  rw [List.length_map] at h1
  simp at h2
  rw [h2] at h1
  exact List.length_eq_zero_iff.1 h1
theorem RfI.nil_iff {T : TabS} {l : List Int} (h : RfI T l) : T.M.length = 0 ↔ l = [] := by
  have h1 := h.keys.length_eq
  rw [List.length_map] at h1
  rw [h1, List.length_eq_zero_iff]
  refine ⟨fun h0 => List.eq_nil_iff_forall_not_mem.2 fun x hx => ?_, fun h0 => ?_⟩
  · have := mem_setP.2 hx
    rw [h0] at this
    cases this
  · have := setP_len l
    rw [h0] at this ⊢
    exact List.length_eq_zero_iff.1 (by simpa using this)
theorem SameP.nil_left {l : List Int} : SameP [] l ↔ l = [] := ⟨fun h => List.eq_nil_iff_forall_not_mem.2 fun x hx => by
    have := h x
    have h2 := List.count_pos_iff.2 hx
    simp at this
    omega, fun h k => by rw [h]⟩
theorem SameP.symm {l l' : List Int} (h : SameP l l') : SameP l' l := fun k => (h k).symm
theorem same_any (t1 t2 : Nat) (T1 T2 : TabS) (l1 l2 : List Int) (w : World) (i1 : RfI T1 l1) (i2 : RfI T2 l2) (h1 : Rd1 w (tbF t1 T1)) (h2 : Rd1 w (tbF t2 T2)) :
    Calls Try.prog 37 [.pointer (some ⟨t1, 0, none⟩), .pointer (some ⟨t2, 0, none⟩)].toArray w fun e w' => e = .returned (.bool (tB (SameP l1 l2))) ∧ Below w.heap.size w w' := by
  have b1 := tbF_blk h1
  have b2 := tbF_blk h2
  cases e1 : T1.r with
  | none =>
    rw [e1] at b1
    have hl1 := i1.nil e1
    cases e2 : T2.r with
    | none =>
      rw [e2] at b2
      have hl2 := i2.nil e2
      have hy : SameP l1 l2 := fun k => by rw [hl1, hl2]
      rw [show tB (SameP l1 l2) = true from tB_true hy]
      exact same_core t1 t2 none none T1.sum T2.sum _ _ true w b1 b2 b1 b1 fun w' _ _ => meq_nn w'
    | some r2 =>
      rw [e2] at b2
      have hm2 := tbF_map h2 e2
      have hy : tB (SameP l1 l2) = tB (T2.M.length = 0) := by
        subst hl1
        exact tB_congr (SameP.nil_left.trans i2.nil_iff.symm)
      rw [hy]
      exact same_core t1 t2 none (some r2) T1.sum T2.sum _ _ _ w b1 b2 hm2 hm2 fun w' hw _ => meq_ns r2 T2.M w' hw
  | some r1 =>
    rw [e1] at b1
    have hm1 := tbF_map h1 e1
    cases e2 : T2.r with
    | none =>
      rw [e2] at b2
      have hl2 := i2.nil e2
      have hy : tB (SameP l1 l2) = tB (T1.M.length = 0) := by
        subst hl2
        exact tB_congr ((⟨SameP.symm, SameP.symm⟩ : SameP l1 [] ↔ SameP [] l1).trans (SameP.nil_left.trans i1.nil_iff.symm))
      rw [hy]
      exact same_core t1 t2 (some r1) none T1.sum T2.sum _ _ _ w b1 b2 hm1 hm1 fun w' hw _ => meq_sn r1 T1.M w' hw
    | some r2 =>
      rw [e2] at b2
      have hm2 := tbF_map h2 e2
      exact same_core t1 t2 (some r1) (some r2) T1.sum T2.sum _ _ _ w b1 b2 hm1 hm2 fun w' hw hw' => meq_ss r1 r2 T1.M T2.M l1 l2 w' i1.map i2.map hw hw'
end Go.Proofs.Ytdkgmgfadpnhbaa.Rf

