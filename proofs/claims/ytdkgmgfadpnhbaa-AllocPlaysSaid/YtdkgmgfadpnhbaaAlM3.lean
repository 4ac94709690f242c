/- The types of law 25's m, beside the others. Law 25: what is known of each block (m): in, take. Law 25: told. -/
import Derived.Test.YtdkgmgfadpnhbaaAlM2
namespace Go.Proofs.Ytdkgmgfadpnhbaa.Al
open Go.RowKit Mem Gx
set_option maxRecDepth 100000
set_option linter.unusedVariables false
def T : Tab := ⟨137, .struct [(0, 64, true), (64, 64, true), (128, 64, true), (192, 1, false)], 193, [.int .i64 0, .int .i64 0, .int .i64 0, .int .i64 0, .int .i64 0, .int .i64 0, .int .i64 0, .int .i64 0, .int .i64 0, .int .i64 0, .int .i64 0, .int .i64 0, .int .i64 0, .int .i64 0, .int .i64 0, .int .i64 0, .int .i64 0, .int .i64 0, .int .i64 0, .int .i64 0, .int .i64 0, .int .i64 0, .int .i64 0, .int .i64 0, .int .i64 0, .int .i64 0, .int .i64 0, .int .i64 0, .int .i64 0, .int .i64 0, .int .i64 0, .int .i64 0, .int .i64 0, .int .i64 0, .int .i64 0, .int .i64 0, .int .i64 0, .int .i64 0, .int .i64 0, .int .i64 0, .int .i64 0, .int .i64 0, .int .i64 0, .int .i64 0, .int .i64 0, .int .i64 0, .int .i64 0, .int .i64 0, .int .i64 0, .int .i64 0, .int .i64 0, .int .i64 0, .int .i64 0, .int .i64 0, .int .i64 0, .int .i64 0, .int .i64 0, .int .i64 0, .int .i64 0, .int .i64 0, .int .i64 0, .int .i64 0, .int .i64 0, .int .i64 0, .bool false, .bool false, .bool false, .bool false, .bool false, .bool false, .bool false, .bool false, .bool false, .bool false, .bool false, .bool false, .bool false, .bool false, .bool false, .bool false, .bool false, .bool false, .bool false, .bool false, .bool false, .bool false, .bool false, .bool false, .bool false, .bool false, .bool false, .bool false, .bool false, .bool false, .bool false, .bool false, .bool false, .bool false, .bool false, .bool false, .bool false, .bool false, .bool false, .bool false, .bool false, .bool false, .bool false, .bool false, .bool false, .bool false, .bool false, .bool false, .bool false, .bool false, .bool false, .bool false, .bool false, .bool false, .bool false, .bool false, .bool false, .bool false, .bool false, .bool false, .bool false, .bool false, .bool false, .bool false, .bool false, .bool false, .bool false, .bool false, .bool false, .bool false, .bool false, .bool false, .bool false, .bool false, .bool false, .bool false, .bool false, .bool false, .bool false, .bool false, .bool false, .bool false, .bool false, .bool false, .bool false, .bool false, .bool false, .bool false, .bool false, .bool false, .bool false, .bool false, .bool false, .bool false, .bool false, .bool false, .bool false, .bool false, .bool false, .bool false, .bool false, .bool false, .bool false, .bool false, .bool false, .bool false, .bool false, .bool false, .bool false, .bool false, .bool false, .bool false, .bool false, .bool false, .bool false, .bool false, .bool false, .bool false, .bool false, .bool false, .bool false, .bool false, .bool false, .bool false, .bool false, .bool false, .bool false, .bool false, .int .i64 0]⟩ :: ⟨134, .array 64 3 1, 64, [.int .i64 0, .int .i64 0, .int .i64 0, .int .i64 0, .int .i64 0, .int .i64 0, .int .i64 0, .int .i64 0, .int .i64 0, .int .i64 0, .int .i64 0, .int .i64 0, .int .i64 0, .int .i64 0, .int .i64 0, .int .i64 0, .int .i64 0, .int .i64 0, .int .i64 0, .int .i64 0, .int .i64 0, .int .i64 0, .int .i64 0, .int .i64 0, .int .i64 0, .int .i64 0, .int .i64 0, .int .i64 0, .int .i64 0, .int .i64 0, .int .i64 0, .int .i64 0, .int .i64 0, .int .i64 0, .int .i64 0, .int .i64 0, .int .i64 0, .int .i64 0, .int .i64 0, .int .i64 0, .int .i64 0, .int .i64 0, .int .i64 0, .int .i64 0, .int .i64 0, .int .i64 0, .int .i64 0, .int .i64 0, .int .i64 0, .int .i64 0, .int .i64 0, .int .i64 0, .int .i64 0, .int .i64 0, .int .i64 0, .int .i64 0, .int .i64 0, .int .i64 0, .int .i64 0, .int .i64 0, .int .i64 0, .int .i64 0, .int .i64 0, .int .i64 0]⟩ :: ⟨135, .array 64 4 1, 64, [.bool false, .bool false, .bool false, .bool false, .bool false, .bool false, .bool false, .bool false, .bool false, .bool false, .bool false, .bool false, .bool false, .bool false, .bool false, .bool false, .bool false, .bool false, .bool false, .bool false, .bool false, .bool false, .bool false, .bool false, .bool false, .bool false, .bool false, .bool false, .bool false, .bool false, .bool false, .bool false, .bool false, .bool false, .bool false, .bool false, .bool false, .bool false, .bool false, .bool false, .bool false, .bool false, .bool false, .bool false, .bool false, .bool false, .bool false, .bool false, .bool false, .bool false, .bool false, .bool false, .bool false, .bool false, .bool false, .bool false, .bool false, .bool false, .bool false, .bool false, .bool false, .bool false, .bool false, .bool false]⟩ :: Gx.T
set_option maxHeartbeats 4000000 in
theorem hT : TabOk Try.prog T := ⟨⟨by kernel_rfl, by kernel_rfl, by kernel_rfl⟩, ⟨by kernel_rfl, by kernel_rfl, by kernel_rfl⟩, ⟨by kernel_rfl, by kernel_rfl, by kernel_rfl⟩, Gx.hT⟩
/-- As many steps as can be reckoned, with these types. -/
theorem gG {p q : Prop} (g : q) (h : Later q → p := by
    intro h
    (first | refine g_nil ?_ | refine g_pure true hT rfl rfl rfl sI ?_ | refine g_skip rfl rfl ?_ | refine g_skip0 rfl rfl ?_ | refine gk_region rfl ?_ | refine gk_cond_t rfl rfl ?_ | refine gk_cond_f rfl rfl ?_ | refine g_yd rfl rfl (yd_load_blk hT rfl rfl mE rfl rfl) ?_ | refine g_yd rfl rfl (yd_load_row hT rfl rfl mE rfl rfl) ?_ | refine g_yd rfl rfl (yd_load_row0 hT rfl rfl mE rfl rfl) ?_ | refine g_yd rfl rfl (yd_eql rfl rfl rfl rfl rfl (by kernel_rfl)) ?_ | refine g_yd rfl rfl (yd_neq rfl rfl rfl rfl rfl (by kernel_rfl)) ?_ | refine g_yd rfl rfl (yd_index hT rfl rfl rfl sI rfl) ?_ | refine g_yd rfl rfl (yd_slice_nil hT rfl rfl rfl rfl) ?_ | refine g_yd rfl rfl (yd_build_arr hT rfl rfl rfl rfl rfl rfl) ?_ | (refine g_mv rfl ?_; first | (refine mv_box rfl rfl rfl rfl ?_) | (refine mv_alloc rfl hT rfl rfl ?_) | refine mv_store hT rfl rfl rfl rfl rfl rfl sO rfl ?_ | (refine mv_buildSlice rfl hT rfl rfl rfl rfl rfl rfl rfl rfl ?_)) | refine g_yd rfl rfl (Ys.yd (ys_str_eql hT rfl rfl rfl rfl)) ?_ | refine g_yd rfl rfl (Ys.yd (ys_str_neq hT rfl rfl rfl rfl)) ?_)
    repeat (first | refine g_nil ?_ | refine g_pure true hT rfl rfl rfl sI ?_ | refine g_skip rfl rfl ?_ | refine g_skip0 rfl rfl ?_ | refine gk_region rfl ?_ | refine gk_cond_t rfl rfl ?_ | refine gk_cond_f rfl rfl ?_ | refine g_yd rfl rfl (yd_load_blk hT rfl rfl mE rfl rfl) ?_ | refine g_yd rfl rfl (yd_load_row hT rfl rfl mE rfl rfl) ?_ | refine g_yd rfl rfl (yd_load_row0 hT rfl rfl mE rfl rfl) ?_ | refine g_yd rfl rfl (yd_eql rfl rfl rfl rfl rfl (by kernel_rfl)) ?_ | refine g_yd rfl rfl (yd_neq rfl rfl rfl rfl rfl (by kernel_rfl)) ?_ | refine g_yd rfl rfl (yd_index hT rfl rfl rfl sI rfl) ?_ | refine g_yd rfl rfl (yd_slice_nil hT rfl rfl rfl rfl) ?_ | refine g_yd rfl rfl (yd_build_arr hT rfl rfl rfl rfl rfl rfl) ?_ | (refine g_mv rfl ?_; first | (refine mv_box rfl rfl rfl rfl ?_) | (refine mv_alloc rfl hT rfl rfl ?_) | refine mv_store hT rfl rfl rfl rfl rfl rfl sO rfl ?_ | (refine mv_buildSlice rfl hT rfl rfl rfl rfl rfl rfl rfl rfl ?_)) | refine g_yd rfl rfl (Ys.yd (ys_str_eql hT rfl rfl rfl rfl)) ?_ | refine g_yd rfl rfl (Ys.yd (ys_str_neq hT rfl rfl rfl rfl)) ?_)
    exact h.out) : p := h ⟨g⟩
end Go.Proofs.Ytdkgmgfadpnhbaa.Al
namespace Go.Proofs.Ytdkgmgfadpnhbaa.Al
open Go.RowKit Mem Gx Gm KyU Dd Rf Hp
set_option linter.unusedVariables false
set_option linter.unusedSimpArgs false
set_option maxRecDepth 100000
set_option maxHeartbeats 2000000
structure MS where
  n : Nat → Int
  su : Nat → Bool
  wa : Nat → Bool
def mCell (m : MS) (N : Int) (j : Nat) : Value := if j < 64 then .int .i64 (m.n j) else if j < 128 then .bool (m.su (j - 64)) else if j < 192 then .bool (m.wa (j - 128)) else .int .i64 N
def mC (m : MS) (N : Int) : List Value := (List.range 193).map (mCell m N)
theorem mC_len (m : MS) (N : Int) : (mC m N).length = 193 := by simp [mC]
theorem mC_at {m : MS} {N : Int} {j : Nat} (h : j < 193) : (mC m N)[j]? = some (mCell m N j) := by simp [mC, h]
/-- One cell of them. -/
theorem mC_one {m : MS} {N : Int} {j o : Nat} {v : Value} (h : j < 193) (e : o = j) (hv : mCell m N j = v) : ∀ i u, [v][i]? = some u → (mC m N)[o + i]? = some u := by
  intro i u hu
  rcases i with _ | i
  · injection hu with hu
    subst hu
    subst e
    subst hv
    exact mC_at h
  · simp at hu
theorem cell_n {m : MS} {N : Int} {i : Nat} (h : i < 64) : mCell m N i = .int .i64 (m.n i) := if_pos h
theorem cell_su {m : MS} {N : Int} {i : Nat} (h : i < 64) : mCell m N (64 + i) = .bool (m.su i) := by
  unfold mCell
  rw [if_neg (by omega), if_pos (by omega), Nat.add_sub_cancel_left]
theorem cell_wa {m : MS} {N : Int} {i : Nat} (h : i < 64) : mCell m N (128 + i) = .bool (m.wa i) := by
  unfold mCell
  rw [if_neg (by omega), if_neg (by omega), if_pos (by omega), Nat.add_sub_cancel_left]
theorem cell_N {m : MS} {N : Int} : mCell m N 192 = .int .i64 N := rfl
def upd {α : Type} (f : Nat → α) (i : Nat) (v : α) : Nat → α := fun j => if j = i then v else f j
theorem lay_one {cs : List Value} {o : Nat} {v : Value} (h : o < cs.length) : lay cs o [v] = cs.set o v := by
  unfold lay
  rw [List.set_eq_take_append_cons_drop, if_pos h, List.append_assoc]
  rfl
theorem mC_set {m m' : MS} {N : Int} {o : Nat} {v : Value} (h : o < 193) (hv : mCell m' N o = v) (ho : ∀ j, j < 193 → j ≠ o → mCell m' N j = mCell m N j) : lay (mC m N) o [v] = mC m' N := by
  rw [lay_one (by rw [mC_len]; exact h)]
  refine List.ext_getElem? fun j => ?_
  rcases Nat.lt_or_ge j 193 with hj | hj
  · rw [mC_at hj]
    by_cases e : o = j
    · subst e
      rw [List.getElem?_set_self (by rw [mC_len]; exact h), hv]
    · rw [List.getElem?_set_ne e, mC_at hj, ho j hj (fun h => e h.symm)]
  · rw [List.getElem?_eq_none (by rw [List.length_set, mC_len]; exact hj), List.getElem?_eq_none (by rw [mC_len]; exact hj)]
theorem set_n {m : MS} {N : Int} {i o : Nat} (v : Int) (h : i < 64) (e : o = i) : lay (mC m N) o [.int .i64 v] = mC { m with n := upd m.n i v } N := by
  subst e
  refine mC_set (by omega) ?_ fun j hj hne => ?_
  · rw [cell_n h]; simp [upd]
  · unfold mCell upd
    simp only [if_neg hne]
theorem set_su {m : MS} {N : Int} {i o : Nat} (v : Bool) (h : i < 64) (e : o = 64 + i) : lay (mC m N) o [.bool v] = mC { m with su := upd m.su i v } N := by
  subst e
  refine mC_set (by omega) ?_ fun j hj hne => ?_
  · rw [cell_su h]; simp [upd]
  · unfold mCell upd
    by_cases h1 : j < 64
    · rw [if_pos h1, if_pos h1]
    · rw [if_neg h1, if_neg h1]
      by_cases h2 : j < 128
      · rw [if_pos h2, if_pos h2]
        simp only [if_neg (show ¬ j - 64 = i by omega)]
      · rw [if_neg h2, if_neg h2]
theorem set_wa {m : MS} {N : Int} {i o : Nat} (v : Bool) (h : i < 64) (e : o = 128 + i) : lay (mC m N) o [.bool v] = mC { m with wa := upd m.wa i v } N := by
  subst e
  refine mC_set (by omega) ?_ fun j hj hne => ?_
  · rw [cell_wa h]; simp [upd]
  · unfold mCell upd
    by_cases h0 : j < 64
    · rw [if_pos h0, if_pos h0]
    · rw [if_neg h0, if_neg h0]
      by_cases h1 : j < 128
      · rw [if_pos h1, if_pos h1]
      · rw [if_neg h1, if_neg h1]
        by_cases h2 : j < 192
        · rw [if_pos h2, if_pos h2]
          simp only [if_neg (show ¬ j - 128 = i by omega)]
        · rw [if_neg h2, if_neg h2]
theorem in_any (x N : Nat) (m : MS) (b : Int) (w : World) (hN : N ≤ 40) (hb0 : 0 ≤ b) (h : Rd1 w (blk x (mC m (N : Nat)) 137)) :
    Calls Try.prog 111 [.pointer (some ⟨x, 0, none⟩), .int .u32 b].toArray w fun e w' => e = .returned (.bool (tB (1 ≤ b ∧ b ≤ N))) ∧ Below w.heap.size w w' := by
  refine g_enter0 T [] [] [blk x (mC m (N : Nat)) 137] Try.func111 rfl Try.ntmps111 rfl (Rds.cons h .nil).kn ?_
  by_cases h1 : 1 ≤ b
  · (repeat' (first | (refine gG ?_; try intro _) | ((first | refine g_split rfl rfl tE (fun _ => ?_) (fun _ => ?_) | refine gk_cond rfl rfl tE (fun _ => ?_) (fun _ => ?_)) <;> (try first | (exfalso; omega; done) | (rename_i hx; exact absurd rfl hx) | (rename_i hx; cases hx; done)))))
    refine g_yd rfl rfl ((ys_load_cs (S := [blk x (mC m (N : Nat)) 137]) hT [.int .i64 (N : Int)] rfl rfl (.head _) (mC_one (j := 192) (by decide) rfl cell_N) rfl rfl).ydS sF) ?_
    (repeat (refine gG ?_; try intro _))
    refine gk_ret hT rfl rfl (.tmp rfl .nil) (fun w' hk => ?_)
    refine ⟨?_, hk.toBelow⟩
    rw [show tB (1 ≤ b ∧ b ≤ (N : Int)) = tB (b ≤ (N : Int)) from tB_congr ⟨fun h => h.2, fun h => ⟨h1, h⟩⟩]
    rfl
  · (repeat' (first | (refine gG ?_; try intro _) | ((first | refine g_split rfl rfl tE (fun _ => ?_) (fun _ => ?_) | refine gk_cond rfl rfl tE (fun _ => ?_) (fun _ => ?_)) <;> (try first | (exfalso; omega; done) | (rename_i hx; exact absurd rfl hx) | (rename_i hx; cases hx; done)))))
    refine gk_ret hT rfl rfl (.tmp rfl .nil) (fun w' hk => ?_)
    exact ⟨by rw [tB_false (fun h => h1 h.1)]; rfl, hk.toBelow⟩
/-- A number that is free. -/
def FreeN (m : MS) (j : Nat) : Prop := m.n j = 0 ∧ m.wa j = false
def TakeR (m : MS) (N : Nat) (m' : MS) (k : Nat) : Prop := (k = 0 ∧ m' = m ∧ ∀ j, 1 ≤ j → j ≤ N → ¬ FreeN m j) ∨ (1 ≤ k ∧ k ≤ N ∧ FreeN m k ∧ (∀ j, 1 ≤ j → j < k → ¬ FreeN m j) ∧ m' = { m with n := upd m.n k 1 })
theorem mtake_any (x N : Nat) (m : MS) (w : World) (hN : N ≤ 40) (h : Rd1 w (blk x (mC m (N : Nat)) 137)) :
    Calls Try.prog 114 [.pointer (some ⟨x, 0, none⟩)].toArray w (RetM (blk x (mC m (N : Nat)) 137) (fun r : MS × Nat => TakeR m N r.1 r.2) (fun r => .int .u32 (r.2 : Int)) (fun r => blk x (mC r.1 (N : Nat)) 137) w) := by
  refine g_enter0 T (finE (blk x (mC m (N : Nat)) 137) w) [blk x (mC m (N : Nat)) 137] [] Try.func114 rfl Try.ntmps114 rfl (Kn.startM h (fun b hb => (finE_mem h.2 b).2 hb) (fun ψ hψ => by cases hψ)) ?_
  (repeat (refine gG ?_; try intro _))
  refine gk_loop_sel (fun (q : Nat × Unit) => match q with | (i, z) => (1 ≤ i ∧ i ≤ N + 1 ∧ ∀ j, 1 ≤ j → j < i → ¬ FreeN m j)) (fun (q : Nat × Unit) => match q with | (i, z) => [(0, .pointer (some ⟨x, 0, none⟩)), (3, .int .i64 (i : Int))]) (fun (q : Nat × Unit) => match q with | (i, z) => [blk x (mC m (N : Nat)) 137]) (fun (q : Nat × Unit) => match q with | (i, z) => []) (fun (q : Nat × Unit) => match q with | (i, z) => N + 1 - i) (1, ()) rfl ⟨Nat.le_refl _, by omega, fun j h1 h2 => by omega⟩ (by repeat (first | exact trivial | refine ⟨rfl, ?_⟩)) sA sS ?_
  rintro ⟨i, z⟩ hI
  replace hI : (1 ≤ i ∧ i ≤ N + 1 ∧ ∀ j, 1 ≤ j → j < i → ¬ FreeN m j) := hI
  change GK _ _ [(0, .pointer (some ⟨x, 0, none⟩)), (3, .int .i64 (i : Int))] [blk x (mC m (N : Nat)) 137] []
  obtain ⟨hi1, hi, hno⟩ := hI
  (repeat (refine gG ?_; try intro _))
  by_cases hlt : i ≤ N
  · (repeat' (first | (refine gG ?_; try intro _) | ((first | refine g_split rfl rfl tE (fun _ => ?_) (fun _ => ?_) | refine gk_cond rfl rfl tE (fun _ => ?_) (fun _ => ?_)) <;> (try first | (exfalso; omega; done) | (rename_i hx; exact absurd rfl hx) | (rename_i hx; cases hx; done)))))
    refine g_yd rfl rfl ((ys_load_cs (S := [blk x (mC m (N : Nat)) 137]) hT [.int .i64 (m.n i)] rfl rfl (.head _) (mC_one (j := i) (by omega) (by omega) (cell_n (by omega))) rfl rfl).ydS sF) ?_
    by_cases h0 : m.n i = 0
    · (repeat' (first | (refine gG ?_; try intro _) | ((first | refine g_split rfl rfl tE (fun _ => ?_) (fun _ => ?_) | refine gk_cond rfl rfl tE (fun _ => ?_) (fun _ => ?_)) <;> (try first | (exfalso; omega; done) | (rename_i hx; exact absurd rfl hx) | (rename_i hx; cases hx; done)))))
      cases hw : m.wa i with
      | false =>
        refine g_yd rfl rfl ((ys_load_cs (S := [blk x (mC m (N : Nat)) 137]) hT [.bool false] rfl rfl (.head _) (mC_one (j := 128 + i) (by omega) (by omega) ((cell_wa (by omega)).trans (by rw [hw]))) rfl rfl).ydS sF) ?_
        (repeat (refine gG ?_; try intro _))
        refine g_mv rfl (mv_storeL hT rfl rfl rfl rfl rfl rfl (by first | ((repeat (first | with_reducible exact Upd.here _ | with_reducible apply Upd.there)); done) | ((repeat (first | exact Upd.here _ | apply Upd.there)); done) | fail) (by rw [mC_len]; show _ + 1 ≤ 193; omega) rfl ?_)
        rw [set_n 1 (i := i) (by omega) (by omega)]
        (repeat (refine gG ?_; try intro _))
        refine gk_ret hT rfl rfl (.tmp rfl .nil) (fun w' hk => ?_)
        exact RetM.mk (({ m with n := upd m.n i 1 }, i) : MS × Nat) (.inr ⟨hi1, hlt, ⟨h0, hw⟩, hno, rfl⟩) rfl hk (fun b hb => (finE_mem h.2 b).1 hb) mE
      | true =>
        refine g_yd rfl rfl ((ys_load_cs (S := [blk x (mC m (N : Nat)) 137]) hT [.bool true] rfl rfl (.head _) (mC_one (j := 128 + i) (by omega) (by omega) ((cell_wa (by omega)).trans (by rw [hw]))) rfl rfl).ydS sF) ?_
        have hI2 : 1 ≤ i + 1 ∧ i + 1 ≤ N + 1 ∧ ∀ j, 1 ≤ j → j < i + 1 → ¬ FreeN m j := ⟨by omega, by omega, fun j h1 h2 h3 => by
          by_cases e : j = i
          · subst e; rw [FreeN, hw] at h3; cases h3.2
          · exact hno j h1 (by omega) h3⟩
        (repeat (refine gG ?_; try intro _))
        refine gk_say 3 (.int .i64 ((i + 1 : Nat) : Int)) rfl (by first | (congr 1; done) | (congr 1; omega)) ?_
        refine gk_again_sel rfl (i + 1, ()) hI2 (by dsimp only; omega) (by repeat (first | exact trivial | refine ⟨rfl, ?_⟩)) sA sS
    · have hI2 : 1 ≤ i + 1 ∧ i + 1 ≤ N + 1 ∧ ∀ j, 1 ≤ j → j < i + 1 → ¬ FreeN m j := ⟨by omega, by omega, fun j h1 h2 h3 => by
        by_cases e : j = i
        · subst e; exact h0 h3.1
        · exact hno j h1 (by omega) h3⟩
      (repeat' (first | (refine gG ?_; try intro _) | ((first | refine g_split rfl rfl tE (fun _ => ?_) (fun _ => ?_) | refine gk_cond rfl rfl tE (fun _ => ?_) (fun _ => ?_)) <;> (try first | (exfalso; omega; done) | (rename_i hx; exact absurd rfl hx) | (rename_i hx; cases hx; done)))))
      refine gk_say 3 (.int .i64 ((i + 1 : Nat) : Int)) rfl (by first | (congr 1; done) | (congr 1; omega)) ?_
      refine gk_again_sel rfl (i + 1, ()) hI2 (by dsimp only; omega) (by repeat (first | exact trivial | refine ⟨rfl, ?_⟩)) sA sS
  · (repeat' (first | (refine gG ?_; try intro _) | ((first | refine g_split rfl rfl tE (fun _ => ?_) (fun _ => ?_) | refine gk_cond rfl rfl tE (fun _ => ?_) (fun _ => ?_)) <;> (try first | (exfalso; omega; done) | (rename_i hx; exact absurd rfl hx) | (rename_i hx; cases hx; done)))))
    refine gk_ret hT rfl rfl (.tmp rfl .nil) (fun w' hk => ?_)
    exact RetM.mk ((m, 0) : MS × Nat) (.inl ⟨rfl, rfl, fun j h1 h2 => hno j h1 (by omega)⟩) rfl hk (fun b hb => (finE_mem h.2 b).1 hb) mE
end Go.Proofs.Ytdkgmgfadpnhbaa.Al
namespace Go.Proofs.Ytdkgmgfadpnhbaa.Al
open Go.RowKit Mem Gx Gm KyU Dd Rf Hp
set_option linter.unusedVariables false
set_option linter.unusedSimpArgs false
set_option maxRecDepth 100000
set_option maxHeartbeats 4000000
theorem joinR {X : Cx} {ops rest : List Oper} {k : List KI} {ι : Type} (P : ι → Prop) (F : ι → Fr) (OO RR : ι → List Fact) {q : Prop} (r : Later (∀ i, P i → G X ops rest k (F i) (OO i) (RR i)) → q) (g : ∀ i, P i → G X ops rest k (F i) (OO i) (RR i)) : q := r ⟨g⟩
theorem eqU_same (A A' : Option Addr) (n c n' c' : Nat) (L : List Int) (w : World) (hn : n = L.length) (hn' : n' = L.length) (h9 : n ≤ 100000) (hs : Rd1 w (sl A 1 (IE .u32) L)) (hs' : Rd1 w (sl A' 1 (IE .u32) L)) :
    Calls Try.prog 38 [.slice A n c, .slice A' n' c'].toArray w fun e w' => e = .returned (.bool true) ∧ Below w.heap.size w w' := by
  refine g_enter0 T [] [] [sl A 1 (IE .u32) L, sl A' 1 (IE .u32) L] Try.func38 rfl Try.ntmps38 rfl (Rds.cons hs (.cons hs' .nil)).kn ?_
  (repeat' (first | (refine gG ?_; try intro _) | ((first | refine g_split rfl rfl tE (fun _ => ?_) (fun _ => ?_) | refine gk_cond rfl rfl tE (fun _ => ?_) (fun _ => ?_)) <;> (try first | (exfalso; omega; done) | (rename_i hx; exact absurd rfl hx) | (rename_i hx; cases hx; done)))))
  refine gk_loop_sel (fun (q : Nat × Unit) => match q with | (k, z) => (k ≤ n)) (fun (q : Nat × Unit) => match q with | (k, z) => [(0, .slice A n c), (1, .slice A' n' c'), (12, .int .i64 (n : Int)), (13, .int .i64 (k : Int))]) (fun (q : Nat × Unit) => match q with | (k, z) => []) (fun (q : Nat × Unit) => match q with | (k, z) => [sl A 1 (IE .u32) L, sl A' 1 (IE .u32) L]) (fun (q : Nat × Unit) => match q with | (k, z) => n - k) (0, ()) rfl (Nat.zero_le _) (by repeat (first | exact trivial | refine ⟨rfl, ?_⟩)) sA sS ?_
  rintro ⟨k, z⟩ hI
  replace hI : (k ≤ n) := hI
  change GK _ _ [(0, .slice A n c), (1, .slice A' n' c'), (12, .int .i64 (n : Int)), (13, .int .i64 (k : Int))] [] [sl A 1 (IE .u32) L, sl A' 1 (IE .u32) L]
  by_cases hlt : k < n
  · obtain ⟨x, hx⟩ : ∃ x, L[k]? = some x := ⟨L[k], List.getElem?_eq_getElem (by omega)⟩
    refine gk_elem (A := A) (enc := IE .u32) (L := L) k mE (by omega) (by decide) (fun b o y eA hy => ?_)
    refine gk_elem (A := A') (enc := IE .u32) (L := L) k mE (by omega) (by decide) (fun b' o' y' eA' hy' => ?_)
    subst eA
    subst eA'
    obtain rfl : x = y := by rw [hx] at hy; exact Option.some.inj hy
    obtain rfl : x = y' := by rw [hx] at hy'; exact Option.some.inj hy'
    (repeat' (first | (refine gG ?_; try intro _) | ((first | refine g_split rfl rfl tE (fun _ => ?_) (fun _ => ?_) | refine gk_cond rfl rfl tE (fun _ => ?_) (fun _ => ?_)) <;> (try first | (exfalso; omega; done) | (rename_i hx; exact absurd rfl hx) | (rename_i hx; cases hx; done)))))
    refine gk_any [0, 1, 2, 3] (Cut _ (fun _ : Unit => [(0, .slice (some ⟨b, o, none⟩) n c), (1, .slice (some ⟨b', o', none⟩) n' c'), (12, .int .i64 (n : Int)), (13, .int .i64 (k : Int)), (24, .bool false)]) (fun _ => []) (fun _ => [sl (some ⟨b, o, none⟩) 1 (IE .u32) L, sl (some ⟨b', o', none⟩) 1 (IE .u32) L])) rfl rfl (by kernel_rfl) ?_ (cut_k fun _ => ?_)
    · skip
      refine gb_take 0 rfl (by decide +kernel) rfl rfl (ys_ev (nw := true) hT rfl sI) sF ?_
      refine gb_take 1 rfl (by decide +kernel) rfl rfl (ys_ev (nw := true) hT rfl sI) sF ?_
      refine gb_take 2 rfl (by decide +kernel) rfl rfl (ys_ev (nw := true) hT rfl sI) sF ?_
      refine gb_take 3 rfl (by decide +kernel) rfl rfl (by first | exact ys_blk hT rfl rfl mE rfl rfl | exact ys_row hT rfl rfl mE rfl rfl | exact ys_row0 hT rfl rfl mE rfl rfl) sF ?_
      refine gb_take 4 rfl (by decide +kernel) rfl rfl (ys_ev (nw := true) hT rfl sI) sF ?_
      refine gb_take 5 rfl (by decide +kernel) rfl rfl (ys_ev (nw := true) hT rfl sI) sF ?_
      refine gb_take 6 rfl (by decide +kernel) rfl rfl (ys_ev (nw := true) hT rfl sI) sF ?_
      refine gb_take 7 rfl (by decide +kernel) rfl rfl (by first | exact ys_blk hT rfl rfl mE rfl rfl | exact ys_row hT rfl rfl mE rfl rfl | exact ys_row0 hT rfl rfl mE rfl rfl) sF ?_
      refine gb_take 8 rfl (by decide +kernel) rfl rfl (ys_ev (nw := true) hT rfl sI) sF ?_
      try (refine gb_say 24 (.bool false) rfl (congrArg Value.bool (tB_false (fun h => h rfl))) ?_)
      refine gb_nil (by decide +kernel) ?_
      exact ⟨(), (by repeat (first | exact trivial | refine ⟨rfl, ?_⟩)), sA, sS⟩
    · (repeat (refine gG ?_; try intro _))
      refine gk_say 13 (.int .i64 ((k + 1 : Nat) : Int)) rfl (by first | (congr 1; done) | (congr 1; omega)) ?_
      refine gk_again_sel rfl (k + 1, ()) (by omega) (by dsimp only; omega) (by repeat (first | exact trivial | refine ⟨rfl, ?_⟩)) sA sS
  · (repeat' (first | (refine gG ?_; try intro _) | ((first | refine g_split rfl rfl tE (fun _ => ?_) (fun _ => ?_) | refine gk_cond rfl rfl tE (fun _ => ?_) (fun _ => ?_)) <;> (try first | (exfalso; omega; done) | (rename_i hx; exact absurd rfl hx) | (rename_i hx; cases hx; done)))))
    refine gk_ret hT rfl rfl (.tmp rfl .nil) (fun w' hk => ?_)
    exact ⟨rfl, hk.toBelow⟩
theorem eqU_own (v : Value) (A' : Option Addr) (n' c' : Nat) (L : List Int) (w : World) (hn' : n' = L.length) (h9 : L.length ≤ 100000) (h : Rd1 w (own 0 87 1 v (IE .u32) L)) (hs' : Rd1 w (sl A' 1 (IE .u32) L)) :
    Calls Try.prog 38 [v, .slice A' n' c'].toArray w fun e w' => e = .returned (.bool true) ∧ Below w.heap.size w w' := by
  obtain ⟨A, c, rfl, _⟩ := own_rdv h
  exact eqU_same A A' L.length c n' c' L w rfl hn' h9 (SoU.rd_own h) hs'
/-- What is known of the blocks is what the Alloc says. -/
def MRel (m : MS) (N : Nat) (s : AlS) : Prop := ∀ i : Nat, 1 ≤ i → i ≤ N → m.n i = (s.l.count (i : Int) : Int) ∧ m.su i = decide ((i : Int) ∈ s.U) ∧ m.wa i = decide ((i : Int) ∈ s.L)
abbrev pH (s : AlS) : Int → Bool := fun b => decide (0 < s.l.count b)
abbrev pW (s : AlS) : Int → Bool := fun b => decide (b ∈ s.L)
theorem pickN_succ (k : Nat) (p : Int → Bool) : pickN (k + 1) p = pickN k p ++ (if p ((k + 1 : Nat) : Int) = true then [((k + 1 : Nat) : Int)] else []) := by
  unfold pickN
  rw [iota_succ, List.filter_append, show ((k + 1 : Nat) : Int) = (k : Int) + 1 from by omega]
  congr 1
  rw [List.filter_cons]
  rfl
theorem pickN_len (k : Nat) (p : Int → Bool) : (pickN k p).length ≤ k := Nat.le_trans (List.length_filter_le _ _) (by rw [iota_len]; exact Nat.le_refl _)
theorem mtold_any (x a N : Nat) (m : MS) (D : AlD) (s : AlS) (b : Int) (w : World) (hN : N ≤ 40) (hb0 : 0 ≤ b) (hb9 : b ≤ 4294967295) (hM : MRel m N s) (hI : AlI N D s) (h1 : Rd1 w (blk x (mC m (N : Nat)) 137)) (h2 : Rd1 w (alF a N D s)) :
    Calls Try.prog 63 [.pointer (some ⟨x, 0, none⟩), .pointer (some ⟨a, 0, none⟩), .int .u32 b].toArray w fun e w' => e = .returned (.bool true) ∧ Below w.heap.size w w' := by
  have hAI := hI
  have hlen := hI.p.len
  have hheld := hI.p.held
  have hwts := hI.p.waits
  have hwl : s.L.length = (pickN N (pW s)).length := hwts.length_eq
  have hhl : (setP s.l).length = (pickN N (pH s)).length := by rw [hheld]
  have hpl := pickN_len N (pH s)
  have hpw := pickN_len N (pW s)
  refine g_enter0 T [] [] [blk x (mC m (N : Nat)) 137, alF a N D s] Try.func63 rfl Try.ntmps63 rfl (Rds.cons h1 (.cons h2 .nil)).kn ?_
  (repeat (refine gG ?_; try intro _))
  refine gk_own 0 87 1 (IE .u32) ?_
  refine gk_own 0 87 1 (IE .u32) ?_
  refine gk_loop_sel (fun (q : Nat × Value × Value) => match q with | (k, v1, v2) => (k ≤ N)) (fun (q : Nat × Value × Value) => match q with | (k, v1, v2) => [(0, .pointer (some ⟨x, 0, none⟩)), (1, .pointer (some ⟨a, 0, none⟩)), (2, .int .u32 b), (7, v1), (8, v2), (9, .int .i64 ((k + 1 : Nat) : Int))]) (fun (q : Nat × Value × Value) => match q with | (k, v1, v2) => [own 0 87 1 v1 (IE .u32) (pickN k (pH s)), own 0 87 1 v2 (IE .u32) (pickN k (pW s))]) (fun (q : Nat × Value × Value) => match q with | (k, v1, v2) => [blk x (mC m (N : Nat)) 137, alF a N D s]) (fun (q : Nat × Value × Value) => match q with | (k, v1, v2) => N - k) (0, .slice none 0 0, .slice none 0 0) rfl (Nat.zero_le _) (by repeat (first | exact trivial | refine ⟨rfl, ?_⟩)) sA sS ?_
  rintro ⟨k, v1, v2⟩ hI
  replace hI : (k ≤ N) := hI
  change GK _ _ [(0, .pointer (some ⟨x, 0, none⟩)), (1, .pointer (some ⟨a, 0, none⟩)), (2, .int .u32 b), (7, v1), (8, v2), (9, .int .i64 ((k + 1 : Nat) : Int))] [own 0 87 1 v1 (IE .u32) (pickN k (pH s)), own 0 87 1 v2 (IE .u32) (pickN k (pW s))] [blk x (mC m (N : Nat)) 137, alF a N D s]
  (repeat (refine gG ?_; try intro _))
  refine g_yd rfl rfl ((ys_load_cs (S := [blk x (mC m (N : Nat)) 137]) hT [.int .i64 (N : Int)] rfl rfl (.head _) (mC_one (j := 192) (by decide) rfl cell_N) rfl rfl).ydS sF) ?_
  by_cases hlt : k < N
  · obtain ⟨m1, m2, m3⟩ := hM (k + 1) (by omega) (by omega)
    have hk1 := pickN_len k (pH s)
    have hk2 := pickN_len k (pW s)
    have e1 := pickN_succ k (pH s)
    have e2 := pickN_succ k (pW s)
    (repeat' (first | (refine gG ?_; try intro _) | ((first | refine g_split rfl rfl tE (fun _ => ?_) (fun _ => ?_) | refine gk_cond rfl rfl tE (fun _ => ?_) (fun _ => ?_)) <;> (try first | (exfalso; omega; done) | (rename_i hx; exact absurd rfl hx) | (rename_i hx; cases hx; done)))))
    refine g_yd rfl rfl ((ys_load_cs (S := [blk x (mC m (N : Nat)) 137]) hT [.int .i64 (s.l.count ((k + 1 : Nat) : Int) : Int)] rfl rfl (.head _) (mC_one (j := k + 1) (by omega) (by omega) ((cell_n (by omega)).trans (by rw [m1]))) rfl rfl).ydS sF) ?_
    apply joinR (fun q : Value => True) (fun q => [(0, .pointer (some ⟨x, 0, none⟩)), (1, .pointer (some ⟨a, 0, none⟩)), (2, .int .u32 b), (7, q), (8, v2), (9, .int .i64 ((k + 1 : Nat) : Int)), (35, .pointer (some ⟨x, 128 + (k + 1), none⟩))]) (fun q => [own 0 87 1 q (IE .u32) (pickN (k + 1) (pH s)), own 0 87 1 v2 (IE .u32) (pickN k (pW s))]) (fun _ => [blk x (mC m (N : Nat)) 137, alF a N D s])
    case r =>
      intro J
      by_cases hc : 0 < s.l.count ((k + 1 : Nat) : Int)
      · rw [if_pos (by simpa using hc)] at e1
        (repeat' (first | (refine gG ?_; try intro _) | ((first | refine g_split rfl rfl tE (fun _ => ?_) (fun _ => ?_) | refine gk_cond rfl rfl tE (fun _ => ?_) (fun _ => ?_)) <;> (try first | (exfalso; omega; done) | (rename_i hx; exact absurd rfl hx) | (rename_i hx; cases hx; done)))))
        refine g_mv rfl (mv_append (L := pickN k (pH s)) rfl [((k + 1 : Nat) : Int)] rfl rfl rfl rfl elt_U (by intro _; first | ((repeat (first | with_reducible exact Upd.here _ | with_reducible apply Upd.there)); done) | ((repeat (first | exact Upd.here _ | apply Upd.there)); done) | fail) (src_blk mE rfl) rfl oneU (by simp only [maxLen, List.length_append, List.length_cons, List.length_nil]; omega) (by simp only [List.length_append, List.length_cons, List.length_nil]; omega) (Nat.zero_le _) (fun v3 => ?_))
        rw [← e1]
        (repeat (refine gG ?_; try intro _))
        refine g_say 35 (.pointer (some ⟨x, 128 + (k + 1), none⟩)) rfl (by congr 3; omega) ?_
        have hJ := J.out v3 trivial
        try dsimp only at hJ
        refine g_wk (by repeat (first | exact trivial | refine ⟨rfl, ?_⟩)) sA sS hJ
      · rw [if_neg (by simpa using hc), List.append_nil] at e1
        (repeat' (first | (refine gG ?_; try intro _) | ((first | refine g_split rfl rfl tE (fun _ => ?_) (fun _ => ?_) | refine gk_cond rfl rfl tE (fun _ => ?_) (fun _ => ?_)) <;> (try first | (exfalso; omega; done) | (rename_i hx; exact absurd rfl hx) | (rename_i hx; cases hx; done)))))
        refine g_say 35 (.pointer (some ⟨x, 128 + (k + 1), none⟩)) rfl (by congr 3; omega) ?_
        rw [← e1]
        have hJ := J.out v1 trivial
        try dsimp only at hJ
        refine g_wk (by repeat (first | exact trivial | refine ⟨rfl, ?_⟩)) sA sS hJ
    case g =>
    intro v1' _
    dsimp only
    cases hw : (pW s) ((k + 1 : Nat) : Int) with
    | true =>
      rw [if_pos hw] at e2
      refine g_yd rfl rfl ((ys_load_cs (S := [blk x (mC m (N : Nat)) 137]) hT [.bool true] rfl rfl (.head _) (mC_one (j := 128 + (k + 1)) (by omega) (by omega) ((cell_wa (by omega)).trans (by rw [m3]; exact congrArg Value.bool hw))) rfl rfl).ydS sF) ?_
      (repeat (refine gG ?_; try intro _))
      refine g_mv rfl (mv_append (L := pickN k (pW s)) rfl [((k + 1 : Nat) : Int)] rfl rfl rfl rfl elt_U (by intro _; first | ((repeat (first | with_reducible exact Upd.here _ | with_reducible apply Upd.there)); done) | ((repeat (first | exact Upd.here _ | apply Upd.there)); done) | fail) (src_blk mE rfl) rfl oneU (by simp only [maxLen, List.length_append, List.length_cons, List.length_nil]; omega) (by simp only [List.length_append, List.length_cons, List.length_nil]; omega) (Nat.zero_le _) (fun v3 => ?_))
      rw [← e2]
      (repeat (refine gG ?_; try intro _))
      refine gk_say 9 (.int .i64 ((k + 1 + 1 : Nat) : Int)) rfl (by first | (congr 1; done) | (congr 1; omega)) ?_
      refine gk_again_sel rfl (k + 1, v1', v3) (by omega) (by dsimp only; omega) (by repeat (first | exact trivial | refine ⟨rfl, ?_⟩)) sA sS
    | false =>
      rw [if_neg (by rw [hw]; decide), List.append_nil] at e2
      refine g_yd rfl rfl ((ys_load_cs (S := [blk x (mC m (N : Nat)) 137]) hT [.bool false] rfl rfl (.head _) (mC_one (j := 128 + (k + 1)) (by omega) (by omega) ((cell_wa (by omega)).trans (by rw [m3]; exact congrArg Value.bool hw))) rfl rfl).ydS sF) ?_
      rw [← e2]
      (repeat (refine gG ?_; try intro _))
      refine gk_say 9 (.int .i64 ((k + 1 + 1 : Nat) : Int)) rfl (by first | (congr 1; done) | (congr 1; omega)) ?_
      refine gk_again_sel rfl (k + 1, v1', v2) (by omega) (by dsimp only; omega) (by repeat (first | exact trivial | refine ⟨rfl, ?_⟩)) sA sS
  obtain rfl : k = N := by omega
  (repeat' (first | (refine gG ?_; try intro _) | ((first | refine g_split rfl rfl tE (fun _ => ?_) (fun _ => ?_) | refine gk_cond rfl rfl tE (fun _ => ?_) (fun _ => ?_)) <;> (try first | (exfalso; omega; done) | (rename_i hx; exact absurd rfl hx) | (rename_i hx; cases hx; done)))))
  refine g_mv rfl ?_; refine mv_call_bel (fun w hk => in_any x k m b w hN hb0 (hk.rR (φ := blk x (mC m (k : Nat)) 137) mE)) rfl rfl rfl rfl rfl (by kernel_rfl) ?_
  (repeat (refine gG ?_; try intro _))
  by_cases hin : 1 ≤ b ∧ b ≤ (k : Int)
  · obtain ⟨B, rfl⟩ : ∃ B : Nat, b = (B : Int) := ⟨b.toNat, by omega⟩
    obtain ⟨m1, _, _⟩ := hM B (by omega) (by omega)
    refine gk_cond_t rfl (congrArg some (congrArg Value.bool (tB_true hin))) ?_
    (repeat (refine gG ?_; try intro _))
    refine g_yd rfl rfl ((ys_load_cs (S := [blk x (mC m (k : Nat)) 137]) hT [.int .i64 (s.l.count (B : Int) : Int)] rfl rfl (.head _) (mC_one (j := B) (by omega) (by omega) ((cell_n (by omega)).trans (by rw [m1]))) rfl rfl).ydS sF) ?_
    (repeat (refine gG ?_; try intro _))
    refine gk_freeze _ (by intro _; first | ((repeat (first | with_reducible exact Upd.here _ | with_reducible apply Upd.there)); done) | ((repeat (first | exact Upd.here _ | apply Upd.there)); done) | fail) (fun A1 c1 hA1 hA11 hA12 hA13 => ?_); subst hA1
    refine gk_freeze _ (by intro _; first | ((repeat (first | with_reducible exact Upd.here _ | with_reducible apply Upd.there)); done) | ((repeat (first | exact Upd.here _ | apply Upd.there)); done) | fail) (fun A2 c2 hA2 hA21 hA22 hA23 => ?_); subst hA2
    refine gk_share (φ := sl A1 1 (IE .u32) (pickN k (pH s))) (by repeat (first | with_reducible exact Sel.here | with_reducible apply Sel.there)) ?_
    refine gk_share (φ := sl A2 1 (IE .u32) (pickN k (pW s))) (by repeat (first | with_reducible exact Sel.here | with_reducible apply Sel.there)) ?_
    refine gk_any [0, 1, 2, 3] (Cut _ (fun _ : Unit => [(6, .bool true)]) (fun _ => []) (fun _ => [])) rfl rfl (by kernel_rfl) ?_ (cut_k fun _ => ?_)
    · skip
      refine gb_take 0 rfl (by decide +kernel) rfl rfl (ys_ev (nw := true) hT rfl sI) sF ?_
      refine gb_take 2 rfl (by decide +kernel) rfl rfl (ys_ev (nw := true) hT rfl sI) sF ?_
      refine gb_take 3 rfl (by decide +kernel) rfl rfl (ys_ev (nw := true) hT rfl sI) sF ?_
      refine gb_take 4 rfl (by decide +kernel) rfl rfl (ys_ev (nw := true) hT rfl sI) sF ?_
      refine gb_take 5 rfl (by decide +kernel) rfl rfl (ys_load_cs hT [.int .i64 (k : Int)] rfl rfl mE (mC_one (j := 192) (by decide) rfl cell_N) rfl rfl) sF ?_
      refine gb_only 1 (by decide +kernel) rfl rfl ?_
      refine mv_call_bel (fun w hk => alen_any a k D s w (hk.rR (φ := alF a k D s) mE)) rfl rfl rfl rfl rfl (by kernel_rfl) ?_
      refine ⟨sF, ?_⟩
      refine gb_take 6 rfl (by decide +kernel) rfl rfl (ys_ev (nw := true) hT rfl sI) sF ?_
      try (refine gb_say 57 (.bool true) rfl (congrArg Value.bool (tB_true rfl)) ?_)
      refine gb_take 7 rfl (by decide +kernel) rfl rfl (ys_ev (nw := true) hT rfl sI) sF ?_
      first | refine gb_take 8 rfl (by decide +kernel) rfl rfl (ys_ev (nw := true) hT rfl sI) sF ?_ | refine gb_skip 8 rfl (by decide +kernel) rfl rfl sF ?_
      first | refine gb_take 10 rfl (by decide +kernel) rfl rfl (ys_ev (nw := true) hT rfl sI) sF ?_ | refine gb_skip 10 rfl (by decide +kernel) rfl rfl sF ?_
      first | refine gb_take 11 rfl (by decide +kernel) rfl rfl (ys_ev (nw := true) hT rfl sI) sF ?_ | refine gb_skip 11 rfl (by decide +kernel) rfl rfl sF ?_
      first | refine gb_take 12 rfl (by decide +kernel) rfl rfl (ys_ev (nw := true) hT rfl sI) sF ?_ | refine gb_skip 12 rfl (by decide +kernel) rfl rfl sF ?_
      first | refine gb_take 13 rfl (by decide +kernel) rfl rfl (ys_load_cs hT [.int .i64 (k : Int)] rfl rfl mE (mC_one (j := 192) (by decide) rfl cell_N) rfl rfl) sF ?_ | refine gb_skip 13 rfl (by decide +kernel) rfl rfl sF ?_
      first | refine gb_take 14 rfl (by decide +kernel) rfl rfl (ys_ev (nw := true) hT rfl sI) sF ?_ | refine gb_skip 14 rfl (by decide +kernel) rfl rfl sF ?_
      first | refine gb_take 15 rfl (by decide +kernel) rfl rfl (ys_ev (nw := true) hT rfl sI) sF ?_ | refine gb_skip 15 rfl (by decide +kernel) rfl rfl sF ?_
      first | refine gb_take 16 rfl (by decide +kernel) rfl rfl (ys_ev (nw := true) hT rfl sI) sF ?_ | refine gb_skip 16 rfl (by decide +kernel) rfl rfl sF ?_
      first | refine gb_take 17 rfl (by decide +kernel) rfl rfl (ys_ev (nw := true) hT rfl sI) sF ?_ | refine gb_skip 17 rfl (by decide +kernel) rfl rfl sF ?_
      first | refine gb_take 18 rfl (by decide +kernel) rfl rfl (ys_ev (nw := true) hT rfl sI) sF ?_ | refine gb_skip 18 rfl (by decide +kernel) rfl rfl sF ?_
      first | refine gb_take 19 rfl (by decide +kernel) rfl rfl (ys_ev (nw := true) hT rfl sI) sF ?_ | refine gb_skip 19 rfl (by decide +kernel) rfl rfl sF ?_
      first | refine gb_skip 9 rfl (by decide +kernel) rfl rfl sF ?_ | (refine gb_only 9 (by decide +kernel) rfl rfl ?_; (refine mv_call_bel (fun w hk => afree_any a k D s w hAI (hk.rR (φ := alF a k D s) mE)) rfl rfl rfl rfl rfl (by kernel_rfl) ?_); refine ⟨sF, ?_⟩)
      first | refine gb_take 20 rfl (by decide +kernel) rfl rfl (ys_ev (nw := true) hT rfl sI) sF ?_ | refine gb_skip 20 rfl (by decide +kernel) rfl rfl sF ?_
      try (refine gb_say 71 (.bool true) rfl (congrArg Value.bool (tB_true (by omega))) ?_)
      refine gb_take 21 rfl (by decide +kernel) rfl rfl (ys_ev (nw := true) hT rfl sI) sF ?_
      refine gb_take 22 rfl (by decide +kernel) rfl rfl (ys_ev (nw := true) hT rfl sI) sF ?_
      first | refine gb_take 23 rfl (by decide +kernel) rfl rfl (ys_ev (nw := true) hT rfl sI) sF ?_ | refine gb_skip 23 rfl (by decide +kernel) rfl rfl sF ?_
      first | refine gb_take 25 rfl (by decide +kernel) rfl rfl (ys_ev (nw := true) hT rfl sI) sF ?_ | refine gb_skip 25 rfl (by decide +kernel) rfl rfl sF ?_
      first | refine gb_take 26 rfl (by decide +kernel) rfl rfl (ys_ev (nw := true) hT rfl sI) sF ?_ | refine gb_skip 26 rfl (by decide +kernel) rfl rfl sF ?_
      first | refine gb_skip 24 rfl (by decide +kernel) rfl rfl sF ?_ | (refine gb_only 24 (by decide +kernel) rfl rfl ?_; (refine mv_call_bel (fun w hk => alate_any a k D s w (hk.rR (φ := alF a k D s) mE)) rfl rfl rfl rfl rfl (by kernel_rfl) ?_); refine ⟨sF, ?_⟩)
      first | refine gb_take 27 rfl (by decide +kernel) rfl rfl (ys_ev (nw := true) hT rfl sI) sF ?_ | refine gb_skip 27 rfl (by decide +kernel) rfl rfl sF ?_
      try (refine gb_say 78 (.bool true) rfl (congrArg Value.bool (tB_true (by omega))) ?_)
      refine gb_take 28 rfl (by decide +kernel) rfl rfl (ys_ev (nw := true) hT rfl sI) sF ?_
      refine gb_take 29 rfl (by decide +kernel) rfl rfl (ys_ev (nw := true) hT rfl sI) sF ?_
      first | refine gb_take 30 rfl (by decide +kernel) rfl rfl (ys_ev (nw := true) hT rfl sI) sF ?_ | refine gb_skip 30 rfl (by decide +kernel) rfl rfl sF ?_
      first | refine gb_take 31 rfl (by decide +kernel) rfl rfl (ys_ev (nw := true) hT rfl sI) sF ?_ | refine gb_skip 31 rfl (by decide +kernel) rfl rfl sF ?_
      first | refine gb_take 33 rfl (by decide +kernel) rfl rfl (ys_ev (nw := true) hT rfl sI) sF ?_ | refine gb_skip 33 rfl (by decide +kernel) rfl rfl sF ?_
      first | refine gb_skip 32 rfl (by decide +kernel) rfl rfl sF ?_ | (refine gb_only 32 (by decide +kernel) rfl rfl ?_; (refine mv_call_bel (fun w hk => acount_any a k D s (B : Int) w hAI (hk.rR (φ := alF a k D s) mE)) rfl rfl rfl rfl rfl (by kernel_rfl) ?_); refine ⟨sF, ?_⟩)
      first | refine gb_take 34 rfl (by decide +kernel) rfl rfl (ys_ev (nw := true) hT rfl sI) sF ?_ | refine gb_skip 34 rfl (by decide +kernel) rfl rfl sF ?_
      try (refine gb_say 85 (.bool true) rfl (congrArg Value.bool (tB_true rfl)) ?_)
      refine gb_take 35 rfl (by decide +kernel) rfl rfl (ys_ev (nw := true) hT rfl sI) sF ?_
      refine gb_take 36 rfl (by decide +kernel) rfl rfl (ys_ev (nw := true) hT rfl sI) sF ?_
      first | refine gb_take 37 rfl (by decide +kernel) rfl rfl (ys_ev (nw := true) hT rfl sI) sF ?_ | refine gb_skip 37 rfl (by decide +kernel) rfl rfl sF ?_
      first | refine gb_take 39 rfl (by decide +kernel) rfl rfl (ys_ev (nw := true) hT rfl sI) sF ?_ | refine gb_skip 39 rfl (by decide +kernel) rfl rfl sF ?_
      first | refine gb_skip 38 rfl (by decide +kernel) rfl rfl sF ?_ | (refine gb_only 38 (by decide +kernel) rfl rfl ?_; ((refine mv_call_rt (fun w hk => by have h3 := aheld_any a k D s w hAI (hk.rR (φ := alF a k D s) mE); rw [hheld] at h3; exact h3) rfl rfl rfl rfl rfl (by kernel_rfl) (fun _ => rfl) ?_; intro v5 _)); refine ⟨sF, ?_⟩)
      first | refine gb_skip 40 rfl (by decide +kernel) rfl rfl sF ?_ | (refine gb_only 40 (by decide +kernel) rfl rfl ?_; (refine mv_call_bel (fun w hk => eqU_own v5 A1 _ c1 (pickN k (pH s)) w rfl (by omega) (hk.rO (φ := own 0 87 1 v5 (IE .u32) (pickN k (pH s))) mE) (hk.rR (φ := sl A1 1 (IE .u32) (pickN k (pH s))) mE)) rfl rfl rfl rfl rfl (by kernel_rfl) ?_); refine ⟨sF, ?_⟩)
      refine gb_take 41 rfl (by decide +kernel) rfl rfl (ys_ev (nw := true) hT rfl sI) sF ?_
      refine gb_take 42 rfl (by decide +kernel) rfl rfl (ys_ev (nw := true) hT rfl sI) sF ?_
      first | refine gb_take 43 rfl (by decide +kernel) rfl rfl (ys_ev (nw := true) hT rfl sI) sF ?_ | refine gb_skip 43 rfl (by decide +kernel) rfl rfl sF ?_
      first | refine gb_take 45 rfl (by decide +kernel) rfl rfl (ys_ev (nw := true) hT rfl sI) sF ?_ | refine gb_skip 45 rfl (by decide +kernel) rfl rfl sF ?_
      first | refine gb_skip 44 rfl (by decide +kernel) rfl rfl sF ?_ | (refine gb_only 44 (by decide +kernel) rfl rfl ?_; ((refine mv_call_rt (fun w hk => awaits_any a k D s w (by omega) hAI (hk.rR (φ := alF a k D s) mE)) rfl rfl rfl rfl rfl (by kernel_rfl) (fun _ => rfl) ?_; intro v6 _)); refine ⟨sF, ?_⟩)
      first | refine gb_skip 46 rfl (by decide +kernel) rfl rfl sF ?_ | (refine gb_only 46 (by decide +kernel) rfl rfl ?_; (refine mv_call_bel (fun w hk => eqU_own v6 A2 _ c2 (pickN k (pW s)) w rfl (by omega) (hk.rO (φ := own 0 87 1 v6 (IE .u32) (pickN k (pW s))) mE) (hk.rR (φ := sl A2 1 (IE .u32) (pickN k (pW s))) mE)) rfl rfl rfl rfl rfl (by kernel_rfl) ?_); refine ⟨sF, ?_⟩)
      refine gb_take 47 rfl (by decide +kernel) rfl rfl (ys_ev (nw := true) hT rfl sI) sF ?_
      refine gb_take 48 rfl (by decide +kernel) rfl rfl (ys_ev (nw := true) hT rfl sI) sF ?_
      first | refine gb_take 49 rfl (by decide +kernel) rfl rfl (ys_ev (nw := true) hT rfl sI) sF ?_ | refine gb_skip 49 rfl (by decide +kernel) rfl rfl sF ?_
      first | refine gb_skip 50 rfl (by decide +kernel) rfl rfl sF ?_ | (refine gb_only 50 (by decide +kernel) rfl rfl ?_; (refine mv_call_bel (fun w hk => asound_any a k D s w (by omega) hAI (hk.rR (φ := alF a k D s) mE)) rfl rfl rfl rfl rfl (by kernel_rfl) ?_); refine ⟨sF, ?_⟩)
      refine gb_take 51 rfl (by decide +kernel) rfl rfl (ys_ev (nw := true) hT rfl sI) sF ?_
      refine gb_take 52 rfl (by decide +kernel) rfl rfl (ys_ev (nw := true) hT rfl sI) sF ?_
      refine gb_nil (by decide +kernel) ?_
      exact ⟨(), (by repeat (first | exact trivial | refine ⟨rfl, ?_⟩)), sA, sS⟩
    · (repeat (refine gG ?_; try intro _))
      refine gk_ret hT rfl rfl (.tmp rfl .nil) (fun w' hk => ?_)
      exact ⟨rfl, hk.toBelow⟩
  · have h0 : s.l.count b = 0 := List.count_eq_zero.2 fun h => hin (hAI.p.pos (.inr (.inl h)))
    refine gk_cond_f rfl (congrArg some (congrArg Value.bool (tB_false hin))) ?_
    refine gk_say 10 (.int .i64 (s.l.count b : Int)) rfl (by rw [h0]; rfl) ?_
    (repeat (refine gG ?_; try intro _))
    refine gk_freeze _ (by intro _; first | ((repeat (first | with_reducible exact Upd.here _ | with_reducible apply Upd.there)); done) | ((repeat (first | exact Upd.here _ | apply Upd.there)); done) | fail) (fun A1 c1 hA1 hA11 hA12 hA13 => ?_); subst hA1
    refine gk_freeze _ (by intro _; first | ((repeat (first | with_reducible exact Upd.here _ | with_reducible apply Upd.there)); done) | ((repeat (first | exact Upd.here _ | apply Upd.there)); done) | fail) (fun A2 c2 hA2 hA21 hA22 hA23 => ?_); subst hA2
    refine gk_share (φ := sl A1 1 (IE .u32) (pickN k (pH s))) (by repeat (first | with_reducible exact Sel.here | with_reducible apply Sel.there)) ?_
    refine gk_share (φ := sl A2 1 (IE .u32) (pickN k (pW s))) (by repeat (first | with_reducible exact Sel.here | with_reducible apply Sel.there)) ?_
    refine gk_any [0, 1, 2, 3] (Cut _ (fun _ : Unit => [(6, .bool true)]) (fun _ => []) (fun _ => [])) rfl rfl (by kernel_rfl) ?_ (cut_k fun _ => ?_)
    · skip
      refine gb_take 0 rfl (by decide +kernel) rfl rfl (ys_ev (nw := true) hT rfl sI) sF ?_
      refine gb_take 2 rfl (by decide +kernel) rfl rfl (ys_ev (nw := true) hT rfl sI) sF ?_
      refine gb_take 3 rfl (by decide +kernel) rfl rfl (ys_ev (nw := true) hT rfl sI) sF ?_
      refine gb_take 4 rfl (by decide +kernel) rfl rfl (ys_ev (nw := true) hT rfl sI) sF ?_
      refine gb_take 5 rfl (by decide +kernel) rfl rfl (ys_load_cs hT [.int .i64 (k : Int)] rfl rfl mE (mC_one (j := 192) (by decide) rfl cell_N) rfl rfl) sF ?_
      refine gb_only 1 (by decide +kernel) rfl rfl ?_
      refine mv_call_bel (fun w hk => alen_any a k D s w (hk.rR (φ := alF a k D s) mE)) rfl rfl rfl rfl rfl (by kernel_rfl) ?_
      refine ⟨sF, ?_⟩
      refine gb_take 6 rfl (by decide +kernel) rfl rfl (ys_ev (nw := true) hT rfl sI) sF ?_
      try (refine gb_say 57 (.bool true) rfl (congrArg Value.bool (tB_true rfl)) ?_)
      refine gb_take 7 rfl (by decide +kernel) rfl rfl (ys_ev (nw := true) hT rfl sI) sF ?_
      first | refine gb_take 8 rfl (by decide +kernel) rfl rfl (ys_ev (nw := true) hT rfl sI) sF ?_ | refine gb_skip 8 rfl (by decide +kernel) rfl rfl sF ?_
      first | refine gb_take 10 rfl (by decide +kernel) rfl rfl (ys_ev (nw := true) hT rfl sI) sF ?_ | refine gb_skip 10 rfl (by decide +kernel) rfl rfl sF ?_
      first | refine gb_take 11 rfl (by decide +kernel) rfl rfl (ys_ev (nw := true) hT rfl sI) sF ?_ | refine gb_skip 11 rfl (by decide +kernel) rfl rfl sF ?_
      first | refine gb_take 12 rfl (by decide +kernel) rfl rfl (ys_ev (nw := true) hT rfl sI) sF ?_ | refine gb_skip 12 rfl (by decide +kernel) rfl rfl sF ?_
      first | refine gb_take 13 rfl (by decide +kernel) rfl rfl (ys_load_cs hT [.int .i64 (k : Int)] rfl rfl mE (mC_one (j := 192) (by decide) rfl cell_N) rfl rfl) sF ?_ | refine gb_skip 13 rfl (by decide +kernel) rfl rfl sF ?_
      first | refine gb_take 14 rfl (by decide +kernel) rfl rfl (ys_ev (nw := true) hT rfl sI) sF ?_ | refine gb_skip 14 rfl (by decide +kernel) rfl rfl sF ?_
      first | refine gb_take 15 rfl (by decide +kernel) rfl rfl (ys_ev (nw := true) hT rfl sI) sF ?_ | refine gb_skip 15 rfl (by decide +kernel) rfl rfl sF ?_
      first | refine gb_take 16 rfl (by decide +kernel) rfl rfl (ys_ev (nw := true) hT rfl sI) sF ?_ | refine gb_skip 16 rfl (by decide +kernel) rfl rfl sF ?_
      first | refine gb_take 17 rfl (by decide +kernel) rfl rfl (ys_ev (nw := true) hT rfl sI) sF ?_ | refine gb_skip 17 rfl (by decide +kernel) rfl rfl sF ?_
      first | refine gb_take 18 rfl (by decide +kernel) rfl rfl (ys_ev (nw := true) hT rfl sI) sF ?_ | refine gb_skip 18 rfl (by decide +kernel) rfl rfl sF ?_
      first | refine gb_take 19 rfl (by decide +kernel) rfl rfl (ys_ev (nw := true) hT rfl sI) sF ?_ | refine gb_skip 19 rfl (by decide +kernel) rfl rfl sF ?_
      first | refine gb_skip 9 rfl (by decide +kernel) rfl rfl sF ?_ | (refine gb_only 9 (by decide +kernel) rfl rfl ?_; (refine mv_call_bel (fun w hk => afree_any a k D s w hAI (hk.rR (φ := alF a k D s) mE)) rfl rfl rfl rfl rfl (by kernel_rfl) ?_); refine ⟨sF, ?_⟩)
      first | refine gb_take 20 rfl (by decide +kernel) rfl rfl (ys_ev (nw := true) hT rfl sI) sF ?_ | refine gb_skip 20 rfl (by decide +kernel) rfl rfl sF ?_
      try (refine gb_say 71 (.bool true) rfl (congrArg Value.bool (tB_true (by omega))) ?_)
      refine gb_take 21 rfl (by decide +kernel) rfl rfl (ys_ev (nw := true) hT rfl sI) sF ?_
      refine gb_take 22 rfl (by decide +kernel) rfl rfl (ys_ev (nw := true) hT rfl sI) sF ?_
      first | refine gb_take 23 rfl (by decide +kernel) rfl rfl (ys_ev (nw := true) hT rfl sI) sF ?_ | refine gb_skip 23 rfl (by decide +kernel) rfl rfl sF ?_
      first | refine gb_take 25 rfl (by decide +kernel) rfl rfl (ys_ev (nw := true) hT rfl sI) sF ?_ | refine gb_skip 25 rfl (by decide +kernel) rfl rfl sF ?_
      first | refine gb_take 26 rfl (by decide +kernel) rfl rfl (ys_ev (nw := true) hT rfl sI) sF ?_ | refine gb_skip 26 rfl (by decide +kernel) rfl rfl sF ?_
      first | refine gb_skip 24 rfl (by decide +kernel) rfl rfl sF ?_ | (refine gb_only 24 (by decide +kernel) rfl rfl ?_; (refine mv_call_bel (fun w hk => alate_any a k D s w (hk.rR (φ := alF a k D s) mE)) rfl rfl rfl rfl rfl (by kernel_rfl) ?_); refine ⟨sF, ?_⟩)
      first | refine gb_take 27 rfl (by decide +kernel) rfl rfl (ys_ev (nw := true) hT rfl sI) sF ?_ | refine gb_skip 27 rfl (by decide +kernel) rfl rfl sF ?_
      try (refine gb_say 78 (.bool true) rfl (congrArg Value.bool (tB_true (by omega))) ?_)
      refine gb_take 28 rfl (by decide +kernel) rfl rfl (ys_ev (nw := true) hT rfl sI) sF ?_
      refine gb_take 29 rfl (by decide +kernel) rfl rfl (ys_ev (nw := true) hT rfl sI) sF ?_
      first | refine gb_take 30 rfl (by decide +kernel) rfl rfl (ys_ev (nw := true) hT rfl sI) sF ?_ | refine gb_skip 30 rfl (by decide +kernel) rfl rfl sF ?_
      first | refine gb_take 31 rfl (by decide +kernel) rfl rfl (ys_ev (nw := true) hT rfl sI) sF ?_ | refine gb_skip 31 rfl (by decide +kernel) rfl rfl sF ?_
      first | refine gb_take 33 rfl (by decide +kernel) rfl rfl (ys_ev (nw := true) hT rfl sI) sF ?_ | refine gb_skip 33 rfl (by decide +kernel) rfl rfl sF ?_
      first | refine gb_skip 32 rfl (by decide +kernel) rfl rfl sF ?_ | (refine gb_only 32 (by decide +kernel) rfl rfl ?_; (refine mv_call_bel (fun w hk => acount_any a k D s b w hAI (hk.rR (φ := alF a k D s) mE)) rfl rfl rfl rfl rfl (by kernel_rfl) ?_); refine ⟨sF, ?_⟩)
      first | refine gb_take 34 rfl (by decide +kernel) rfl rfl (ys_ev (nw := true) hT rfl sI) sF ?_ | refine gb_skip 34 rfl (by decide +kernel) rfl rfl sF ?_
      try (refine gb_say 85 (.bool true) rfl (congrArg Value.bool (tB_true rfl)) ?_)
      refine gb_take 35 rfl (by decide +kernel) rfl rfl (ys_ev (nw := true) hT rfl sI) sF ?_
      refine gb_take 36 rfl (by decide +kernel) rfl rfl (ys_ev (nw := true) hT rfl sI) sF ?_
      first | refine gb_take 37 rfl (by decide +kernel) rfl rfl (ys_ev (nw := true) hT rfl sI) sF ?_ | refine gb_skip 37 rfl (by decide +kernel) rfl rfl sF ?_
      first | refine gb_take 39 rfl (by decide +kernel) rfl rfl (ys_ev (nw := true) hT rfl sI) sF ?_ | refine gb_skip 39 rfl (by decide +kernel) rfl rfl sF ?_
      first | refine gb_skip 38 rfl (by decide +kernel) rfl rfl sF ?_ | (refine gb_only 38 (by decide +kernel) rfl rfl ?_; ((refine mv_call_rt (fun w hk => by have h3 := aheld_any a k D s w hAI (hk.rR (φ := alF a k D s) mE); rw [hheld] at h3; exact h3) rfl rfl rfl rfl rfl (by kernel_rfl) (fun _ => rfl) ?_; intro v5 _)); refine ⟨sF, ?_⟩)
      first | refine gb_skip 40 rfl (by decide +kernel) rfl rfl sF ?_ | (refine gb_only 40 (by decide +kernel) rfl rfl ?_; (refine mv_call_bel (fun w hk => eqU_own v5 A1 _ c1 (pickN k (pH s)) w rfl (by omega) (hk.rO (φ := own 0 87 1 v5 (IE .u32) (pickN k (pH s))) mE) (hk.rR (φ := sl A1 1 (IE .u32) (pickN k (pH s))) mE)) rfl rfl rfl rfl rfl (by kernel_rfl) ?_); refine ⟨sF, ?_⟩)
      refine gb_take 41 rfl (by decide +kernel) rfl rfl (ys_ev (nw := true) hT rfl sI) sF ?_
      refine gb_take 42 rfl (by decide +kernel) rfl rfl (ys_ev (nw := true) hT rfl sI) sF ?_
      first | refine gb_take 43 rfl (by decide +kernel) rfl rfl (ys_ev (nw := true) hT rfl sI) sF ?_ | refine gb_skip 43 rfl (by decide +kernel) rfl rfl sF ?_
      first | refine gb_take 45 rfl (by decide +kernel) rfl rfl (ys_ev (nw := true) hT rfl sI) sF ?_ | refine gb_skip 45 rfl (by decide +kernel) rfl rfl sF ?_
      first | refine gb_skip 44 rfl (by decide +kernel) rfl rfl sF ?_ | (refine gb_only 44 (by decide +kernel) rfl rfl ?_; ((refine mv_call_rt (fun w hk => awaits_any a k D s w (by omega) hAI (hk.rR (φ := alF a k D s) mE)) rfl rfl rfl rfl rfl (by kernel_rfl) (fun _ => rfl) ?_; intro v6 _)); refine ⟨sF, ?_⟩)
      first | refine gb_skip 46 rfl (by decide +kernel) rfl rfl sF ?_ | (refine gb_only 46 (by decide +kernel) rfl rfl ?_; (refine mv_call_bel (fun w hk => eqU_own v6 A2 _ c2 (pickN k (pW s)) w rfl (by omega) (hk.rO (φ := own 0 87 1 v6 (IE .u32) (pickN k (pW s))) mE) (hk.rR (φ := sl A2 1 (IE .u32) (pickN k (pW s))) mE)) rfl rfl rfl rfl rfl (by kernel_rfl) ?_); refine ⟨sF, ?_⟩)
      refine gb_take 47 rfl (by decide +kernel) rfl rfl (ys_ev (nw := true) hT rfl sI) sF ?_
      refine gb_take 48 rfl (by decide +kernel) rfl rfl (ys_ev (nw := true) hT rfl sI) sF ?_
      first | refine gb_take 49 rfl (by decide +kernel) rfl rfl (ys_ev (nw := true) hT rfl sI) sF ?_ | refine gb_skip 49 rfl (by decide +kernel) rfl rfl sF ?_
      first | refine gb_skip 50 rfl (by decide +kernel) rfl rfl sF ?_ | (refine gb_only 50 (by decide +kernel) rfl rfl ?_; (refine mv_call_bel (fun w hk => asound_any a k D s w (by omega) hAI (hk.rR (φ := alF a k D s) mE)) rfl rfl rfl rfl rfl (by kernel_rfl) ?_); refine ⟨sF, ?_⟩)
      refine gb_take 51 rfl (by decide +kernel) rfl rfl (ys_ev (nw := true) hT rfl sI) sF ?_
      refine gb_take 52 rfl (by decide +kernel) rfl rfl (ys_ev (nw := true) hT rfl sI) sF ?_
      refine gb_nil (by decide +kernel) ?_
      exact ⟨(), (by repeat (first | exact trivial | refine ⟨rfl, ?_⟩)), sA, sS⟩
    · (repeat (refine gG ?_; try intro _))
      refine gk_ret hT rfl rfl (.tmp rfl .nil) (fun w' hk => ?_)
      exact ⟨rfl, hk.toBelow⟩
end Go.Proofs.Ytdkgmgfadpnhbaa.Al

