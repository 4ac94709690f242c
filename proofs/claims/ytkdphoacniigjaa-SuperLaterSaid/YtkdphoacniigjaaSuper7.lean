/- What is put is read as it was; alive. -/
import Derived.Test.YtkdphoacniigjaaSuper6
import Derived.Test.YtkdphoacniigjaaSuper3
import Derived.Test.YtkdphoacniigjaaPage6
namespace Go.Proofs.Ytkdphoacniigjaa.Super
open Go.RowKit Mem Bytes Fix Reader Gx
set_option linter.unusedVariables false
set_option linter.unusedSimpArgs false
set_option maxRecDepth 100000
set_option maxHeartbeats 2000000
theorem blf_len (S : Nat → Int) (i : Nat) : (bdy S i).length = blf i := by
  induction i with
  | zero => rfl
  | succ i ih => show (bdy S i ++ le (S i) (szf i)).length = blf i + szf i; rw [List.length_append, ih, le_length]
theorem bdy_part (S : Nat → Int) (j : Nat) : ∀ i, i < j → ((bdy S j).drop (blf i)).take (szf i) = le (S i) (szf i) := by
  induction j with
  | zero => intro i hi; omega
  | succ j ih =>
    intro i hi
    show ((bdy S j ++ le (S j) (szf j)).drop (blf i)).take (szf i) = _
    by_cases e : i = j
    · subst e
      rw [List.drop_left' (blf_len S i), List.take_of_length_le (by rw [le_length]; exact Nat.le_refl _)]
    · have hm : blf (i + 1) ≤ blf j := blf_mono (i + 1) j (by omega)
      have he : blf (i + 1) = blf i + szf i := rfl
      rw [List.drop_append_of_le_length (by rw [blf_len]; omega), List.take_append_of_le_length (by rw [List.length_drop, blf_len]; omega)]
      exact ih i (by omega)
theorem bd_i {S : Nat → Int} (hb : BdS S) (hr : RightS S) (i : Nat) (hi : i < 13) : 0 ≤ S i ∧ S i < 256 ^ szf i := by
  obtain ⟨h0, h1, h2, h3, h4, h5, h6, h9, h10, h11, h12⟩ := hb
  obtain ⟨_, hr7, _⟩ := hr
  unfold RingP at hr7
  have p8 : ∀ j, szf j = 8 → 0 ≤ S j ∧ S j ≤ 18446744073709551615 → 0 ≤ S j ∧ S j < 256 ^ szf j := fun j h h' => by
    rw [h, show (256 : Int) ^ 8 = 18446744073709551616 by decide]; omega
  have p4 : ∀ j, szf j = 4 → 0 ≤ S j ∧ S j ≤ 4294967295 → 0 ≤ S j ∧ S j < 256 ^ szf j := fun j h h' => by
    rw [h, show (256 : Int) ^ 4 = 4294967296 by decide]; omega
  rcases (show i = 0 ∨ i = 1 ∨ i = 2 ∨ i = 3 ∨ i = 4 ∨ i = 5 ∨ i = 6 ∨ i = 7 ∨ i = 8 ∨ i = 9 ∨ i = 10 ∨ i = 11 ∨ i = 12 by omega) with rfl | rfl | rfl | rfl | rfl | rfl | rfl | rfl | rfl | rfl | rfl | rfl | rfl
  all_goals first | exact p8 _ rfl (by omega) | exact p4 _ rfl (by omega)
theorem ch_bdy {S : Nat → Int} (hb : BdS S) (hr : RightS S) (i : Nat) (hi : i < 13) : chV (bdy S 13) i = S i := by
  have hl : (bdy S 13).length = 84 := (bdy_len S).2.2.2.2.2.2.2.2.2.2.2.2.2
  rw [ch_val hl i hi, bdy_part S 13 i hi, num_le _ (bd_i hb hr i hi).1, Int.emod_eq_of_lt (bd_i hb hr i hi).1 (bd_i hb hr i hi).2]
theorem right_ch {S : Nat → Int} (hb : BdS S) (hr : RightS S) : RightS (chV (bdy S 13)) := by
  unfold RightS
  rw [ch_bdy hb hr 0 (by omega), ch_bdy hb hr 4 (by omega), ch_bdy hb hr 5 (by omega), ch_bdy hb hr 6 (by omega), ch_bdy hb hr 7 (by omega), ch_bdy hb hr 8 (by omega)]
  exact hr
theorem sup_page {S : Nat → Int} (hb : BdS S) (hr : RightS S) : supR (Page.ofR 1 (Page.getS (Page.page 1 (bdy S 13)))) = (chV (bdy S 13), 0) := by
  have hl : (bdy S 13).length = 84 := (bdy_len S).2.2.2.2.2.2.2.2.2.2.2.2.2
  rw [Page.getS_page (by omega) (by omega) (by omega)]
  unfold Page.ofR
  rw [if_neg (by simp), if_neg (by simp)]
  unfold supR
  rw [if_neg (by simp), if_neg (by rw [not_or]; exact ⟨by simpa using hl, by simpa using right_ch hb hr⟩)]
theorem sv_ch {S : Nat → Int} (hb : BdS S) (hr : RightS S) : SV (chV (bdy S 13)) = SV S := by
  unfold SV
  have h := fun i hi => ch_bdy hb hr i hi
  rw [h 0 (by omega), h 1 (by omega), h 2 (by omega), h 3 (by omega), h 4 (by omega), h 5 (by omega), h 6 (by omega), h 7 (by omega), h 8 (by omega), h 9 (by omega), h 10 (by omega), h 11 (by omega), h 12 (by omega)]
theorem supRes_out {w w' : World} {e : Ending} (S : Nat → Int) (code : Int) (h : SupRes w w' e (S, code)) : e = .returned (.tuple #[SV S, .int .i64 code]) ∧ Below w.heap.size w w' := h
/-- A sector that was put is read as it was. -/
theorem sget_put {S : Nat → Int} (hb : BdS S) (hr : RightS S) (A : Option Addr) (n c : Nat) (w : World) (hn : n = (Page.page 1 (bdy S 13)).length) (hc : n ≤ c) (h : BS w A (Page.page 1 (bdy S 13))) :
    Calls Try.prog 34 [.slice A n c].toArray w fun e w' => e = .returned (.tuple #[SV S, .int .i64 0]) ∧ Below w.heap.size w w' := by
  have hl : (bdy S 13).length = 84 := (bdy_len S).2.2.2.2.2.2.2.2.2.2.2.2.2
  have hp : (Page.page 1 (bdy S 13)).length = 128 := Page.page_length (by omega)
  refine (sget_any A n c _ w hn hc h (Page.page_isB (by omega) (by omega) (bdy_isB S 13)) (by omega)).mono ?_
  intro e w' h1
  rw [sup_page hb hr] at h1
  have h2 := supRes_out _ _ h1
  rw [sv_ch hb hr] at h2
  exact h2
end Go.Proofs.Ytkdphoacniigjaa.Super
