/- The reference's Keep; the chapter's example. -/
import Derived.Test.YtfdnpdolpfnlgaaTimes5
namespace Go.Proofs.Ytfdnpdolpfnlgaa.Times
open Go.RowKit Mem Marks
set_option linter.unusedVariables false
set_option linter.unusedSimpArgs false
/-- Is mark k kept, as far as the first j points tell? -/
def seenT (S P : Nat → Int) (fl : Int) (k : Nat) : Nat → Bool
  | 0 => decide (fl ≤ S k)
  | j + 1 => seenT S P fl k j || (P j == S k)
theorem seenT_iff (S P : Nat → Int) (fl : Int) (k m : Nat) : seenT S P fl k m = true ↔ fl ≤ S k ∨ ∃ j, j < m ∧ P j = S k := by
  induction m with
  | zero => simp [seenT]
  | succ m ih =>
    rw [seenT, Bool.or_eq_true, ih, beq_iff_eq]
    constructor
    · rintro ((h | ⟨j, h1, h2⟩) | h)
      · exact .inl h
      · exact .inr ⟨j, by omega, h2⟩
      · exact .inr ⟨m, by omega, h⟩
    · rintro (h | ⟨j, h1, h2⟩)
      · exact .inl (.inl h)
      · by_cases hj : j = m
        · subst hj; exact .inr h2
        · exact .inl (.inr ⟨j, by omega, h2⟩)
theorem seenT_true {S P : Nat → Int} {fl : Int} {k j : Nat} (h : seenT S P fl k j = true) : seenT S P fl k (j + 1) = true := by simp [seenT, h]
theorem seenT_hit {S P : Nat → Int} {fl : Int} {k j : Nat} (h : P j = S k) : seenT S P fl k (j + 1) = true := by simp [seenT, h]
theorem seenT_miss {S P : Nat → Int} {fl : Int} {k j : Nat} (h0 : seenT S P fl k j = false) (h : ¬ P j = S k) : seenT S P fl k (j + 1) = false := by simp [seenT, h, h0]

set_option maxRecDepth 100000 in
set_option maxHeartbeats 1000000 in
theorem rkeep_any (A A' : Option Addr) (n c m c' : Nat) (S N P : Nat → Int) (fl : Int) (f : Nat → Bool) (w : World) (hn : n ≤ 100) (hm : m ≤ 60) (h : Marks w A n S N) (h' : Points w A' m P) (hf : KeepP S P m fl f n) :
    Calls Try.prog 36 #[.slice A n c, .slice A' m c', .int .u64 fl] w fun e w' => ∃ v, e = .returned v ∧ Own w' w.heap.size 55 2 v (keptT f n).length (KF S N (keptT f n)) ∧ Below w.heap.size w w' := by
  obtain ⟨i0, hi, hz0, hz1, hz2⟩ := info_parts info_mark
  have H := Lib.hid h
  clear h
  have H' := Lib.hid h'
  clear h'
  have HF := Lib.hid hf
  clear hf
  go_enter Try.func36, Try.ntmps36
  go_wp2
  go_loopw [7, 8, 9, 10] (fun v i q r wr => ∃ k : Nat, k ≤ n ∧ i = .int .i64 k ∧ Below w.heap.size w wr ∧ Own wr w.heap.size 55 2 v (keptT f k).length (KF S N (keptT f k))) (fun _ i _ _ _ => n - (intOf i).toNat)
  case atStart => exact ⟨0, Nat.zero_le _, rfl, Below.refl _ _, Own.nil⟩
  case round =>
    obtain ⟨k, hk, rfl, hb, hown⟩ := hrel
    obtain ⟨wo, rfl⟩ : ∃ wo : World, wo = wr := ⟨_, rfl⟩
    have HO := Lib.hid hown
    clear hown
    by_cases hlt : k < n
    · obtain ⟨b, off, rfl, g1, g2, g3, gb⟩ := Marks.at_ (Arr.below H.out hb) k hlt
      clear g3
      have HK := Lib.hid ((seenT_iff S P fl k m).trans (HF.out k hlt).symm)
      obtain ⟨q0, hq0⟩ : ∃ q, q = decide (fl ≤ S k) := ⟨_, rfl⟩
      have HQ := Lib.hid hq0
      clear hq0
      go_wp2
      go_loopw [9, 10] (fun q i wr2 => ∃ j : Nat, j ≤ m ∧ i = .int .i64 j ∧ q = .bool (seenT S P fl k j) ∧ Below wo.heap.size wo wr2) (fun _ i _ => m - (intOf i).toNat)
      case atStart => exact ⟨0, Nat.zero_le _, rfl, rfl, Below.refl _ _⟩
      case round =>
        obtain ⟨j, hj, rfl, rfl, hb2⟩ := hrel
        have HBB := Lib.hid (bel_trans hb hb2)
        have g1' := keep_below hb2 _ _ g1
        have g2' := keep_below hb2 _ _ g2
        by_cases hjm : j < m
        · obtain ⟨b', off', rfl, p1, pb⟩ := Points.at_ (Arr.below H'.out HBB.out) j hjm
          rcases hs : seenT S P fl k j with _ | _
          · have HS := Lib.hid hs
            clear hs
            by_cases c1 : P j = S k
            · have d1 : (P j == S k) = true := by simp [c1]
              have HC := Lib.hid c1
              clear c1
              go_wp2
              go_quiet (fail)
              go_wp2
              go_roundw
              case rel => exact ⟨j + 1, by omega, by go_num, by rw [seenT_hit HC.out], (by repeat (first | assumption | exact Below.refl _ _ | refine bel_alloc ?_ _ | refine bel_drewN ?_ _ | refine bel_drew ?_ | refine bel_trans ?_ (by assumption)))⟩
              case measure => simp [intOf]; omega
            · have d1 : (P j == S k) = false := by simpa using c1
              have HC := Lib.hid c1
              clear c1
              go_wp2
              go_quiet (fail)
              go_wp2
              go_roundw
              case rel => exact ⟨j + 1, by omega, by go_num, by rw [seenT_miss HS.out (by simpa using HC.out)], (by repeat (first | assumption | exact Below.refl _ _ | refine bel_alloc ?_ _ | refine bel_drewN ?_ _ | refine bel_drew ?_ | refine bel_trans ?_ (by assumption)))⟩
              case measure => simp [intOf]; omega
          · have HS := Lib.hid hs
            clear hs
            go_wp2
            go_quiet (fail)
            go_wp2
            go_roundw
            case rel => exact ⟨j + 1, by omega, by go_num, by rw [seenT_true HS.out], (by repeat (first | assumption | exact Below.refl _ _ | refine bel_alloc ?_ _ | refine bel_drewN ?_ _ | refine bel_drew ?_ | refine bel_trans ?_ (by assumption)))⟩
            case measure => simp [intOf]; omega
        · obtain rfl : j = m := by omega
          have HO2 := Lib.hid (HO.out.below hb2)
          rcases hs : seenT S P fl k j with _ | _
          · have HS := Lib.hid hs
            clear hs
            have hfk : Hid (f k = false) := Lib.hid (by
              cases hx : f k with
              | false => rfl
              | true => rw [HK.out.2 hx] at HS; exact HS.out)
            go_wp2
            go_roundw
            case rel => exact ⟨k + 1, by omega, by go_num, HBB.out, by rw [keptT_no hfk.out]; exact HO2.out⟩
            case measure => simp [intOf]; omega
          · have hfk : Hid (f k = true) := Lib.hid (HK.out.1 hs)
            clear hs
            have HO1 := Lib.hid (HO2.out.alloc (.cells #[.int .u64 (S k), .int .u64 (N k)] 55))
            go_wp2_with (at_builtin; refine wpList_append_arr _ rfl (.tmp 44) (.tmp 49) 44 rfl w.heap.size 55 i0 (.agg #[.int .u64 0, .int .u64 0]) 2 16 Try.underlying44 hi hz0 hz1 hz2 rfl (by decide) _ _ _ rfl HO1.out _ 1 1 _ rfl (arr_new2 _ _ _ _ _ (by simp)) (fun i _ j _ => by split <;> rfl) (by have := keptT_le f k; unfold maxLen; omega) (by have := keptT_le f k; omega) (by have := HBB.out.size; simp; omega) ?_; intro v' w1 hown' hgrow _; have HB : Below w.heap.size w w1 := bel_own (bel_alloc HBB.out _) HO1.out hgrow; have HO' := Lib.hid hown'; clear hown' hgrow)
            go_roundw
            case rel => exact ⟨k + 1, by omega, by go_num, HB, by rw [keptT_yes hfk.out]; exact own_snoc HO'.out⟩
            case measure => simp [intOf]; omega
    · obtain rfl : k = n := by omega
      go_wp2
      go_ret
      exact ⟨_, rfl, HO.out, hb⟩
set_option maxRecDepth 100000 in
set_option maxHeartbeats 1000000 in
theorem alive_any (w : World) : Calls Try.prog 27 #[] w fun e w' => e = .returned (.bool true) ∧ Below w.heap.size w w' := by
  go_enter Try.func27, Try.ntmps27
  go_wp2_with fail
  refine (note_same _ 1 1 (fun _ => 4) (fun _ => 10) 5 _ (by omega) (fun h => by cases h) (by exact arr_new2 _ _ _ _ _ rfl) (by omega) (by decide)).mono ?_
  rintro e w1 ⟨v, rfl, ho, hb⟩
  obtain ⟨A, c, rfl, ha, _⟩ := ho.arr
  have HA : Hid (Marks w1 A 1 (fun _ => 5) (fun _ => 10)) := Lib.hid (Arr.congr ha (fun i hi j hj => by obtain rfl : i = 0 := by omega
                                                                                                        by_cases h : j = 0 <;> simp [MF, put, h]))
  have hb1 : Below w.heap.size w w1 := bel_trans (bel_alloc (Below.refl _ _) _) hb
  clear ho ha hb
  go_wp2_with fail
  refine (equal_true A _ 1 c 1 (fun _ => 5) (fun _ => 10) _ (by omega) (by exact Arr.below HA.out (bel_alloc (Below.refl _ _) _)) (by exact arr_new2 _ _ _ _ _ rfl)).mono ?_
  rintro e w2 ⟨rfl, hb2⟩
  have hb3 : Below w.heap.size w w2 := bel_trans (bel_alloc hb1 _) hb2
  clear hb1 hb2
  go_wp2
  go_ret
  exact ⟨rfl, hb3⟩
end Go.Proofs.Ytfdnpdolpfnlgaa.Times
