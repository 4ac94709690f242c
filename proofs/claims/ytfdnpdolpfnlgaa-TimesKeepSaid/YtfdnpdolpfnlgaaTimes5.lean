/- The reference's Note at any marks; both Keeps. -/
import Derived.Test.YtfdnpdolpfnlgaaTimes4
namespace Go.Proofs.Ytfdnpdolpfnlgaa.Times
open Go.RowKit Mem Marks
set_option linter.unusedVariables false
set_option linter.unusedSimpArgs false
theorem own_len {w : World} {base : Nat} {e : TypeId} {sz : Nat} {v : Value} {n m : Nat} {F : Nat → Nat → Value} (h : Own w base e sz v n F) (hm : n = m) : Own w base e sz v m F := hm ▸ h
theorem own_cut {w : World} {base : Nat} {e : TypeId} {sz g n cap m : Nat} {F : Nat → Nat → Value} (h : Own w base e sz (.slice (some ⟨g, 0, none⟩) n cap) n F) (hm : m ≤ n) : Own w base e sz (.slice (some ⟨g, 0, none⟩) m cap) m F := by
  rcases h.2 with ⟨h', _⟩ | ⟨g', cap', cur, h', hb, hg, hnc, hcm, hcs, htake⟩
  · simp at h'
  · simp only [Value.slice.injEq, Option.some.injEq, Addr.mk.injEq, and_true, true_and] at h'
    obtain ⟨rfl, rfl⟩ := h'
    refine ⟨flat_length _ _ _, .inr ⟨g, cap, cur, rfl, hb, hg, by omega, hcm, hcs, ?_⟩⟩
    have hmn : m * sz ≤ n * sz := Nat.mul_le_mul_right sz hm
    have : cur.toList.take (m * sz) = (cur.toList.take (n * sz)).take (m * sz) := by rw [List.take_take, Nat.min_eq_left hmn]
    rw [this, htake]
    apply List.ext_getElem?
    intro k
    by_cases hk : k < m * sz
    · rw [List.getElem?_take_of_lt hk, flat_get _ _ _ _ (by omega), flat_get _ _ _ _ hk]
    · rw [List.getElem?_eq_none (by rw [List.length_take, flat_length]; omega), List.getElem?_eq_none (by rw [flat_length]; omega)]

set_option maxRecDepth 100000 in
set_option maxHeartbeats 1000000 in
theorem rnote_arg (A : Option Addr) (n c : Nat) (S N : Nat → Int) (s t : Int) (w : World) (hn : n ≤ 1000) (h : Marks w A n S N) (h0 : 0 < n) (hc : s ≤ S (n - 1) ∨ (S (n - 1) < s ∧ t < N (n - 1))) :
    Calls Try.prog 33 #[.slice A n c, .int .u64 s, .int .u64 t] w fun e w' => e = .returned (.tuple #[.slice none 0 0, .int .i64 10]) ∧ Below w.heap.size w w' := by
  rcases hc with c1 | ⟨c1, c2⟩
  all_goals
    obtain ⟨i0, hi, hz0, hz1, hz2⟩ := info_parts info_mark
    have H := Lib.hid h
    clear h
    obtain ⟨b, off, rfl, g1, g2, g3, gb⟩ := Marks.at_ H.out (n - 1) (by omega)
    clear g3
    have H0 := Lib.hid h0
    go_enter Try.func33, Try.ntmps33
    go_wp2_with (at_builtin; refine wpList_append_arr _ rfl (.tmp 12) (.tmp 13) 44 rfl w.heap.size 55 i0 (.agg #[.int .u64 0, .int .u64 0]) 2 16 Try.underlying44 hi hz0 hz1 hz2 rfl (by decide) _ _ _ rfl (Own.made (F := MF S N) _ rfl (Nat.le_refl _) (by unfold maxLen; omega) rfl) _ _ _ _ rfl (Arr.below H.out (bel_alloc (Below.refl _ _) _)) (cells_one S N n) (by unfold maxLen; omega) (by omega) (by simp) ?_; intro v1 w1 hown1 hgrow1 _; have hb : Below w.heap.size w w1 := bel_own (by repeat (first | assumption | exact Below.refl _ _ | refine bel_alloc ?_ _ | refine bel_drewN ?_ _ | refine bel_drew ?_ | refine bel_trans ?_ (by assumption))) (Own.made (F := MF S N) (e := 55) (sz := 2) _ rfl (Nat.le_refl _) (by unfold maxLen; omega) rfl) hgrow1; have HO := Lib.hid (Own.of_nil hown1); obtain ⟨g, cap, rfl, hg1, hg2, hg3, hg4, hcell, hfz⟩ := own_form HO.out H0.out; have g1' := keep_below hb _ _ g1; have g2' := keep_below hb _ _ g2; clear hown1 hgrow1 g1 g2 hcell hfz)
    go_ret2
    exact ⟨rfl, (by repeat (first | assumption | exact Below.refl _ _ | refine bel_alloc ?_ _ | refine bel_drewN ?_ _ | refine bel_drew ?_ | refine bel_trans ?_ (by assumption)))⟩
set_option maxRecDepth 100000 in
set_option maxHeartbeats 1000000 in
theorem rnote_same (A : Option Addr) (n c : Nat) (S N : Nat → Int) (s : Int) (w : World) (h : Marks w A n S N) (h0 : 0 < n) (hc : S (n - 1) < s) (h64 : n ≤ 64) :
    Calls Try.prog 33 #[.slice A n c, .int .u64 s, .int .u64 (N (n - 1))] w fun e w' => ∃ v, e = .returned (.tuple #[v, .int .i64 0]) ∧ Own w' w.heap.size 55 2 v n (MF (put S (n - 1) s) N) ∧ Below w.heap.size w w' := by
  obtain ⟨i0, hi, hz0, hz1, hz2⟩ := info_parts info_mark
  have H := Lib.hid h
  clear h
  obtain ⟨b, off, rfl, g1, g2, g3, gb⟩ := Marks.at_ H.out (n - 1) (by omega)
  clear g3
  have H0 := Lib.hid h0
  go_enter Try.func33, Try.ntmps33
  go_wp2_with (first | (at_builtin; refine wpList_append_arr _ rfl (.tmp 12) (.tmp 13) 44 rfl w.heap.size 55 i0 (.agg #[.int .u64 0, .int .u64 0]) 2 16 Try.underlying44 hi hz0 hz1 hz2 rfl (by decide) _ _ _ rfl (Own.made (F := MF S N) _ rfl (Nat.le_refl _) (by unfold maxLen; omega) rfl) _ _ _ _ rfl (Arr.below H.out (bel_alloc (Below.refl _ _) _)) (cells_one S N n) (by unfold maxLen; omega) (by omega) (by simp) ?_; intro v1 w1 hown1 hgrow1 _; have hb : Below w.heap.size w w1 := bel_own (by repeat (first | assumption | exact Below.refl _ _ | refine bel_alloc ?_ _ | refine bel_drewN ?_ _ | refine bel_drew ?_ | refine bel_trans ?_ (by assumption))) (Own.made (F := MF S N) (e := 55) (sz := 2) _ rfl (Nat.le_refl _) (by unfold maxLen; omega) rfl) hgrow1; have HO := Lib.hid (Own.of_nil hown1); obtain ⟨g, cap, rfl, hg1, hg2, hg3, hg4, hcell, hfz⟩ := own_form HO.out H0.out; have g1' := keep_below hb _ _ g1; have g2' := keep_below hb _ _ g2; clear hown1 hgrow1 g1 g2 hcell hfz) | (at_builtin; refine wpList_append_arr _ rfl (.tmp 53) (.tmp 57) 44 rfl w.heap.size 55 i0 (.agg #[.int .u64 0, .int .u64 0]) 2 16 Try.underlying44 hi hz0 hz1 hz2 rfl (by decide) _ _ _ rfl (((own_cut HO.out (show n - 1 ≤ n by omega)).alloc _)) _ 1 1 _ rfl (arr_new2 _ _ _ _ _ (by simp)) (fun i _ j _ => by split <;> rfl) (by unfold maxLen; omega) (by omega) (by have := hb.size; simp; omega) ?_; intro v2 w2 hown2 hgrow2 _; have HB : Below w.heap.size w w2 := bel_own (by repeat (first | assumption | exact Below.refl _ _ | refine bel_alloc ?_ _ | refine bel_drewN ?_ _ | refine bel_drew ?_ | refine bel_trans ?_ (by assumption))) (((own_cut HO.out (show n - 1 ≤ n by omega)).alloc _)) hgrow2; have HO2 := Lib.hid hown2; obtain ⟨A2, c2, rfl, _⟩ := hown2.arr; clear hgrow2 hb HO H hi hz0 hz1 hz2))
  go_ret2
  refine ⟨_, rfl, ?_, HB⟩
  exact Own.congr (own_len HO2.out (by have := H0.out; omega)) (fun i hi j hj => by
    rw [MF_put S N (n - 1) s _ i (by omega) j hj]
    by_cases h1 : i = n - 1 <;> by_cases h2 : j = 0 <;> simp [h1, h2, MF, put])
set_option maxRecDepth 100000 in
set_option maxHeartbeats 1000000 in
theorem rnote_full (A : Option Addr) (n c : Nat) (S N : Nat → Int) (s t : Int) (w : World) (hn : n ≤ 1000) (h : Marks w A n S N) (h0 : 0 < n) (hc : S (n - 1) < s) (ht : N (n - 1) < t) (h64 : 64 ≤ n) :
    Calls Try.prog 33 #[.slice A n c, .int .u64 s, .int .u64 t] w fun e w' => e = .returned (.tuple #[.slice none 0 0, .int .i64 32]) ∧ Below w.heap.size w w' := by
  obtain ⟨i0, hi, hz0, hz1, hz2⟩ := info_parts info_mark
  have H := Lib.hid h
  clear h
  obtain ⟨b, off, rfl, g1, g2, g3, gb⟩ := Marks.at_ H.out (n - 1) (by omega)
  clear g3
  have H0 := Lib.hid h0
  go_enter Try.func33, Try.ntmps33
  go_wp2_with (first | (at_builtin; refine wpList_append_arr _ rfl (.tmp 12) (.tmp 13) 44 rfl w.heap.size 55 i0 (.agg #[.int .u64 0, .int .u64 0]) 2 16 Try.underlying44 hi hz0 hz1 hz2 rfl (by decide) _ _ _ rfl (Own.made (F := MF S N) _ rfl (Nat.le_refl _) (by unfold maxLen; omega) rfl) _ _ _ _ rfl (Arr.below H.out (bel_alloc (Below.refl _ _) _)) (cells_one S N n) (by unfold maxLen; omega) (by omega) (by simp) ?_; intro v1 w1 hown1 hgrow1 _; have hb : Below w.heap.size w w1 := bel_own (by repeat (first | assumption | exact Below.refl _ _ | refine bel_alloc ?_ _ | refine bel_drewN ?_ _ | refine bel_drew ?_ | refine bel_trans ?_ (by assumption))) (Own.made (F := MF S N) (e := 55) (sz := 2) _ rfl (Nat.le_refl _) (by unfold maxLen; omega) rfl) hgrow1; have HO := Lib.hid (Own.of_nil hown1); obtain ⟨g, cap, rfl, hg1, hg2, hg3, hg4, hcell, hfz⟩ := own_form HO.out H0.out; have g1' := keep_below hb _ _ g1; have g2' := keep_below hb _ _ g2; clear hown1 hgrow1 g1 g2 hcell hfz) | (at_builtin; refine wpList_append_arr _ rfl (.tmp 53) (.tmp 57) 44 rfl w.heap.size 55 i0 (.agg #[.int .u64 0, .int .u64 0]) 2 16 Try.underlying44 hi hz0 hz1 hz2 rfl (by decide) _ _ _ rfl ((HO.out.alloc _)) _ 1 1 _ rfl (arr_new2 _ _ _ _ _ (by simp)) (fun i _ j _ => by split <;> rfl) (by unfold maxLen; omega) (by omega) (by have := hb.size; simp; omega) ?_; intro v2 w2 hown2 hgrow2 _; have HB : Below w.heap.size w w2 := bel_own (by repeat (first | assumption | exact Below.refl _ _ | refine bel_alloc ?_ _ | refine bel_drewN ?_ _ | refine bel_drew ?_ | refine bel_trans ?_ (by assumption))) ((HO.out.alloc _)) hgrow2; have HO2 := Lib.hid hown2; obtain ⟨A2, c2, rfl, _⟩ := hown2.arr; clear hgrow2 hb HO H hi hz0 hz1 hz2))
  go_ret2
  exact ⟨rfl, HB⟩
set_option maxRecDepth 100000 in
set_option maxHeartbeats 1000000 in
theorem rnote_more (A : Option Addr) (n c : Nat) (S N : Nat → Int) (s t : Int) (w : World) (h : Marks w A n S N) (h0 : 0 < n) (hc : S (n - 1) < s) (ht : N (n - 1) < t) (h64 : n < 64) :
    Calls Try.prog 33 #[.slice A n c, .int .u64 s, .int .u64 t] w fun e w' => ∃ v, e = .returned (.tuple #[v, .int .i64 0]) ∧ Own w' w.heap.size 55 2 v (n + 1) (MF (put S n s) (put N n t)) ∧ Below w.heap.size w w' := by
  obtain ⟨i0, hi, hz0, hz1, hz2⟩ := info_parts info_mark
  have H := Lib.hid h
  clear h
  obtain ⟨b, off, rfl, g1, g2, g3, gb⟩ := Marks.at_ H.out (n - 1) (by omega)
  clear g3
  have H0 := Lib.hid h0
  go_enter Try.func33, Try.ntmps33
  go_wp2_with (first | (at_builtin; refine wpList_append_arr _ rfl (.tmp 12) (.tmp 13) 44 rfl w.heap.size 55 i0 (.agg #[.int .u64 0, .int .u64 0]) 2 16 Try.underlying44 hi hz0 hz1 hz2 rfl (by decide) _ _ _ rfl (Own.made (F := MF S N) _ rfl (Nat.le_refl _) (by unfold maxLen; omega) rfl) _ _ _ _ rfl (Arr.below H.out (bel_alloc (Below.refl _ _) _)) (cells_one S N n) (by unfold maxLen; omega) (by omega) (by simp) ?_; intro v1 w1 hown1 hgrow1 _; have hb : Below w.heap.size w w1 := bel_own (by repeat (first | assumption | exact Below.refl _ _ | refine bel_alloc ?_ _ | refine bel_drewN ?_ _ | refine bel_drew ?_ | refine bel_trans ?_ (by assumption))) (Own.made (F := MF S N) (e := 55) (sz := 2) _ rfl (Nat.le_refl _) (by unfold maxLen; omega) rfl) hgrow1; have HO := Lib.hid (Own.of_nil hown1); obtain ⟨g, cap, rfl, hg1, hg2, hg3, hg4, hcell, hfz⟩ := own_form HO.out H0.out; have g1' := keep_below hb _ _ g1; have g2' := keep_below hb _ _ g2; clear hown1 hgrow1 g1 g2 hcell hfz) | (at_builtin; refine wpList_append_arr _ rfl (.tmp 53) (.tmp 57) 44 rfl w.heap.size 55 i0 (.agg #[.int .u64 0, .int .u64 0]) 2 16 Try.underlying44 hi hz0 hz1 hz2 rfl (by decide) _ _ _ rfl ((HO.out.alloc _)) _ 1 1 _ rfl (arr_new2 _ _ _ _ _ (by simp)) (fun i _ j _ => by split <;> rfl) (by unfold maxLen; omega) (by omega) (by have := hb.size; simp; omega) ?_; intro v2 w2 hown2 hgrow2 _; have HB : Below w.heap.size w w2 := bel_own (by repeat (first | assumption | exact Below.refl _ _ | refine bel_alloc ?_ _ | refine bel_drewN ?_ _ | refine bel_drew ?_ | refine bel_trans ?_ (by assumption))) ((HO.out.alloc _)) hgrow2; have HO2 := Lib.hid hown2; obtain ⟨A2, c2, rfl, _⟩ := hown2.arr; clear hgrow2 hb HO H hi hz0 hz1 hz2))
  go_ret2
  exact ⟨_, rfl, Own.congr HO2.out (MF_put S N n s t), HB⟩
set_option maxRecDepth 100000 in
set_option maxHeartbeats 1000000 in
theorem rnote_none (A : Option Addr) (c : Nat) (S N : Nat → Int) (s t : Int) (w : World) (h : Marks w A 0 S N) :
    Calls Try.prog 33 #[.slice A 0 c, .int .u64 s, .int .u64 t] w fun e w' => ∃ v, e = .returned (.tuple #[v, .int .i64 0]) ∧ Own w' w.heap.size 55 2 v 1 (MF (put S 0 s) (put N 0 t)) ∧ Below w.heap.size w w' := by
  obtain ⟨i0, hi, hz0, hz1, hz2⟩ := info_parts info_mark
  have H := Lib.hid h
  clear h
  go_enter Try.func33, Try.ntmps33
  go_wp2_with (first | (at_builtin; refine wpList_append_arr _ rfl (.tmp 12) (.tmp 13) 44 rfl w.heap.size 55 i0 (.agg #[.int .u64 0, .int .u64 0]) 2 16 Try.underlying44 hi hz0 hz1 hz2 rfl (by decide) _ _ _ rfl (Own.made (F := MF S N) _ rfl (Nat.le_refl _) (by unfold maxLen; omega) rfl) _ _ _ _ rfl (Arr.below H.out (bel_alloc (Below.refl _ _) _)) (cells_one S N 0) (by unfold maxLen; omega) (by omega) (by simp) ?_; intro v1 w1 hown1 hgrow1 _; have hb : Below w.heap.size w w1 := bel_own (by repeat (first | assumption | exact Below.refl _ _ | refine bel_alloc ?_ _ | refine bel_drewN ?_ _ | refine bel_drew ?_ | refine bel_trans ?_ (by assumption))) (Own.made (F := MF S N) (e := 55) (sz := 2) _ rfl (Nat.le_refl _) (by unfold maxLen; omega) rfl) hgrow1; have HO := Lib.hid (Own.of_nil hown1); clear hown1 hgrow1) | (at_builtin; refine wpList_append_arr _ rfl (.tmp 53) (.tmp 57) 44 rfl w.heap.size 55 i0 (.agg #[.int .u64 0, .int .u64 0]) 2 16 Try.underlying44 hi hz0 hz1 hz2 rfl (by decide) _ _ _ rfl ((HO.out.alloc _)) _ 1 1 _ rfl (arr_new2 _ _ _ _ _ (by simp)) (fun i _ j _ => by split <;> rfl) (by unfold maxLen; omega) (by omega) (by have := hb.size; simp; omega) ?_; intro v2 w2 hown2 hgrow2 _; have HB : Below w.heap.size w w2 := bel_own (by repeat (first | assumption | exact Below.refl _ _ | refine bel_alloc ?_ _ | refine bel_drewN ?_ _ | refine bel_drew ?_ | refine bel_trans ?_ (by assumption))) ((HO.out.alloc _)) hgrow2; have HO2 := Lib.hid hown2; obtain ⟨A2, c2, rfl, _⟩ := hown2.arr; clear hgrow2 hb HO H hi hz0 hz1 hz2))
  go_ret2
  exact ⟨_, rfl, Own.congr HO2.out (MF_put S N 0 s t), HB⟩

/-! ### Keep -/
/-- The places of marks that are kept. -/
def keptT (f : Nat → Bool) (k : Nat) : List Nat := (List.range k).filter f
theorem keptT_yes {f : Nat → Bool} {k : Nat} (h : f k = true) : keptT f (k + 1) = keptT f k ++ [k] := by simp [keptT, List.range_succ, h]
theorem keptT_no {f : Nat → Bool} {k : Nat} (h : f k = false) : keptT f (k + 1) = keptT f k := by simp [keptT, List.range_succ, h]
theorem keptT_le (f : Nat → Bool) (k : Nat) : (keptT f k).length ≤ k := by
  have := List.length_filter_le f (List.range k)
  simpa [keptT] using this
def KeepP (S P : Nat → Int) (m : Nat) (fl : Int) (f : Nat → Bool) (n : Nat) : Prop := ∀ k, k < n → (f k = true ↔ fl ≤ S k ∨ ∃ j, j < m ∧ P j = S k)

set_option maxRecDepth 100000 in
set_option maxHeartbeats 1000000 in
theorem keep_any (A A' : Option Addr) (n c m c' : Nat) (S N P : Nat → Int) (fl : Int) (f : Nat → Bool) (w : World) (hn : n ≤ 100) (hm : m ≤ 60) (h : Marks w A n S N) (h' : Points w A' m P) (hf : KeepP S P m fl f n) :
    Calls Try.prog 35 #[.slice A n c, .slice A' m c', .int .u64 fl] w fun e w' => ∃ v, e = .returned v ∧ Own w' w.heap.size 55 2 v (keptT f n).length (KF S N (keptT f n)) ∧ Below w.heap.size w w' := by
  obtain ⟨i0, hi, hz0, hz1, hz2⟩ := info_parts info_mark
  have H := Lib.hid h
  clear h
  have H' := Lib.hid h'
  clear h'
  have HF := Lib.hid hf
  clear hf
  go_enter Try.func35, Try.ntmps35
  go_wp2
  go_loopw [7, 12] (fun v i wr => ∃ k : Nat, k ≤ n ∧ i = .int .i64 k ∧ Below w.heap.size w wr ∧ Own wr w.heap.size 55 2 v (keptT f k).length (KF S N (keptT f k))) (fun _ i _ => n - (intOf i).toNat)
  case atStart => exact ⟨0, Nat.zero_le _, rfl, Below.refl _ _, Own.nil⟩
  case round =>
    obtain ⟨k, hk, rfl, hb, hown⟩ := hrel
    by_cases hlt : k < n
    · obtain ⟨b, off, rfl, g1, g2, g3, gb⟩ := Marks.at_ (Arr.below H.out hb) k hlt
      clear g3
      have HO := Lib.hid hown
      clear hown
      have HK := Lib.hid (HF.out k hlt)
      by_cases hfl : fl ≤ S k
      · have hfk : Hid (f k = true) := Lib.hid (HK.out.2 (.inl hfl))
        have HO1 := Lib.hid ((HO.out.alloc (.cells #[.int .u64 (S k), .int .u64 (N k)] 55)).alloc (.cells #[.int .u64 (S k), .int .u64 (N k)] 55))
        go_wp2_with (at_builtin; refine wpList_append_arr _ rfl (.tmp 26) (.tmp 28) 44 rfl w.heap.size 55 i0 (.agg #[.int .u64 0, .int .u64 0]) 2 16 Try.underlying44 hi hz0 hz1 hz2 rfl (by decide) _ _ _ rfl HO1.out _ 1 1 _ rfl (arr_new2 _ _ _ _ _ (by simp)) (fun i _ j _ => by split <;> rfl) (by have := keptT_le f k; unfold maxLen; omega) (by have := keptT_le f k; omega) (by have := hb.size; simp; omega) ?_; intro v' w1 hown' hgrow _; have HB : Below w.heap.size w w1 := bel_own (by repeat (first | assumption | exact Below.refl _ _ | refine bel_alloc ?_ _ | refine bel_drewN ?_ _ | refine bel_drew ?_ | refine bel_trans ?_ (by assumption))) HO1.out hgrow; have HO' := Lib.hid hown'; clear hown' hgrow)
        go_roundw
        case rel => exact ⟨k + 1, by omega, by go_num, HB, by rw [keptT_yes hfk.out]; exact own_snoc HO'.out⟩
        case measure => simp [intOf]; omega
      · have hfl' : S k < fl := by omega
        have HN := Lib.hid hfl
        clear hfl
        go_wp2_with fail
        refine (contains_any A' m c' P (S k) _ hm (by exact Arr.below (Arr.below H'.out hb) (bel_alloc (Below.refl _ _) _)) (f k) (by rw [HK.out]; exact ⟨fun h => h.resolve_left (by have := HN.out; omega), .inr⟩)).mono ?_
        rintro e w1 ⟨rfl, hb1⟩
        have hb2 : Below w.heap.size w w1 := bel_trans (bel_alloc hb _) hb1
        have HO2 := Lib.hid ((HO.out.alloc _).below hb1)
        have hc1 := hb1.cell (p := ⟨wr.heap.size, 0, none⟩) (by simp)
        have hc2 := hb1.cell (p := ⟨wr.heap.size, 1, none⟩) (by simp)
        rcases hfk : f k with _ | _
        · have HFK := Lib.hid hfk
          clear hfk
          go_wp2
          go_roundw
          case rel => exact ⟨k + 1, by omega, by go_num, (by repeat (first | assumption | exact Below.refl _ _ | refine bel_alloc ?_ _ | refine bel_drewN ?_ _ | refine bel_drew ?_ | refine bel_trans ?_ (by assumption))), by rw [keptT_no HFK.out]; exact HO2.out⟩
          case measure => simp [intOf]; omega
        · have HFK := Lib.hid hfk
          clear hfk
          have HO1 := Lib.hid (HO2.out.alloc (.cells #[.int .u64 (S k), .int .u64 (N k)] 55))
          clear hb
          have hb := hb2
          go_wp2_with (at_builtin; refine wpList_append_arr _ rfl (.tmp 26) (.tmp 28) 44 rfl w.heap.size 55 i0 (.agg #[.int .u64 0, .int .u64 0]) 2 16 Try.underlying44 hi hz0 hz1 hz2 rfl (by decide) _ _ _ rfl HO1.out _ 1 1 _ rfl (arr_new2 _ _ _ _ _ (by simp)) (fun i _ j _ => by split <;> rfl) (by have := keptT_le f k; unfold maxLen; omega) (by have := keptT_le f k; omega) (by have := hb.size; simp; omega) ?_; intro v' w3 hown' hgrow _; have HB : Below w.heap.size w w3 := bel_own (by repeat (first | assumption | exact Below.refl _ _ | refine bel_alloc ?_ _ | refine bel_drewN ?_ _ | refine bel_drew ?_ | refine bel_trans ?_ (by assumption))) HO1.out hgrow; have HO' := Lib.hid hown'; clear hown' hgrow)
          go_roundw
          case rel => exact ⟨k + 1, by omega, by go_num, HB, by rw [keptT_yes HFK.out]; exact own_snoc HO'.out⟩
          case measure => simp [intOf]; omega
    · obtain rfl : k = n := by omega
      have HO := Lib.hid hown
      clear hown
      go_wp2
      go_ret
      exact ⟨_, rfl, HO.out, hb⟩
end Go.Proofs.Ytfdnpdolpfnlgaa.Times
