/- Contracts of sizes.Set and of the reference's Set; the walks of the laws SizesTells, SizesSame. -/
import Derived.Test.YtobecmablabmeaaKeep
namespace Go.Proofs.Ytobecmablabmeaa.Sizes
open Go.RowKit Mem
set_option linter.unusedVariables false
set_option linter.unusedSimpArgs false

theorem cells_one (S N : Nat → Int) (n : Nat) : ∀ i, i < n → ∀ j, j < 2 → (MF S N i j).oneCell' = true := fun i _ j _ => by unfold MF; split <;> rfl
/-- The marks, with one more. -/
def more (n : Nat) (S N : Nat → Int) (s z : Int) : Nat → Nat → Value := cat n (MF S N) (fun _ j => if j = 0 then .int .u64 s else .int .u64 z)
def Bad (n : Nat) (S : Nat → Int) (s z : Int) : Prop := z < 1 ∨ 32 < z ∨ (0 < n ∧ s ≤ S (n - 1))

theorem set_bad (A : Option Addr) (n c : Nat) (S N : Nat → Int) (s z : Int) (w : World) (hn : n ≤ 60) (h : Marks w A n S N) (hb : Bad n S s z) :
    Calls Try.prog 38 #[.slice A n c, .int .u64 s, .int .i64 z] w fun e w' => e = .returned (.tuple #[.slice none 0 0, .int .i64 10]) ∧ Below w.heap.size w w' := by
  by_cases c1 : z < 1
  · clear hb h
    go_enter Try.func38, Try.ntmps38
    go_wp2
    go_ret2
    exact ⟨rfl, (by repeat (first | assumption | exact Below.refl _ _ | refine bel_alloc ?_ _ | refine bel_drewN ?_ _ | refine bel_drew ?_ | refine bel_trans ?_ (by assumption)))⟩
  by_cases c2 : 32 < z
  · clear hb h
    go_enter Try.func38, Try.ntmps38
    go_wp2
    go_ret2
    exact ⟨rfl, (by repeat (first | assumption | exact Below.refl _ _ | refine bel_alloc ?_ _ | refine bel_drewN ?_ _ | refine bel_drew ?_ | refine bel_trans ?_ (by assumption)))⟩
  obtain ⟨h0, h1⟩ : 0 < n ∧ s ≤ S (n - 1) := by rcases hb with h | h | h <;> first | omega | exact h
  clear hb
  obtain ⟨m, hm⟩ : ∃ m, n = m + 1 := ⟨n - 1, by omega⟩
  rw [show n - 1 = m by omega] at h1
  obtain ⟨b, off, rfl, g1, g2, g3, gb⟩ := Marks.at_ h m (by omega)
  clear g3 h
  have e2 : (n : Int) - 1 = (m : Int) := by omega
  have hm' : m < n := by omega
  clear hm
  go_enter Try.func38, Try.ntmps38
  go_wp2
  go_ret2
  exact ⟨rfl, (by repeat (first | assumption | exact Below.refl _ _ | refine bel_alloc ?_ _ | refine bel_drewN ?_ _ | refine bel_drew ?_ | refine bel_trans ?_ (by assumption)))⟩

set_option maxRecDepth 100000 in
set_option maxHeartbeats 2000000 in
theorem set_good (A : Option Addr) (n c : Nat) (S N : Nat → Int) (s z : Int) (w : World) (hn : n ≤ 60) (h : Marks w A n S N) (hN : ∀ i, i < n → 0 ≤ N i ∧ N i ≤ 32) (hb : ¬ Bad n S s z) :
    Calls Try.prog 38 #[.slice A n c, .int .u64 s, .int .i64 z] w fun e w' => Below w.heap.size w w' ∧
      ((nowN N n = z ∧ ∃ v, e = .returned (.tuple #[v, .int .i64 0]) ∧ Own w' w.heap.size 27 2 v n (MF S N)) ∨
       (nowN N n ≠ z ∧ 16 ≤ n ∧ e = .returned (.tuple #[.slice none 0 0, .int .i64 32])) ∨
       (nowN N n ≠ z ∧ n < 16 ∧ ∃ v, e = .returned (.tuple #[v, .int .i64 0]) ∧ Own w' w.heap.size 27 2 v (n + 1) (more n S N s z))) := by
  obtain ⟨i0, hi, hz0, hz1, hz2⟩ := info_parts info_mark
  have c1 : ¬ z < 1 := fun h => hb (.inl h)
  have c2 : ¬ 32 < z := fun h => hb (.inr (.inl h))
  have H := Lib.hid h
  have HN := Lib.hid hN
  clear hN
  have hcase : ¬ 0 < n ∨ ∃ m b off, 0 < n ∧ m < n ∧ A = some ⟨b, off, none⟩ ∧ S m < s ∧ w.cell? ⟨b, off + m * 2, none⟩ = some (.int .u64 (S m)) ∧ (n : Int) - 1 = (m : Int) := by
    rcases n with _ | m
    · exact .inl (by omega)
    · obtain ⟨b, off, e, g1, _⟩ := Marks.at_ h m (by omega)
      refine .inr ⟨m, b, off, by omega, by omega, e, ?_, g1, by omega⟩
      rcases Int.lt_or_le (S m) s with h | h
      · exact h
      · exact absurd (.inr (.inr ⟨by omega, h⟩)) hb
  clear hb h
  rcases hcase with h0 | ⟨m, b, off, h0, hm, rfl, hs, g1, e2⟩
  all_goals
    go_enter Try.func38, Try.ntmps38
    go_wp2_with fail
    refine (now_any _ _ _ _ _ _ (by omega) H.out HN.out).mono ?_
    rintro e w1 ⟨rfl, hb1⟩
    generalize hq : nowN N n = q
    have HE := Lib.hid hq
    clear h0 hq
    by_cases cq : q = z
    · have dq : (q == z) = true := by simpa using cq
      have HQ := Lib.hid cq
      clear cq
      go_wp2_with ((at_builtin; (refine wpList_append_arr _ rfl (.const (.slice none 0 0)) (.tmp 36) 22 rfl w.heap.size 27 i0 (.agg #[.int .u64 0, .int .u64 0]) 2 16 Try.underlying22 hi hz0 hz1 hz2 rfl (by decide) _ _ _ rfl (Own.nil (F := MF S N)) _ _ _ _ rfl (Arr.below H.out hb1) (cells_one S N n) (by unfold maxLen; omega) (by omega) (by have := hb1.size; simp; omega) ?_); intro v1 w2 hown1 hgrow1 _; have HB1 : Below w.heap.size w w2 := bel_own (by repeat (first | assumption | exact Below.refl _ _ | refine bel_alloc ?_ _ | refine bel_drewN ?_ _ | refine bel_drew ?_ | refine bel_trans ?_ (by assumption))) (Own.nil (e := 27) (sz := 2) (F := MF S N)) hgrow1; have HO1 := Lib.hid (Own.of_nil hown1); clear hown1 hgrow1))
      go_ret2
      exact ⟨HB1, .inl ⟨HE.out.trans HQ.out, _, rfl, HO1.out⟩⟩
    · have dq : (q == z) = false := by simpa using cq
      have HQ := Lib.hid cq
      clear cq
      by_cases c3 : 16 ≤ n
      · go_wp2
        go_ret2
        exact ⟨(by repeat (first | assumption | exact Below.refl _ _ | refine bel_alloc ?_ _ | refine bel_drewN ?_ _ | refine bel_drew ?_ | refine bel_trans ?_ (by assumption))), .inr (.inl ⟨by rw [HE.out]; exact HQ.out, c3, rfl⟩)⟩
      · go_wp2_with (first | (at_builtin; refine wpList_append_arr _ rfl (.const (.slice none 0 0)) (.tmp 42) 22 rfl w.heap.size 27 i0 (.agg #[.int .u64 0, .int .u64 0]) 2 16 Try.underlying22 hi hz0 hz1 hz2 rfl (by decide) _ _ _ rfl (Own.nil (F := MF S N)) _ _ _ _ rfl (Arr.below H.out hb1) (cells_one S N n) (by unfold maxLen; omega) (by omega) (by have := hb1.size; simp; omega) ?_; intro v1 w2 hown1 hgrow1 _; have HB1 : Below w.heap.size w w2 := bel_own (by repeat (first | assumption | exact Below.refl _ _ | refine bel_alloc ?_ _ | refine bel_drewN ?_ _ | refine bel_drew ?_ | refine bel_trans ?_ (by assumption))) (Own.nil (e := 27) (sz := 2) (F := MF S N)) hgrow1; have HO1 := Lib.hid (Own.of_nil hown1); clear hown1 hgrow1) | (at_builtin; refine wpList_append_arr _ rfl (.tmp 43) (.tmp 48) 22 rfl w.heap.size 27 i0 (.agg #[.int .u64 0, .int .u64 0]) 2 16 Try.underlying22 hi hz0 hz1 hz2 rfl (by decide) _ _ _ rfl (HO1.out.alloc _) _ 1 1 _ rfl (arr_new2 _ _ _ _ _ (by simp)) (fun i _ j _ => by split <;> rfl) (by unfold maxLen; omega) (by omega) (by have := HB1.size; simp; omega) ?_; intro v2 w3 hown2 hgrow2 _; have HB2 : Below w.heap.size w w3 := bel_own (by repeat (first | assumption | exact Below.refl _ _ | refine bel_alloc ?_ _ | refine bel_drewN ?_ _ | refine bel_drew ?_ | refine bel_trans ?_ (by assumption))) (HO1.out.alloc _) hgrow2; have HO2 := Lib.hid hown2; clear hown2 hgrow2))
        go_ret2
        exact ⟨HB2, .inr (.inr ⟨by rw [HE.out]; exact HQ.out, by omega, _, rfl, HO2.out⟩)⟩

/-! ### the reference's Set -/
set_option maxRecDepth 100000 in
set_option maxHeartbeats 2000000 in
theorem rset_bad (A : Option Addr) (n c : Nat) (S N : Nat → Int) (s z : Int) (w : World) (hn : n ≤ 60) (h : Marks w A n S N) (hb : Bad n S s z) :
    Calls Try.prog 39 #[.slice A n c, .int .u64 s, .int .i64 z] w fun e w' => e = .returned (.tuple #[.slice none 0 0, .int .i64 10]) ∧ Below w.heap.size w w' := by
  obtain ⟨i0, hi, hz0, hz1, hz2⟩ := info_parts info_mark
  by_cases c1 : z < 1
  · clear hb h hi hz0 hz1 hz2
    go_enter Try.func39, Try.ntmps39
    go_wp2
    go_ret2
    exact ⟨rfl, (by repeat (first | assumption | exact Below.refl _ _ | refine bel_alloc ?_ _ | refine bel_drewN ?_ _ | refine bel_drew ?_ | refine bel_trans ?_ (by assumption)))⟩
  by_cases c2 : 32 < z
  · clear hb h hi hz0 hz1 hz2
    go_enter Try.func39, Try.ntmps39
    go_wp2
    go_ret2
    exact ⟨rfl, (by repeat (first | assumption | exact Below.refl _ _ | refine bel_alloc ?_ _ | refine bel_drewN ?_ _ | refine bel_drew ?_ | refine bel_trans ?_ (by assumption)))⟩
  obtain ⟨h0, h1⟩ : 0 < n ∧ s ≤ S (n - 1) := by rcases hb with h | h | h <;> first | omega | exact h
  clear hb
  obtain ⟨m, hm⟩ : ∃ m, n = m + 1 := ⟨n - 1, by omega⟩
  rw [show n - 1 = m by omega] at h1
  obtain ⟨b, off, rfl, g1, g2, g3, gb⟩ := Marks.at_ h m (by omega)
  have H := Lib.hid h
  clear g3 h
  have e2 : (n : Int) - 1 = (m : Int) := by omega
  have hm' : m < n := by omega
  clear hm
  go_enter Try.func39, Try.ntmps39
  go_wp2_with ((at_builtin; refine wpList_append_arr _ rfl (.tmp 15) (.tmp 16) 22 rfl w.heap.size 27 i0 (.agg #[.int .u64 0, .int .u64 0]) 2 16 Try.underlying22 hi hz0 hz1 hz2 rfl (by decide) _ _ _ rfl (Own.made (F := MF S N) _ rfl (Nat.le_refl _) (by unfold maxLen; omega) rfl) _ _ _ _ rfl (Arr.below H.out (bel_alloc (Below.refl _ _) _)) (cells_one S N n) (by unfold maxLen; omega) (by omega) (by simp) ?_; intro v1 w2 hown1 hgrow1 _; have HB1 : Below w.heap.size w w2 := bel_own (by repeat (first | assumption | exact Below.refl _ _ | refine bel_alloc ?_ _ | refine bel_drewN ?_ _ | refine bel_drew ?_ | refine bel_trans ?_ (by assumption))) (Own.made (F := MF S N) (e := 27) (sz := 2) _ rfl (Nat.le_refl _) (by unfold maxLen; omega) rfl) hgrow1; have HO1 := Lib.hid (Own.of_nil hown1); clear hown1 hgrow1); have G1 := keep_below HB1 _ _ g1)
  go_ret2
  exact ⟨rfl, (by repeat (first | assumption | exact Below.refl _ _ | refine bel_alloc ?_ _ | refine bel_drewN ?_ _ | refine bel_drew ?_ | refine bel_trans ?_ (by assumption)))⟩

set_option maxRecDepth 100000 in
set_option maxHeartbeats 4000000 in
theorem rset_good (A : Option Addr) (n c : Nat) (S N : Nat → Int) (s z : Int) (w : World) (hn : n ≤ 60) (h : Marks w A n S N) (hN : ∀ i, i < n → 0 ≤ N i ∧ N i ≤ 32) (hb : ¬ Bad n S s z) :
    Calls Try.prog 39 #[.slice A n c, .int .u64 s, .int .i64 z] w fun e w' => Below w.heap.size w w' ∧
      ((nowN N n = z ∧ ∃ v, e = .returned (.tuple #[v, .int .i64 0]) ∧ Own w' w.heap.size 27 2 v n (MF S N)) ∨
       (nowN N n ≠ z ∧ 16 ≤ n ∧ e = .returned (.tuple #[.slice none 0 0, .int .i64 32])) ∨
       (nowN N n ≠ z ∧ n < 16 ∧ ∃ v, e = .returned (.tuple #[v, .int .i64 0]) ∧ Own w' w.heap.size 27 2 v (n + 1) (more n S N s z))) := by
  obtain ⟨i0, hi, hz0, hz1, hz2⟩ := info_parts info_mark
  have c1 : ¬ z < 1 := fun h => hb (.inl h)
  have c2 : ¬ 32 < z := fun h => hb (.inr (.inl h))
  have H := Lib.hid h
  have HN := Lib.hid hN
  clear hN
  rcases n with _ | m
  · have hq : nowN N 0 ≠ z := by simp [nowN]; omega
    have HQ := Lib.hid hq
    clear hq hb h
    go_enter Try.func39, Try.ntmps39
    go_wp2_with (first | ((at_builtin; refine wpList_append_arr _ rfl (.tmp 15) (.tmp 16) 22 rfl w.heap.size 27 i0 (.agg #[.int .u64 0, .int .u64 0]) 2 16 Try.underlying22 hi hz0 hz1 hz2 rfl (by decide) _ _ _ rfl (Own.made (F := MF S N) _ rfl (Nat.le_refl _) (by unfold maxLen; omega) rfl) _ _ _ _ rfl (Arr.below H.out (bel_alloc (Below.refl _ _) _)) (cells_one S N _) (by unfold maxLen; omega) (by omega) (by simp) ?_; intro v1 w2 hown1 hgrow1 _; have HB1 : Below w.heap.size w w2 := bel_own (by repeat (first | assumption | exact Below.refl _ _ | refine bel_alloc ?_ _ | refine bel_drewN ?_ _ | refine bel_drew ?_ | refine bel_trans ?_ (by assumption))) (Own.made (F := MF S N) (e := 27) (sz := 2) _ rfl (Nat.le_refl _) (by unfold maxLen; omega) rfl) hgrow1; have HO1 := Lib.hid (Own.of_nil hown1); clear hown1 hgrow1); have HO2 := HO1; have HB2 := HB1) | (at_builtin; refine wpList_append_arr _ rfl (.tmp 38) (.tmp 43) 22 rfl w.heap.size 27 i0 (.agg #[.int .u64 0, .int .u64 0]) 2 16 Try.underlying22 hi hz0 hz1 hz2 rfl (by decide) _ _ _ rfl (HO2.out.alloc _) _ 1 1 _ rfl (arr_new2 _ _ _ _ _ (by simp)) (fun i _ j _ => by split <;> rfl) (by unfold maxLen; omega) (by omega) (by have := HB2.size; simp; omega) ?_; intro v2 w3 hown2 hgrow2 _; have HB3 : Below w.heap.size w w3 := bel_own (by repeat (first | assumption | exact Below.refl _ _ | refine bel_alloc ?_ _ | refine bel_drewN ?_ _ | refine bel_drew ?_ | refine bel_trans ?_ (by assumption))) (HO2.out.alloc _) hgrow2; have HO3 := Lib.hid hown2; clear hown2 hgrow2))
    go_ret2
    exact ⟨HB3, .inr ⟨HQ.out, _, rfl, HO3.out⟩⟩
  · obtain ⟨b, off, rfl, g1, g2, g3, gb⟩ := Marks.at_ h m (by omega)
    have h1 : S m < s := by
      rcases Int.lt_or_le (S m) s with h | h
      · exact h
      · exact absurd (.inr (.inr ⟨by omega, h⟩)) hb
    generalize hn' : m + 1 = n at hn H HN ⊢
    have e2 : (n : Int) - 1 = (m : Int) := by omega
    have hm' : m < n := by omega
    clear g3 hb h hn'
    go_enter Try.func39, Try.ntmps39
    go_wp2_with (first | (at_builtin; refine wpList_append_arr _ rfl (.tmp 15) (.tmp 16) 22 rfl w.heap.size 27 i0 (.agg #[.int .u64 0, .int .u64 0]) 2 16 Try.underlying22 hi hz0 hz1 hz2 rfl (by decide) _ _ _ rfl (Own.made (F := MF S N) _ rfl (Nat.le_refl _) (by unfold maxLen; omega) rfl) _ _ _ _ rfl (Arr.below H.out (bel_alloc (Below.refl _ _) _)) (cells_one S N n) (by unfold maxLen; omega) (by omega) (by simp) ?_; intro v1 w2 hown1 hgrow1 _; have HB1 : Below w.heap.size w w2 := bel_own (by repeat (first | assumption | exact Below.refl _ _ | refine bel_alloc ?_ _ | refine bel_drewN ?_ _ | refine bel_drew ?_ | refine bel_trans ?_ (by assumption))) (Own.made (F := MF S N) (e := 27) (sz := 2) _ rfl (Nat.le_refl _) (by unfold maxLen; omega) rfl) hgrow1; have HO1 := Lib.hid (Own.of_nil hown1); clear hown1 hgrow1); have G1 := keep_below HB1 _ _ g1)
    refine (rnow_any _ _ _ _ _ _ (by omega) (Arr.below H.out HB1) HN.out).mono ?_
    rintro e w3 ⟨rfl, hb3⟩
    have HB2 : Below w.heap.size w w3 := bel_trans HB1 hb3
    have HO2 := Lib.hid (HO1.out.below hb3)
    clear HB1 hb3 HO1 G1 g1 g2 gb
    generalize hq : nowN N n = q
    have HE := Lib.hid hq
    clear hq
    by_cases cq : q = z
    · have dq : (q == z) = true := by simpa using cq
      have HQ := Lib.hid cq
      clear cq
      go_wp2
      go_ret2
      exact ⟨HB2, .inl ⟨HE.out.trans HQ.out, _, rfl, HO2.out⟩⟩
    · have dq : (q == z) = false := by simpa using cq
      have HQ := Lib.hid cq
      clear cq
      by_cases c3 : 16 ≤ n
      · go_wp2
        go_ret2
        exact ⟨(by repeat (first | assumption | exact Below.refl _ _ | refine bel_alloc ?_ _ | refine bel_drewN ?_ _ | refine bel_drew ?_ | refine bel_trans ?_ (by assumption))), .inr (.inl ⟨by rw [HE.out]; exact HQ.out, c3, rfl⟩)⟩
      · go_wp2_with (at_builtin; refine wpList_append_arr _ rfl (.tmp 38) (.tmp 43) 22 rfl w.heap.size 27 i0 (.agg #[.int .u64 0, .int .u64 0]) 2 16 Try.underlying22 hi hz0 hz1 hz2 rfl (by decide) _ _ _ rfl (HO2.out.alloc _) _ 1 1 _ rfl (arr_new2 _ _ _ _ _ (by simp)) (fun i _ j _ => by split <;> rfl) (by unfold maxLen; omega) (by omega) (by have := HB2.size; simp; omega) ?_; intro v2 w3 hown2 hgrow2 _; have HB3 : Below w.heap.size w w3 := bel_own (by repeat (first | assumption | exact Below.refl _ _ | refine bel_alloc ?_ _ | refine bel_drewN ?_ _ | refine bel_drew ?_ | refine bel_trans ?_ (by assumption))) (HO2.out.alloc _) hgrow2; have HO3 := Lib.hid hown2; clear hown2 hgrow2)
        go_ret2
        exact ⟨HB3, .inr (.inr ⟨by rw [HE.out]; exact HQ.out, by omega, _, rfl, HO3.out⟩)⟩

/-! ### the law SizesTells -/
theorem more_marks {w : World} {A : Option Addr} {n : Nat} {S N : Nat → Int} {s z : Int} (h : Arr w A (n + 1) 2 (more n S N s z)) : Marks w A (n + 1) (fun i => if i < n then S i else s) (fun i => if i < n then N i else z) :=
  Arr.congr h fun i hi j hj => by
    unfold more cat MF
    by_cases h1 : i < n <;> by_cases h2 : j = 0 <;> simp [h1, h2]

/-- What Set and the reference's Set hand back: two slices of the same marks, the same error. -/
def TwoSets (w : World) (v v' : Value) (a a' : Int) : Prop := a = a' ∧ ∃ A A' n c c' S N, n ≤ 61 ∧ v = .slice A n c ∧ v' = .slice A' n c' ∧ Marks w A n S N ∧ Marks w A' n S N

set_option maxHeartbeats 2000000 in
theorem sizesTells_fine (A : Option Addr) (n c : Nat) (S N : Nat → Int) (s z : Int) (w : World) (hn : n ≤ 60) (h : Marks w A n S N) (hN : ∀ i, i < n → 0 ≤ N i ∧ N i ≤ 32) :
    Calls Try.prog 8 #[.slice A n c, .int .u64 s, .int .i64 z] w fun e w' => e = .returned (.bool true) ∧ Below w.heap.size w w' := by
  have H := Lib.hid h
  clear h
  have HN := Lib.hid hN
  clear hN
  go_enter Try.func8, Try.ntmps8
  go_wp2_with fail
  refine (great_no A n c S N w hn H.out (fun i hi => (HN.out i hi).2)).mono ?_
  rintro e w1 ⟨rfl, hb1⟩
  go_wp2_with fail
  refine (at_any A n c S N s w1 (by omega) (Arr.below H.out hb1) HN.out).mono ?_
  rintro e w2 ⟨rfl, hb2⟩
  have hb2' := bel_trans hb1 hb2
  clear hb1 hb2
  go_wp2_with fail
  refine (rat_any A n c S N s w2 (by omega) (Arr.below H.out hb2') HN.out).mono ?_
  rintro e w3 ⟨rfl, hb3⟩
  have hb3' := bel_trans hb2' hb3
  clear hb2' hb3
  generalize atN S N s n = q1
  generalize atB S s n = q2
  go_wp2_with fail
  have two : Calls Try.prog 38 #[.slice A n c, .int .u64 s, .int .i64 z] w3 fun e w4 => Below w3.heap.size w3 w4 ∧ ∃ v a, e = .returned (.tuple #[v, .int .i64 a]) ∧
      Hid (∀ w4', Below w4.heap.size w4 w4' → Calls Try.prog 39 #[.slice A n c, .int .u64 s, .int .i64 z] w4' fun e w5 => Below w4'.heap.size w4' w5 ∧ ∃ v' a', e = .returned (.tuple #[v', .int .i64 a']) ∧ TwoSets w5 v v' a a') := by
    have h3 := Arr.below H.out hb3'
    by_cases hbad : Bad n S s z
    · refine (set_bad A n c S N s z w3 hn h3 hbad).mono ?_
      rintro e w4 ⟨rfl, hb4⟩
      refine ⟨hb4, _, _, rfl, Lib.hid fun w4' hb' => ?_⟩
      refine (rset_bad A n c S N s z w4' hn (Arr.below (Arr.below h3 hb4) hb') hbad).mono ?_
      rintro e w5 ⟨rfl, hb5⟩
      exact ⟨hb5, _, _, rfl, rfl, none, none, 0, 0, 0, S, N, by omega, rfl, rfl, Arr.nil, Arr.nil⟩
    · refine (set_good A n c S N s z w3 hn h3 HN.out hbad).mono ?_
      rintro e w4 ⟨hb4, hc⟩
      refine ⟨hb4, ?_⟩
      have key := fun w4' (hb' : Below w4.heap.size w4 w4') => rset_good A n c S N s z w4' hn (Arr.below (Arr.below h3 hb4) hb') HN.out hbad
      rcases hc with ⟨q, v, rfl, ho⟩ | ⟨q, q', rfl⟩ | ⟨q, q', v, rfl, ho⟩
      · refine ⟨_, _, rfl, Lib.hid fun w4' hb' => (key w4' hb').mono ?_⟩
        rintro e w5 ⟨hb5, hc5⟩
        refine ⟨hb5, ?_⟩
        rcases hc5 with ⟨_, v', rfl, ho'⟩ | ⟨q5, _⟩ | ⟨q5, _⟩
        · obtain ⟨A1, c1, rfl, ha1, _⟩ := ho.arr
          obtain ⟨A2, c2, rfl, ha2, _⟩ := ho'.arr
          exact ⟨_, _, rfl, rfl, A1, A2, n, c1, c2, S, N, by omega, rfl, rfl, Arr.below (Arr.below ha1 hb') hb5, ha2⟩
        · exact absurd q q5
        · exact absurd q q5
      · refine ⟨_, _, rfl, Lib.hid fun w4' hb' => (key w4' hb').mono ?_⟩
        rintro e w5 ⟨hb5, hc5⟩
        refine ⟨hb5, ?_⟩
        rcases hc5 with ⟨q5, _⟩ | ⟨_, _, rfl⟩ | ⟨_, q5, _⟩
        · exact absurd q5 q
        · exact ⟨_, _, rfl, rfl, none, none, 0, 0, 0, S, N, by omega, rfl, rfl, Arr.nil, Arr.nil⟩
        · omega
      · refine ⟨_, _, rfl, Lib.hid fun w4' hb' => (key w4' hb').mono ?_⟩
        rintro e w5 ⟨hb5, hc5⟩
        refine ⟨hb5, ?_⟩
        rcases hc5 with ⟨q5, _⟩ | ⟨_, q5, _⟩ | ⟨_, _, v', rfl, ho'⟩
        · exact absurd q5 q
        · omega
        · obtain ⟨A1, c1, rfl, ha1, _⟩ := ho.arr
          obtain ⟨A2, c2, rfl, ha2, _⟩ := ho'.arr
          exact ⟨_, _, rfl, rfl, A1, A2, n + 1, c1, c2, _, _, by omega, rfl, rfl, more_marks (Arr.below (Arr.below ha1 hb') hb5), more_marks ha2⟩
  refine two.mono ?_
  rintro e w4 ⟨hb4, v, a, rfl, hr⟩
  have hb4' := bel_trans hb3' hb4
  clear hb3' hb4
  go_wp2_with fail
  refine (hr.out w4 (Below.refl _ _)).mono ?_
  rintro e w5 ⟨hb5, v', a', rfl, rfl, A1, A2, n1, c1, c2, S1, N1, hn1, rfl, rfl, hm1, hm2⟩
  have hb5' := bel_trans hb4' hb5
  have HM1 := Lib.hid hm1
  have HM2 := Lib.hid hm2
  clear hb4' hb5 hr hm1 hm2
  obtain ⟨rb, hrb⟩ : ∃ rb : Bool, rb = true ↔ RightP S N n := by
    by_cases h : RightP S N n
    · exact ⟨true, by simp [h]⟩
    · exact ⟨false, by simp [h]⟩
  have HR := Lib.hid hrb
  clear hrb
  go_wp2_with fail
  refine (right_any A n c S N w5 (by omega) (Arr.below H.out hb5') rb HR.out).mono ?_
  rintro e w6 ⟨rfl, hb6⟩
  have hb6' := bel_trans hb5' hb6
  have HM1' := Lib.hid (Arr.below HM1.out hb6)
  have HM2' := Lib.hid (Arr.below HM2.out hb6)
  clear hb5' hb6 HM1 HM2
  go_wp2_with fail
  refine (rright_any A n c S N w6 (by omega) (Arr.below H.out hb6') (fun i hi => (HN.out i hi).1) rb HR.out).mono ?_
  rintro e w7 ⟨rfl, hb7⟩
  have hb7' := bel_trans hb6' hb7
  have HM1 := Lib.hid (Arr.below HM1'.out hb7)
  have HM2 := Lib.hid (Arr.below HM2'.out hb7)
  clear hb6' hb7 HM1' HM2'
  go_wp2_with fail
  refine (now_any A n c S N w7 (by omega) (Arr.below H.out hb7') HN.out).mono ?_
  rintro e w8 ⟨rfl, hb8⟩
  have hb8' := bel_trans hb7' hb8
  have HM1' := Lib.hid (Arr.below HM1.out hb8)
  have HM2' := Lib.hid (Arr.below HM2.out hb8)
  clear hb7' hb8 HM1 HM2
  go_wp2_with fail
  refine (rnow_any A n c S N w8 (by omega) (Arr.below H.out hb8') HN.out).mono ?_
  rintro e w9 ⟨rfl, hb9⟩
  have hb9' := bel_trans hb8' hb9
  have HM1 := Lib.hid (Arr.below HM1'.out hb9)
  have HM2 := Lib.hid (Arr.below HM2'.out hb9)
  clear hb8' hb9 HM1' HM2'
  generalize nowN N n = q3
  go_wp2_with fail
  refine (equal_true A1 A2 n1 c1 c2 S1 N1 w9 (by omega) HM1.out HM2.out).mono ?_
  rintro e w10 ⟨rfl, hb10⟩
  have hb10' := bel_trans hb9' hb10
  clear hb9' hb10
  go_wp2_with fail
  refine (alive_any w10).mono ?_
  rintro e w11 ⟨rfl, hb11⟩
  have hb11' := bel_trans hb10' hb11
  clear hb10' hb11
  go_wp2
  go_ret
  exact ⟨rfl, (by repeat (first | assumption | exact Below.refl _ _ | refine bel_alloc ?_ _ | refine bel_drewN ?_ _ | refine bel_drew ?_ | refine bel_trans ?_ (by assumption)))⟩

theorem sizesTells_any (A : Option Addr) (n c : Nat) (S N : Nat → Int) (s z : Int) (w : World) (hn : n ≤ 9223372036854775807) (h : Marks w A n S N) (hN : ∀ i, i < n → 0 ≤ N i) :
    Calls Try.prog 8 #[.slice A n c, .int .u64 s, .int .i64 z] w fun e w' => e = .returned (.bool true) ∧ Below w.heap.size w w' := by
  by_cases hg : (∀ i, i < n → N i ≤ 32) ∧ n ≤ 60
  · exact sizesTells_fine A n c S N s z w hg.2 h (fun i hi => ⟨hN i hi, hg.1 i hi⟩)
  have H := Lib.hid h
  clear h
  have HN := Lib.hid hN
  have HG := Lib.hid hg
  clear hN hg
  obtain ⟨rb, hrb⟩ : ∃ rb : Bool, rb = true ↔ RightP S N n := by
    by_cases h : RightP S N n
    · exact ⟨true, by simp [h]⟩
    · exact ⟨false, by simp [h]⟩
  have HR := Lib.hid hrb
  clear hrb
  go_enter Try.func8, Try.ntmps8
  go_wp2_with fail
  refine (great_yes A n c S N w hn H.out HG.out).mono ?_
  rintro e w1 ⟨rfl, hb1⟩
  go_wp2_with fail
  refine (right_any A n c S N w1 (by omega) (Arr.below H.out hb1) rb HR.out).mono ?_
  rintro e w2 ⟨rfl, hb2⟩
  have hb2' := bel_trans hb1 hb2
  clear hb1 hb2
  go_wp2_with fail
  refine (rright_any A n c S N w2 (by omega) (Arr.below H.out hb2') HN.out rb HR.out).mono ?_
  rintro e w3 ⟨rfl, hb3⟩
  have hb3' := bel_trans hb2' hb3
  clear hb2' hb3
  go_wp2
  go_ret
  exact ⟨rfl, (by repeat (first | assumption | exact Below.refl _ _ | refine bel_alloc ?_ _ | refine bel_drewN ?_ _ | refine bel_drew ?_ | refine bel_trans ?_ (by assumption)))⟩
end Go.Proofs.Ytobecmablabmeaa.Sizes
