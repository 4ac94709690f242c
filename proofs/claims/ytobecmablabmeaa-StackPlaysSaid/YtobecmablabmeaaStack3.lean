/- The contracts of package stack, at strings and at ints. -/
import Derived.Test.YtobecmablabmeaaStack2
import Derived.StillTailTactics
import Derived.BigRegion
namespace Go.Proofs.Ytobecmablabmeaa.Stack
open Go.RowKit Mem
set_option linter.unusedVariables false
set_option linter.unusedSimpArgs false
/-! ### All, slices.Clone, slices.Equal at strings -/
def SF (S : Nat → ByteArray) : Nat → Nat → Value := fun i _ => .string (S i)
theorem info_str : (Try.prog.info? 9).map (fun i => (i.zero, i.size, i.bytes)) = some (some (.string ⟨#[]⟩), 1, 16) := by kernel_rfl
theorem all_any (S : Nat → ByteArray) (n m : Nat) (g : Nat) (w : World) (h : StkS w g S n m) (hn : n ≤ 16) :
    Calls Try.prog 51 #[.pointer (some ⟨g, 0, none⟩)] w fun e w' => ∃ v, e = .returned v ∧ Own w' w.heap.size 9 1 v n (SF S) ∧ Below w.heap.size w w' := by
  obtain ⟨i0, hi, hz0, hz1, hz2⟩ := info_parts info_str
  obtain ⟨c16, c17, cs, fz⟩ := stkS_cells h
  have HC := Lib.hid cs
  clear fz cs h
  have hni : (n : Int) ≤ 16 := by omega
  go_enter Try.func51, Try.ntmps51
  go_wp2
  go_still_tail 8, (by kernel_rfl)
  have ha : Arr w.drew (some ⟨g, 0, none⟩) n 1 (SF S) := fun _ => ⟨g, 0, rfl, fun i hi j hj => by
    obtain rfl : j = 0 := by omega
    show w.cell? ⟨g, 0 + i * 1 + 0, none⟩ = _
    rw [show 0 + i * 1 + 0 = i by omega]
    exact HC.out i (by omega)⟩
  have HA := Lib.hid ha
  clear ha
  change wpList _ _ _ _ _ w.drew
  go_wp2_with (at_builtin; refine wpList_append_arr _ rfl (.const (.slice none 0 0)) (.tmp 10) 65 rfl w.heap.size 9 i0 (.string ⟨#[]⟩) 1 16 Try.underlying65 hi hz0 hz1 hz2 rfl (by decide) _ _ _ rfl (Own.nil (F := SF S)) _ _ _ (SF S) rfl HA.out (fun _ _ _ _ => rfl) (by unfold maxLen; omega) (by omega) (Nat.le_refl _) ?_; intro v1 w2 hown1 hgrow1 _; have HB1 : Below w.heap.size w w2 := bel_own (by repeat (first | assumption | exact Below.refl _ _ | refine bel_alloc ?_ _ | refine bel_drewN ?_ _ | refine bel_drew ?_ | refine bel_trans ?_ (by assumption))) (Own.nil (e := 9) (sz := 1) (F := SF S)) hgrow1; have HO1 := Lib.hid (Own.of_nil hown1); clear hown1 hgrow1)
  go_ret
  exact ⟨_, rfl, HO1.out, HB1⟩

set_option maxRecDepth 100000 in
theorem clone_any (A : Option Addr) (n c : Nat) (S : Nat → ByteArray) (w : World) (hn : n ≤ 1000) (hA : A = none → n = 0) (h : Arr w A n 1 (SF S)) :
    Calls Try.prog 47 #[.slice A n c] w fun e w' => ∃ v, e = .returned v ∧ Own w' w.heap.size 9 1 v n (SF S) ∧ Below w.heap.size w w' := by
  obtain ⟨i0, hi, hz0, hz1, hz2⟩ := info_parts info_str
  have H := Lib.hid h
  clear h
  rcases A with _ | a
  · obtain rfl := hA rfl
    have hnil := fun w => Lib.run_eql_slice_nil (P := Try.prog) w 65 9 none 0 c 0 0 Try.underlying65
    go_enter Try.func47, Try.ntmps47
    go_wp2
    go_ret
    exact ⟨_, rfl, Own.nil, (by repeat (first | assumption | exact Below.refl _ _ | refine bel_alloc ?_ _ | refine bel_drewN ?_ _ | refine bel_drew ?_ | refine bel_trans ?_ (by assumption)))⟩
  · clear hA
    have hnil := fun w => Lib.run_eql_slice_nil (P := Try.prog) w 65 9 (some a) n c 0 0 Try.underlying65
    go_enter Try.func47, Try.ntmps47
    go_wp2_with (at_builtin; refine wpList_append_arr _ rfl (.tmp 5) (.tmp 6) 65 rfl w.heap.size 9 i0 (.string ⟨#[]⟩) 1 16 Try.underlying65 hi hz0 hz1 hz2 rfl (by decide) _ _ _ rfl (Own.made (F := SF S) _ rfl (Nat.le_refl _) (by unfold maxLen; omega) rfl) _ _ _ (SF S) rfl (Arr.below H.out (bel_alloc (Below.refl _ _) _)) (fun _ _ _ _ => rfl) (by unfold maxLen; omega) (by omega) (by simp) ?_; intro v1 w2 hown1 hgrow1 _; have HB1 : Below w.heap.size w w2 := bel_own (by repeat (first | assumption | exact Below.refl _ _ | refine bel_alloc ?_ _ | refine bel_drewN ?_ _ | refine bel_drew ?_ | refine bel_trans ?_ (by assumption))) (Own.made (F := SF S) (e := 9) (sz := 1) _ rfl (Nat.le_refl _) (by unfold maxLen; omega) rfl) hgrow1; have HO1 := Lib.hid (Own.of_nil hown1); clear hown1 hgrow1)
    go_ret
    exact ⟨_, rfl, HO1.out, HB1⟩

theorem SF_at {w : World} {A : Option Addr} {n : Nat} {S : Nat → ByteArray} (h : Arr w A n 1 (SF S)) (k : Nat) (hk : k < n) :
    ∃ b off, A = some ⟨b, off, none⟩ ∧ w.cell? ⟨b, off + k, none⟩ = some (.string (S k)) ∧ b < w.heap.size := by
  obtain ⟨b, off, e, hc⟩ := h (by omega)
  have := hc k hk 0 (by omega)
  rw [Nat.mul_one, Nat.add_zero] at this
  exact ⟨b, off, e, this, lt_of_cell this⟩
theorem equalS_true (A A' : Option Addr) (n c c' : Nat) (S : Nat → ByteArray) (w : World) (hn : n ≤ 1000) (h : Arr w A n 1 (SF S)) (h' : Arr w A' n 1 (SF S)) :
    Calls Try.prog 50 #[.slice A n c, .slice A' n c'] w fun e w' => e = .returned (.bool true) ∧ Below w.heap.size w w' := by
  have H := Lib.hid h
  clear h
  have H' := Lib.hid h'
  clear h'
  go_enter Try.func50, Try.ntmps50
  go_wp2
  go_loopw [13] (fun i wr => ∃ k : Nat, k ≤ n ∧ i = .int .i64 k ∧ Below w.heap.size w wr) (fun i _ => n - (intOf i).toNat)
  case atStart => exact ⟨0, Nat.zero_le _, rfl, Below.refl _ _⟩
  case round =>
    obtain ⟨k, hk, rfl, hb⟩ := hrel
    by_cases hlt : k < n
    · obtain ⟨b, off, rfl, g1, gb⟩ := SF_at (Arr.below H.out hb) k hlt
      obtain ⟨b', off', rfl, g1', gb'⟩ := SF_at (Arr.below H'.out hb) k hlt
      go_wp2
      go_quiet (fail)
      go_wp2
      go_roundw
      case rel => exact ⟨k + 1, by omega, by go_num, (by repeat (first | assumption | exact Below.refl _ _ | refine bel_alloc ?_ _ | refine bel_drewN ?_ _ | refine bel_drew ?_ | refine bel_trans ?_ (by assumption)))⟩
      case measure => simp [intOf]; omega
    · go_wp2
      go_ret
      exact ⟨rfl, (by repeat (first | assumption | exact Below.refl _ _ | refine bel_alloc ?_ _ | refine bel_drewN ?_ _ | refine bel_drew ?_ | refine bel_trans ?_ (by assumption)))⟩

/-! ### Stack[int] -/
def stkI (S : Nat → Int) (n m : Nat) : Nat → Value := fun j => if j < 16 then .int .i64 (S j) else if j = 16 then .int .i64 n else .int .i64 m
def StkI (w : World) (g : Nat) (S : Nat → Int) (n m : Nat) : Prop := w.rowIs g 89 18 (stkI S n m)
theorem stkI_cells {w : World} {g : Nat} {S : Nat → Int} {n m : Nat} (h : StkI w g S n m) :
    w.cell? ⟨g, 16, none⟩ = some (.int .i64 n) ∧ w.cell? ⟨g, 17, none⟩ = some (.int .i64 m) ∧ (∀ i, i < 16 → w.cell? ⟨g, i, none⟩ = some (.int .i64 (S i))) ∧ ∀ i, w.frozen? ⟨g, i, none⟩ = false :=
  ⟨h.cell (i := 16) (by omega), h.cell (i := 17) (by omega), fun i hi => by rw [h.cell (i := i) (by omega)]; simp [stkI, hi], h.frozen⟩
def updI (S : Nat → Int) (n : Nat) (x : Int) : Nat → Int := fun j => if j = n then x else S j
theorem stkI_put {w : World} {g : Nat} {S : Nat → Int} {n m : Nat} {x : Int} (i k : Nat) (h : StkI w g S n m) (hi : i < 16) :
    StkI ((w.setCell ⟨g, i, none⟩ (.int .i64 x)).setCell ⟨g, 16, none⟩ (.int .i64 k)) g (updI S i x) k m :=
  ((h.set i _).set 16 _).congr fun j hj => by
    unfold stkI updI
    by_cases h1 : j = 16
    · subst h1; simp
    · by_cases h2 : j = i
      · subst h2; simp [h1, hi]
      · by_cases h3 : j < 16 <;> simp [h1, h2, h3]
theorem stkI_pop {w : World} {g : Nat} {S : Nat → Int} {n m : Nat} {x : Int} (i k : Nat) (h : StkI w g S n m) (hi : i < 16) :
    StkI ((w.setCell ⟨g, 16, none⟩ (.int .i64 k)).setCell ⟨g, i, none⟩ (.int .i64 x)) g (updI S i x) k m :=
  ((h.set 16 _).set i _).congr fun j hj => by
    unfold stkI updI
    by_cases h1 : j = i
    · subst h1; simp [hi]
    · by_cases h2 : j = 16
      · subst h2; simp [h1]
      · by_cases h3 : j < 16 <;> simp [h1, h2, h3]
theorem stkI_n {w : World} {g : Nat} {S : Nat → Int} {n m : Nat} (k : Nat) (h : StkI w g S n m) :
    StkI (w.setCell ⟨g, 16, none⟩ (.int .i64 k)) g S k m :=
  (h.set 16 _).congr fun j hj => by
    unfold stkI
    by_cases h2 : j = 16
    · subst h2; simp
    · by_cases h3 : j < 16 <;> simp [h2, h3]
theorem stkI_one {w : World} {g : Nat} {S : Nat → Int} {n m : Nat} (i : Nat) (x : Int) (h : StkI w g S n m) (hi : i < 16) :
    StkI (w.setCell ⟨g, i, none⟩ (.int .i64 x)) g (updI S i x) n m :=
  (h.set i _).congr fun j hj => by
    unfold stkI updI
    by_cases h1 : j = i
    · subst h1; simp [hi]
    · by_cases h3 : j < 16 <;> simp [h1, h3]
theorem stkI_tch {w w' : World} {g : Nat} {S : Nat → Int} {n m : Nat} (h : StkI w g S n m) (hb : Below w.heap.size w w') : StkI w' g S n m := row_below h hb

theorem newI_any (z : Int) (w : World) : Calls Try.prog 59 #[.int .i64 z] w fun e w' =>
    e = .returned (.pointer (some ⟨w.heap.size, 0, none⟩)) ∧ StkI w' w.heap.size (fun _ => 0) 0 (most z) ∧ Below w.heap.size w w' := by
  have hm : (most z : Int) = min (max z 0) 16 := by unfold most; omega
  have key : ∀ (w : World) (q : Int), q = (most z : Int) → StkI (w.alloc (.cells #[.int .i64 0, .int .i64 0, .int .i64 0, .int .i64 0, .int .i64 0, .int .i64 0, .int .i64 0, .int .i64 0, .int .i64 0, .int .i64 0, .int .i64 0, .int .i64 0, .int .i64 0, .int .i64 0, .int .i64 0, .int .i64 0, .int .i64 0, .int .i64 q] 89)) w.heap.size (fun _ => 0) 0 (most z) := fun w q hq => by
    subst hq
    exact World.rowIs_alloc w _ 89 _ (fun i hi => by
      have hi' : i < 18 := hi
      unfold stkI
      iterate 18 (rcases i with _ | i; · rfl)
      omega)
  have K := Lib.hid key
  clear key
  have HM := Lib.hid hm
  clear hm
  go_enter Try.func59, Try.ntmps59
  go_wp2
  all_goals (go_ret; exact ⟨rfl, K.out w _ (by have := HM.out; omega), (by repeat (first | assumption | exact Below.refl _ _ | refine bel_alloc ?_ _ | refine bel_drewN ?_ _ | refine bel_drew ?_ | refine bel_trans ?_ (by assumption)))⟩)

theorem pushI_full (x : Int) (S : Nat → Int) (n m : Nat) (g : Nat) (w : World) (h : StkI w g S n m) (hn : n = m) (hm : m ≤ 16) :
    Calls Try.prog 60 #[.pointer (some ⟨g, 0, none⟩), .int .i64 x] w fun e w' => e = .returned (.bool false) ∧ StkI w' g S n m ∧ Tch w w' g := by
  subst hn
  obtain ⟨c16, c17, cs, fz⟩ := stkI_cells h
  have H := Lib.hid h
  clear h cs fz
  go_enter Try.func60, Try.ntmps60
  go_wp2
  go_quiet (fail)
  go_wp2
  go_ret
  exact ⟨rfl, row_drewN H.out _, (by repeat (first | assumption | exact Tch.refl _ _ | refine Tch.set ?_ _ _ | refine Tch.alloc ?_ _ | refine Tch.drewN ?_ _ | refine Tch.drew ?_))⟩
theorem pushI_more (x : Int) (S : Nat → Int) (n m : Nat) (g : Nat) (w : World) (h : StkI w g S n m) (hn : n < m) (hm : m ≤ 16) :
    Calls Try.prog 60 #[.pointer (some ⟨g, 0, none⟩), .int .i64 x] w fun e w' => e = .returned (.bool true) ∧ StkI w' g (updI S n x) (n + 1) m ∧ Tch w w' g := by
  obtain ⟨c16, c17, cs, fz⟩ := stkI_cells h
  have cn := cs n (by omega)
  have fn := fz n
  have f16 := fz 16
  have H := Lib.hid h
  clear h cs fz
  have hd : ((n : Int) == (m : Int)) = false := by simp; omega
  have hn16 : n < 16 := by omega
  go_enter Try.func60, Try.ntmps60
  go_wp2
  go_quiet (fail)
  go_wp2
  obtain ⟨W, hW⟩ : ∃ W, W = w.drewN nq := ⟨_, rfl⟩
  have HS : StkI W g S n m := by rw [hW]; exact row_drewN H.out _
  have HT : Tch w W g := by rw [hW]; exact (Tch.refl w g).drewN _
  rw [← hW]
  clear hW c16 c17 cn fn f16 H
  obtain ⟨c16, c17, cs, fz⟩ := stkI_cells HS
  have cn := cs n (by omega)
  have fn := fz n
  have f16 := fz 16
  have HS' := Lib.hid HS
  have HT' := Lib.hid HT
  clear HS HT cs fz
  go_region
  go_wp2
  go_ret
  exact ⟨rfl, stkI_put n (n + 1) HS'.out (by omega), by have HT := HT'.out; exact (by repeat (first | assumption | exact Tch.refl _ _ | refine Tch.set ?_ _ _ | refine Tch.alloc ?_ _ | refine Tch.drewN ?_ _ | refine Tch.drew ?_))⟩

theorem lenI_any (S : Nat → Int) (n m : Nat) (g : Nat) (w : World) (h : StkI w g S n m) (hn : n ≤ 16) :
    Calls Try.prog 61 #[.pointer (some ⟨g, 0, none⟩)] w fun e w' => e = .returned (.int .i64 n) ∧ Below w.heap.size w w' := by
  obtain ⟨c16, c17, cs, fz⟩ := stkI_cells h
  clear h cs fz
  go_enter Try.func61, Try.ntmps61
  go_wp2
  go_ret
  exact ⟨rfl, (by repeat (first | assumption | exact Below.refl _ _ | refine bel_alloc ?_ _ | refine bel_drewN ?_ _ | refine bel_drew ?_ | refine bel_trans ?_ (by assumption)))⟩
end Go.Proofs.Ytobecmablabmeaa.Stack
