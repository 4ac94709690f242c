/- The contracts of package stack, at strings and at ints. -/
import Derived.Test.YtobecmablabmeaaObj
import Derived.BigRegion
import Derived.StillTailTactics
namespace Go.Proofs.Ytobecmablabmeaa.Stack
open Go.RowKit Mem
set_option linter.unusedVariables false
set_option linter.unusedSimpArgs false
def most (z : Int) : Nat := (min (max z 0) 16).toNat

/-! ### Stack[string] -/
def stkS (S : Nat → ByteArray) (n m : Nat) : Nat → Value := fun j => if j < 16 then .string (S j) else if j = 16 then .int .i64 n else .int .i64 m
def StkS (w : World) (g : Nat) (S : Nat → ByteArray) (n m : Nat) : Prop := w.rowIs g 80 18 (stkS S n m)
theorem stkS_cells {w : World} {g : Nat} {S : Nat → ByteArray} {n m : Nat} (h : StkS w g S n m) :
    w.cell? ⟨g, 16, none⟩ = some (.int .i64 n) ∧ w.cell? ⟨g, 17, none⟩ = some (.int .i64 m) ∧ (∀ i, i < 16 → w.cell? ⟨g, i, none⟩ = some (.string (S i))) ∧ ∀ i, w.frozen? ⟨g, i, none⟩ = false :=
  ⟨h.cell (i := 16) (by omega), h.cell (i := 17) (by omega), fun i hi => by rw [h.cell (i := i) (by omega)]; simp [stkS, hi], h.frozen⟩
def updS (S : Nat → ByteArray) (n : Nat) (x : ByteArray) : Nat → ByteArray := fun j => if j = n then x else S j
theorem stkS_put {w : World} {g : Nat} {S : Nat → ByteArray} {n m : Nat} {x : ByteArray} (i k : Nat) (h : StkS w g S n m) (hi : i < 16) :
    StkS ((w.setCell ⟨g, i, none⟩ (.string x)).setCell ⟨g, 16, none⟩ (.int .i64 k)) g (updS S i x) k m :=
  ((h.set i _).set 16 _).congr fun j hj => by
    unfold stkS updS
    by_cases h1 : j = 16
    · subst h1; simp
    · by_cases h2 : j = i
      · subst h2; simp [h1, hi]
      · by_cases h3 : j < 16 <;> simp [h1, h2, h3]
theorem stkS_pop {w : World} {g : Nat} {S : Nat → ByteArray} {n m : Nat} {x : ByteArray} (i k : Nat) (h : StkS w g S n m) (hi : i < 16) :
    StkS ((w.setCell ⟨g, 16, none⟩ (.int .i64 k)).setCell ⟨g, i, none⟩ (.string x)) g (updS S i x) k m :=
  ((h.set 16 _).set i _).congr fun j hj => by
    unfold stkS updS
    by_cases h1 : j = i
    · subst h1; simp [hi]
    · by_cases h2 : j = 16
      · subst h2; simp [h1]
      · by_cases h3 : j < 16 <;> simp [h1, h2, h3]
theorem stkS_n {w : World} {g : Nat} {S : Nat → ByteArray} {n m : Nat} (k : Nat) (h : StkS w g S n m) :
    StkS (w.setCell ⟨g, 16, none⟩ (.int .i64 k)) g S k m :=
  (h.set 16 _).congr fun j hj => by
    unfold stkS
    by_cases h2 : j = 16
    · subst h2; simp
    · by_cases h3 : j < 16 <;> simp [h2, h3]
theorem stkS_one {w : World} {g : Nat} {S : Nat → ByteArray} {n m : Nat} (i : Nat) (x : ByteArray) (h : StkS w g S n m) (hi : i < 16) :
    StkS (w.setCell ⟨g, i, none⟩ (.string x)) g (updS S i x) n m :=
  (h.set i _).congr fun j hj => by
    unfold stkS updS
    by_cases h1 : j = i
    · subst h1; simp [hi]
    · by_cases h3 : j < 16 <;> simp [h1, h3]
theorem stkS_tch {w w' : World} {g : Nat} {S : Nat → ByteArray} {n m : Nat} (h : StkS w g S n m) (hb : Below w.heap.size w w') : StkS w' g S n m := row_below h hb

theorem newS_any (z : Int) (w : World) : Calls Try.prog 43 #[.int .i64 z] w fun e w' =>
    e = .returned (.pointer (some ⟨w.heap.size, 0, none⟩)) ∧ StkS w' w.heap.size (fun _ => ⟨#[]⟩) 0 (most z) ∧ Below w.heap.size w w' := by
  have hm : (most z : Int) = min (max z 0) 16 := by unfold most; omega
  have key : ∀ (w : World) (q : Int), q = (most z : Int) → StkS (w.alloc (.cells #[.string ⟨#[]⟩, .string ⟨#[]⟩, .string ⟨#[]⟩, .string ⟨#[]⟩, .string ⟨#[]⟩, .string ⟨#[]⟩, .string ⟨#[]⟩, .string ⟨#[]⟩, .string ⟨#[]⟩, .string ⟨#[]⟩, .string ⟨#[]⟩, .string ⟨#[]⟩, .string ⟨#[]⟩, .string ⟨#[]⟩, .string ⟨#[]⟩, .string ⟨#[]⟩, .int .i64 0, .int .i64 q] 80)) w.heap.size (fun _ => ⟨#[]⟩) 0 (most z) := fun w q hq => by
    subst hq
    exact World.rowIs_alloc w _ 80 _ (fun i hi => by
      have hi' : i < 18 := hi
      unfold stkS
      iterate 18 (rcases i with _ | i; · rfl)
      omega)
  have K := Lib.hid key
  clear key
  have HM := Lib.hid hm
  clear hm
  go_enter Try.func43, Try.ntmps43
  go_wp2
  all_goals (go_ret; exact ⟨rfl, K.out w _ (by have := HM.out; omega), (by repeat (first | assumption | exact Below.refl _ _ | refine bel_alloc ?_ _ | refine bel_drewN ?_ _ | refine bel_drew ?_ | refine bel_trans ?_ (by assumption)))⟩)

theorem pushS_full (x : ByteArray) (S : Nat → ByteArray) (n m : Nat) (g : Nat) (w : World) (h : StkS w g S n m) (hn : n = m) (hm : m ≤ 16) :
    Calls Try.prog 46 #[.pointer (some ⟨g, 0, none⟩), .string x] w fun e w' => e = .returned (.bool false) ∧ StkS w' g S n m ∧ Tch w w' g := by
  subst hn
  obtain ⟨c16, c17, cs, fz⟩ := stkS_cells h
  have H := Lib.hid h
  clear h cs fz
  go_enter Try.func46, Try.ntmps46
  go_wp2
  go_quiet (fail)
  go_wp2
  go_ret
  exact ⟨rfl, row_drewN H.out _, (by repeat (first | assumption | exact Tch.refl _ _ | refine Tch.set ?_ _ _ | refine Tch.alloc ?_ _ | refine Tch.drewN ?_ _ | refine Tch.drew ?_))⟩
theorem pushS_more (x : ByteArray) (S : Nat → ByteArray) (n m : Nat) (g : Nat) (w : World) (h : StkS w g S n m) (hn : n < m) (hm : m ≤ 16) :
    Calls Try.prog 46 #[.pointer (some ⟨g, 0, none⟩), .string x] w fun e w' => e = .returned (.bool true) ∧ StkS w' g (updS S n x) (n + 1) m ∧ Tch w w' g := by
  obtain ⟨c16, c17, cs, fz⟩ := stkS_cells h
  have cn := cs n (by omega)
  have fn := fz n
  have f16 := fz 16
  have H := Lib.hid h
  clear h cs fz
  have hd : ((n : Int) == (m : Int)) = false := by simp; omega
  have hn16 : n < 16 := by omega
  go_enter Try.func46, Try.ntmps46
  go_wp2
  go_quiet (fail)
  go_wp2
  obtain ⟨W, hW⟩ : ∃ W, W = w.drewN nq := ⟨_, rfl⟩
  have HS : StkS W g S n m := by rw [hW]; exact row_drewN H.out _
  have HT : Tch w W g := by rw [hW]; exact (Tch.refl w g).drewN _
  rw [← hW]
  clear hW c16 c17 cn fn f16 H
  obtain ⟨c16, c17, cs, fz⟩ := stkS_cells HS
  have cn := cs n (by omega)
  have fn := fz n
  have f16 := fz 16
  have HS' := Lib.hid HS
  have HT' := Lib.hid HT
  clear HS HT cs fz
  go_region
  go_wp2
  go_ret
  exact ⟨rfl, stkS_put n (n + 1) HS'.out (by omega), by have HT := HT'.out; exact (by repeat (first | assumption | exact Tch.refl _ _ | refine Tch.set ?_ _ _ | refine Tch.alloc ?_ _ | refine Tch.drewN ?_ _ | refine Tch.drew ?_))⟩

theorem lenS_any (S : Nat → ByteArray) (n m : Nat) (g : Nat) (w : World) (h : StkS w g S n m) (hn : n ≤ 16) :
    Calls Try.prog 49 #[.pointer (some ⟨g, 0, none⟩)] w fun e w' => e = .returned (.int .i64 n) ∧ Below w.heap.size w w' := by
  obtain ⟨c16, c17, cs, fz⟩ := stkS_cells h
  clear h cs fz
  go_enter Try.func49, Try.ntmps49
  go_wp2
  go_ret
  exact ⟨rfl, (by repeat (first | assumption | exact Below.refl _ _ | refine bel_alloc ?_ _ | refine bel_drewN ?_ _ | refine bel_drew ?_ | refine bel_trans ?_ (by assumption)))⟩
end Go.Proofs.Ytobecmablabmeaa.Stack
