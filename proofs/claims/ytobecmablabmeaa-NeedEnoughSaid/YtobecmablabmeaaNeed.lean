/- Contracts of package need, and of the law's own counts: any numbers from -2^30 to 2^30. -/
import Derived.Test.YtobecmablabmeaaRegion
namespace Go.Proofs.Ytobecmablabmeaa.Need
open Go.RowKit Mem
set_option linter.unusedVariables false
set_option linter.unusedSimpArgs false

theorem ret_i64 {a b : Int} (h : a = b) : Ending.returned (.int .i64 a) = Ending.returned (.int .i64 b) := by rw [h]
theorem ret_bool {a b : Bool} (h : a = b) : Ending.returned (.bool a) = Ending.returned (.bool b) := by rw [h]
def nodesN (n : Int) : Int := max n 0 / 2 + 2
def pagesN (n : Int) : Int := (max n 0 + 115) / 116
def entriesN (k ct : Int) : Int := if k = 4 then 1 else if k = 5 then min (max ct 0) 32 else if k = 3 ∨ k = 10 ∨ k = 11 ∨ k = 12 ∨ k = 13 then 32 else 0
def growN (k : Int) : Int := if k = 2 then 0 else if k = 7 ∨ k = 9 then 16 else if k = 14 then 280 else 64
def dataN (k : Int) : Int := if k = 4 then 1 else 0
theorem nodes_any (n : Int) (w : World) (h0 : -4294967296 ≤ n) (h1 : n ≤ 4294967296) : Calls Try.prog 24 #[.int .i64 n] w fun e w' => e = .returned (.int .i64 (nodesN n)) ∧ Below w.heap.size w w' := by
  go_enter Try.func24, Try.ntmps24
  go_wp2
  all_goals (go_ret; exact ⟨ret_i64 (by unfold nodesN; omega), (by repeat (first | assumption | exact Below.refl _ _ | refine bel_alloc ?_ _ | refine bel_drewN ?_ _ | refine bel_drew ?_ | refine bel_trans ?_ (by assumption)))⟩)
theorem blocks_any (n : Int) (w : World) (h0 : -4294967296 ≤ n) (h1 : n ≤ 4294967296) : Calls Try.prog 57 #[.int .i64 n] w fun e w' => e = .returned (.int .i64 (pagesN n)) ∧ Below w.heap.size w w' := by
  go_enter Try.func57, Try.ntmps57
  go_wp2
  all_goals (go_ret; exact ⟨ret_i64 (by unfold pagesN; omega), (by repeat (first | assumption | exact Below.refl _ _ | refine bel_alloc ?_ _ | refine bel_drewN ?_ _ | refine bel_drew ?_ | refine bel_trans ?_ (by assumption)))⟩)
theorem pages_any (n : Int) (w : World) (h0 : -4294967296 ≤ n) (h1 : n ≤ 4294967296) : Calls Try.prog 25 #[.int .i64 n] w fun e w' => e = .returned (.int .i64 (pagesN n)) ∧ Below w.heap.size w w' := by
  go_enter Try.func25, Try.ntmps25
  go_wp2_with fail
  refine (blocks_any n w h0 h1).mono ?_
  rintro e w' ⟨rfl, hb⟩
  go_wp2
  go_ret
  exact ⟨rfl, (by repeat (first | assumption | exact Below.refl _ _ | refine bel_alloc ?_ _ | refine bel_drewN ?_ _ | refine bel_drew ?_ | refine bel_trans ?_ (by assumption)))⟩
theorem lpages_any (n : Int) (w : World) (h0 : -4294967296 ≤ n) (h1 : n ≤ 4294967296) : Calls Try.prog 22 #[.int .i64 n] w fun e w' => e = .returned (.int .i64 (pagesN n)) ∧ Below w.heap.size w w' := by
  go_enter Try.func22, Try.ntmps22
  go_wp2
  all_goals (go_ret; exact ⟨ret_i64 (by unfold pagesN; omega), (by repeat (first | assumption | exact Below.refl _ _ | refine bel_alloc ?_ _ | refine bel_drewN ?_ _ | refine bel_drew ?_ | refine bel_trans ?_ (by assumption)))⟩)

set_option maxHeartbeats 1000000 in
theorem entries_any (k vo i bl ct pt : Int) (A1 A2 : Option Addr) (n1 c1 n2 c2 : Nat) (w : World) : Calls Try.prog 26 #[.agg #[.int .i64 k, .int .i64 vo, .int .i64 i, .int .i64 bl, .int .i64 ct, .int .u64 pt, .slice A1 n1 c1, .slice A2 n2 c2]] w fun e w' => e = .returned (.int .i64 (entriesN k ct)) ∧ Below w.heap.size w w' := by
  by_cases h4 : k = 4
  · subst h4
    go_enter Try.func26, Try.ntmps26
    go_wp2
    all_goals (go_ret; exact ⟨ret_i64 (by simp [entriesN]), (by repeat (first | assumption | exact Below.refl _ _ | refine bel_alloc ?_ _ | refine bel_drewN ?_ _ | refine bel_drew ?_ | refine bel_trans ?_ (by assumption)))⟩)
  have d4 : (k == 4) = false := by simpa using h4
  by_cases h5 : k = 5
  · subst h5
    go_enter Try.func26, Try.ntmps26
    go_wp2
    all_goals (go_ret; exact ⟨ret_i64 (by simp [entriesN]; omega), (by repeat (first | assumption | exact Below.refl _ _ | refine bel_alloc ?_ _ | refine bel_drewN ?_ _ | refine bel_drew ?_ | refine bel_trans ?_ (by assumption)))⟩)
  have d5 : (k == 5) = false := by simpa using h5
  by_cases h3 : k = 3
  · subst h3
    go_enter Try.func26, Try.ntmps26
    go_wp2
    all_goals (go_ret; exact ⟨ret_i64 (by simp [entriesN]), (by repeat (first | assumption | exact Below.refl _ _ | refine bel_alloc ?_ _ | refine bel_drewN ?_ _ | refine bel_drew ?_ | refine bel_trans ?_ (by assumption)))⟩)
  have d3 : (k == 3) = false := by simpa using h3
  by_cases h10 : k = 10
  · subst h10
    go_enter Try.func26, Try.ntmps26
    go_wp2
    all_goals (go_ret; exact ⟨ret_i64 (by simp [entriesN]), (by repeat (first | assumption | exact Below.refl _ _ | refine bel_alloc ?_ _ | refine bel_drewN ?_ _ | refine bel_drew ?_ | refine bel_trans ?_ (by assumption)))⟩)
  have d10 : (k == 10) = false := by simpa using h10
  by_cases h11 : k = 11
  · subst h11
    go_enter Try.func26, Try.ntmps26
    go_wp2
    all_goals (go_ret; exact ⟨ret_i64 (by simp [entriesN]), (by repeat (first | assumption | exact Below.refl _ _ | refine bel_alloc ?_ _ | refine bel_drewN ?_ _ | refine bel_drew ?_ | refine bel_trans ?_ (by assumption)))⟩)
  have d11 : (k == 11) = false := by simpa using h11
  by_cases h12 : k = 12
  · subst h12
    go_enter Try.func26, Try.ntmps26
    go_wp2
    all_goals (go_ret; exact ⟨ret_i64 (by simp [entriesN]), (by repeat (first | assumption | exact Below.refl _ _ | refine bel_alloc ?_ _ | refine bel_drewN ?_ _ | refine bel_drew ?_ | refine bel_trans ?_ (by assumption)))⟩)
  have d12 : (k == 12) = false := by simpa using h12
  by_cases h13 : k = 13
  · subst h13
    go_enter Try.func26, Try.ntmps26
    go_wp2
    all_goals (go_ret; exact ⟨ret_i64 (by simp [entriesN]), (by repeat (first | assumption | exact Below.refl _ _ | refine bel_alloc ?_ _ | refine bel_drewN ?_ _ | refine bel_drew ?_ | refine bel_trans ?_ (by assumption)))⟩)
  have d13 : (k == 13) = false := by simpa using h13
  have e : entriesN k ct = 0 := by simp [entriesN, h4, h5, h3, h10, h11, h12, h13]
  have E := Lib.hid e
  clear e h4 h5 h3 h10 h11 h12 h13
  go_enter Try.func26, Try.ntmps26
  go_wp2
  go_ret
  exact ⟨ret_i64 E.out.symm, (by repeat (first | assumption | exact Below.refl _ _ | refine bel_alloc ?_ _ | refine bel_drewN ?_ _ | refine bel_drew ?_ | refine bel_trans ?_ (by assumption)))⟩

set_option maxHeartbeats 1000000 in
theorem lentries_any (k vo i bl ct pt : Int) (A1 A2 : Option Addr) (n1 c1 n2 c2 : Nat) (w : World) : Calls Try.prog 21 #[.agg #[.int .i64 k, .int .i64 vo, .int .i64 i, .int .i64 bl, .int .i64 ct, .int .u64 pt, .slice A1 n1 c1, .slice A2 n2 c2]] w fun e w' => e = .returned (.int .i64 (entriesN k ct)) ∧ Below w.heap.size w w' := by
  by_cases h4 : k = 4
  · subst h4
    go_enter Try.func21, Try.ntmps21
    go_wp2
    all_goals (go_ret; exact ⟨ret_i64 (by simp [entriesN]), (by repeat (first | assumption | exact Below.refl _ _ | refine bel_alloc ?_ _ | refine bel_drewN ?_ _ | refine bel_drew ?_ | refine bel_trans ?_ (by assumption)))⟩)
  have d4 : (k == 4) = false := by simpa using h4
  by_cases h5 : k = 5
  · subst h5
    go_enter Try.func21, Try.ntmps21
    go_wp2
    all_goals (go_ret; exact ⟨ret_i64 (by simp [entriesN]; omega), (by repeat (first | assumption | exact Below.refl _ _ | refine bel_alloc ?_ _ | refine bel_drewN ?_ _ | refine bel_drew ?_ | refine bel_trans ?_ (by assumption)))⟩)
  have d5 : (k == 5) = false := by simpa using h5
  by_cases h3 : k = 3
  · subst h3
    go_enter Try.func21, Try.ntmps21
    go_wp2
    all_goals (go_ret; exact ⟨ret_i64 (by simp [entriesN]), (by repeat (first | assumption | exact Below.refl _ _ | refine bel_alloc ?_ _ | refine bel_drewN ?_ _ | refine bel_drew ?_ | refine bel_trans ?_ (by assumption)))⟩)
  have d3 : (k == 3) = false := by simpa using h3
  by_cases h10 : k = 10
  · subst h10
    go_enter Try.func21, Try.ntmps21
    go_wp2
    all_goals (go_ret; exact ⟨ret_i64 (by simp [entriesN]), (by repeat (first | assumption | exact Below.refl _ _ | refine bel_alloc ?_ _ | refine bel_drewN ?_ _ | refine bel_drew ?_ | refine bel_trans ?_ (by assumption)))⟩)
  have d10 : (k == 10) = false := by simpa using h10
  by_cases h11 : k = 11
  · subst h11
    go_enter Try.func21, Try.ntmps21
    go_wp2
    all_goals (go_ret; exact ⟨ret_i64 (by simp [entriesN]), (by repeat (first | assumption | exact Below.refl _ _ | refine bel_alloc ?_ _ | refine bel_drewN ?_ _ | refine bel_drew ?_ | refine bel_trans ?_ (by assumption)))⟩)
  have d11 : (k == 11) = false := by simpa using h11
  by_cases h12 : k = 12
  · subst h12
    go_enter Try.func21, Try.ntmps21
    go_wp2
    all_goals (go_ret; exact ⟨ret_i64 (by simp [entriesN]), (by repeat (first | assumption | exact Below.refl _ _ | refine bel_alloc ?_ _ | refine bel_drewN ?_ _ | refine bel_drew ?_ | refine bel_trans ?_ (by assumption)))⟩)
  have d12 : (k == 12) = false := by simpa using h12
  by_cases h13 : k = 13
  · subst h13
    go_enter Try.func21, Try.ntmps21
    go_wp2
    all_goals (go_ret; exact ⟨ret_i64 (by simp [entriesN]), (by repeat (first | assumption | exact Below.refl _ _ | refine bel_alloc ?_ _ | refine bel_drewN ?_ _ | refine bel_drew ?_ | refine bel_trans ?_ (by assumption)))⟩)
  have d13 : (k == 13) = false := by simpa using h13
  have e : entriesN k ct = 0 := by simp [entriesN, h4, h5, h3, h10, h11, h12, h13]
  have E := Lib.hid e
  clear e h4 h5 h3 h10 h11 h12 h13
  go_enter Try.func21, Try.ntmps21
  go_wp2
  go_ret
  exact ⟨ret_i64 E.out.symm, (by repeat (first | assumption | exact Below.refl _ _ | refine bel_alloc ?_ _ | refine bel_drewN ?_ _ | refine bel_drew ?_ | refine bel_trans ?_ (by assumption)))⟩

set_option maxHeartbeats 1000000 in
theorem grow_any (k vo i bl ct pt : Int) (A1 A2 : Option Addr) (n1 c1 n2 c2 : Nat) (w : World) : Calls Try.prog 27 #[.agg #[.int .i64 k, .int .i64 vo, .int .i64 i, .int .i64 bl, .int .i64 ct, .int .u64 pt, .slice A1 n1 c1, .slice A2 n2 c2]] w fun e w' => e = .returned (.int .i64 (growN k)) ∧ Below w.heap.size w w' := by
  by_cases h2 : k = 2
  · subst h2
    go_enter Try.func27, Try.ntmps27
    go_wp2
    all_goals (go_ret; exact ⟨ret_i64 (by simp [growN]), (by repeat (first | assumption | exact Below.refl _ _ | refine bel_alloc ?_ _ | refine bel_drewN ?_ _ | refine bel_drew ?_ | refine bel_trans ?_ (by assumption)))⟩)
  have d2 : (k == 2) = false := by simpa using h2
  by_cases h7 : k = 7
  · subst h7
    go_enter Try.func27, Try.ntmps27
    go_wp2
    all_goals (go_ret; exact ⟨ret_i64 (by simp [growN]), (by repeat (first | assumption | exact Below.refl _ _ | refine bel_alloc ?_ _ | refine bel_drewN ?_ _ | refine bel_drew ?_ | refine bel_trans ?_ (by assumption)))⟩)
  have d7 : (k == 7) = false := by simpa using h7
  by_cases h9 : k = 9
  · subst h9
    go_enter Try.func27, Try.ntmps27
    go_wp2
    all_goals (go_ret; exact ⟨ret_i64 (by simp [growN]), (by repeat (first | assumption | exact Below.refl _ _ | refine bel_alloc ?_ _ | refine bel_drewN ?_ _ | refine bel_drew ?_ | refine bel_trans ?_ (by assumption)))⟩)
  have d9 : (k == 9) = false := by simpa using h9
  by_cases h14 : k = 14
  · subst h14
    go_enter Try.func27, Try.ntmps27
    go_wp2
    all_goals (go_ret; exact ⟨ret_i64 (by simp [growN]), (by repeat (first | assumption | exact Below.refl _ _ | refine bel_alloc ?_ _ | refine bel_drewN ?_ _ | refine bel_drew ?_ | refine bel_trans ?_ (by assumption)))⟩)
  have d14 : (k == 14) = false := by simpa using h14
  have e : growN k = 64 := by simp [growN, h2, h7, h9, h14]
  have E := Lib.hid e
  clear e h2 h7 h9 h14
  go_enter Try.func27, Try.ntmps27
  go_wp2
  go_ret
  exact ⟨ret_i64 E.out.symm, (by repeat (first | assumption | exact Below.refl _ _ | refine bel_alloc ?_ _ | refine bel_drewN ?_ _ | refine bel_drew ?_ | refine bel_trans ?_ (by assumption)))⟩

set_option maxHeartbeats 1000000 in
theorem lgrow_any (k vo i bl ct pt : Int) (A1 A2 : Option Addr) (n1 c1 n2 c2 : Nat) (w : World) : Calls Try.prog 23 #[.agg #[.int .i64 k, .int .i64 vo, .int .i64 i, .int .i64 bl, .int .i64 ct, .int .u64 pt, .slice A1 n1 c1, .slice A2 n2 c2]] w fun e w' => e = .returned (.int .i64 (growN k)) ∧ Below w.heap.size w w' := by
  by_cases h2 : k = 2
  · subst h2
    go_enter Try.func23, Try.ntmps23
    go_wp2
    all_goals (go_ret; exact ⟨ret_i64 (by simp [growN]), (by repeat (first | assumption | exact Below.refl _ _ | refine bel_alloc ?_ _ | refine bel_drewN ?_ _ | refine bel_drew ?_ | refine bel_trans ?_ (by assumption)))⟩)
  have d2 : (k == 2) = false := by simpa using h2
  by_cases h7 : k = 7
  · subst h7
    go_enter Try.func23, Try.ntmps23
    go_wp2
    all_goals (go_ret; exact ⟨ret_i64 (by simp [growN]), (by repeat (first | assumption | exact Below.refl _ _ | refine bel_alloc ?_ _ | refine bel_drewN ?_ _ | refine bel_drew ?_ | refine bel_trans ?_ (by assumption)))⟩)
  have d7 : (k == 7) = false := by simpa using h7
  by_cases h9 : k = 9
  · subst h9
    go_enter Try.func23, Try.ntmps23
    go_wp2
    all_goals (go_ret; exact ⟨ret_i64 (by simp [growN]), (by repeat (first | assumption | exact Below.refl _ _ | refine bel_alloc ?_ _ | refine bel_drewN ?_ _ | refine bel_drew ?_ | refine bel_trans ?_ (by assumption)))⟩)
  have d9 : (k == 9) = false := by simpa using h9
  by_cases h14 : k = 14
  · subst h14
    go_enter Try.func23, Try.ntmps23
    go_wp2
    all_goals (go_ret; exact ⟨ret_i64 (by simp [growN]), (by repeat (first | assumption | exact Below.refl _ _ | refine bel_alloc ?_ _ | refine bel_drewN ?_ _ | refine bel_drew ?_ | refine bel_trans ?_ (by assumption)))⟩)
  have d14 : (k == 14) = false := by simpa using h14
  have e : growN k = 64 := by simp [growN, h2, h7, h9, h14]
  have E := Lib.hid e
  clear e h2 h7 h9 h14
  go_enter Try.func23, Try.ntmps23
  go_wp2
  go_ret
  exact ⟨ret_i64 E.out.symm, (by repeat (first | assumption | exact Below.refl _ _ | refine bel_alloc ?_ _ | refine bel_drewN ?_ _ | refine bel_drew ?_ | refine bel_trans ?_ (by assumption)))⟩

set_option maxHeartbeats 1000000 in
theorem data_any (k vo i bl ct pt : Int) (A1 A2 : Option Addr) (n1 c1 n2 c2 : Nat) (w : World) : Calls Try.prog 28 #[.agg #[.int .i64 k, .int .i64 vo, .int .i64 i, .int .i64 bl, .int .i64 ct, .int .u64 pt, .slice A1 n1 c1, .slice A2 n2 c2]] w fun e w' => e = .returned (.int .i64 (dataN k)) ∧ Below w.heap.size w w' := by
  by_cases h4 : k = 4
  · subst h4
    go_enter Try.func28, Try.ntmps28
    go_wp2
    all_goals (go_ret; exact ⟨ret_i64 (by simp [dataN]), (by repeat (first | assumption | exact Below.refl _ _ | refine bel_alloc ?_ _ | refine bel_drewN ?_ _ | refine bel_drew ?_ | refine bel_trans ?_ (by assumption)))⟩)
  have d4 : (k == 4) = false := by simpa using h4
  have e : dataN k = 0 := by simp [dataN, h4]
  have E := Lib.hid e
  clear e h4
  go_enter Try.func28, Try.ntmps28
  go_wp2
  go_ret
  exact ⟨ret_i64 E.out.symm, (by repeat (first | assumption | exact Below.refl _ _ | refine bel_alloc ?_ _ | refine bel_drewN ?_ _ | refine bel_drew ?_ | refine bel_trans ?_ (by assumption)))⟩

/-- The operation in a block of its own. -/
def OpAt (w : World) (B : Nat) (k vo i bl ct pt : Int) (A1 A2 : Option Addr) (n1 c1 n2 c2 : Nat) : Prop :=
  w.cell? ⟨B, 0, none⟩ = some (.int .i64 k) ∧ w.cell? ⟨B, 1, none⟩ = some (.int .i64 vo) ∧ w.cell? ⟨B, 2, none⟩ = some (.int .i64 i) ∧ w.cell? ⟨B, 3, none⟩ = some (.int .i64 bl) ∧ w.cell? ⟨B, 4, none⟩ = some (.int .i64 ct) ∧ w.cell? ⟨B, 5, none⟩ = some (.int .u64 pt) ∧ w.cell? ⟨B, 6, none⟩ = some (.slice A1 n1 c1) ∧ w.cell? ⟨B, 7, none⟩ = some (.slice A2 n2 c2)
theorem OpAt.below {w w' : World} {B : Nat} {k vo i bl ct pt : Int} {A1 A2 : Option Addr} {n1 c1 n2 c2 : Nat} (h : OpAt w B k vo i bl ct pt A1 A2 n1 c1 n2 c2) (hb : Below w.heap.size w w') : OpAt w' B k vo i bl ct pt A1 A2 n1 c1 n2 c2 := by
  obtain ⟨h0, h1, h2, h3, h4, h5, h6, h7⟩ := h
  exact ⟨keep_below hb _ _ h0, keep_below hb _ _ h1, keep_below hb _ _ h2, keep_below hb _ _ h3, keep_below hb _ _ h4, keep_below hb _ _ h5, keep_below hb _ _ h6, keep_below hb _ _ h7⟩
theorem OpAt.new (w : World) (t : TypeId) (k vo i bl ct pt : Int) (A1 A2 : Option Addr) (n1 c1 n2 c2 : Nat) : OpAt (w.alloc (.cells #[.int .i64 k, .int .i64 vo, .int .i64 i, .int .i64 bl, .int .i64 ct, .int .u64 pt, .slice A1 n1 c1, .slice A2 n2 c2] t)) w.heap.size k vo i bl ct pt A1 A2 n1 c1 n2 c2 := by
  have h := fun j => cell_of_row (w.alloc (.cells #[.int .i64 k, .int .i64 vo, .int .i64 i, .int .i64 bl, .int .i64 ct, .int .u64 pt, .slice A1 n1 c1, .slice A2 n2 c2] t)) w.heap.size j #[.int .i64 k, .int .i64 vo, .int .i64 i, .int .i64 bl, .int .i64 ct, .int .u64 pt, .slice A1 n1 c1, .slice A2 n2 c2] t (0, 0) (heap_alloc_new w _)
  exact ⟨h 0, h 1, h 2, h 3, h 4, h 5, h 6, h 7⟩
theorem OpAt.ext {W : World} {B : Nat} {k vo i bl ct pt : Int} {A1 A2 : Option Addr} {n1 c1 n2 c2 : Nat} (h : OpAt W B k vo i bl ct pt A1 A2 n1 c1 n2 c2) (x : Ext W) : OpAt x.w B k vo i bl ct pt A1 A2 n1 c1 n2 c2 := h.below x.h

theorem entries_bd (k ct : Int) : 0 ≤ entriesN k ct ∧ entriesN k ct ≤ 32 := by unfold entriesN; split <;> (try split) <;> (try split) <;> omega
theorem grow_bd (k : Int) : 0 ≤ growN k ∧ growN k ≤ 280 := by unfold growN; split <;> (try split) <;> (try split) <;> omega
theorem data_bd (k : Int) : 0 ≤ dataN k ∧ dataN k ≤ 1 := by unfold dataN; split <;> omega
theorem nodes_bd (n : Int) (h1 : n ≤ 4294967296) : 2 ≤ nodesN n ∧ nodesN n ≤ 2147483650 := by unfold nodesN; omega
theorem pages_bd (n : Int) (h1 : n ≤ 4294967296) : 0 ≤ pagesN n ∧ pagesN n ≤ 4294967296 := by unfold pagesN; omega

def behindN (n l k ct : Int) : Int := nodesN (n + entriesN k ct) + pagesN (l + growN k)
set_option maxHeartbeats 1000000 in
theorem behind_any (n l : Int) (k vo i bl ct pt : Int) (A1 A2 : Option Addr) (n1 c1 n2 c2 : Nat) (w : World) (h0 : -1073741824 ≤ n) (h1 : n ≤ 1073741824) (h2 : -1073741824 ≤ l) (h3 : l ≤ 1073741824) :
    Calls Try.prog 29 #[.int .i64 n, .int .i64 l, .agg #[.int .i64 k, .int .i64 vo, .int .i64 i, .int .i64 bl, .int .i64 ct, .int .u64 pt, .slice A1 n1 c1, .slice A2 n2 c2]] w fun e w' => e = .returned (.int .i64 (behindN n l k ct)) ∧ Below w.heap.size w w' := by
  have b1 := entries_bd k ct
  have b2 := grow_bd k
  have b3 := nodes_bd (n + entriesN k ct) (by omega)
  have b4 := pages_bd (l + growN k) (by omega)
  have hE := Lib.hid (fun w => entries_any k vo i bl ct pt A1 A2 n1 c1 n2 c2 w)
  have hG := Lib.hid (fun w => grow_any k vo i bl ct pt A1 A2 n1 c1 n2 c2 w)
  have hN := Lib.hid (fun w => nodes_any (n + entriesN k ct) w (by omega) (by omega))
  have hP := Lib.hid (fun w => pages_any (l + growN k) w (by omega) (by omega))
  unfold behindN
  generalize entriesN k ct = en at *
  generalize growN k = gr at *
  generalize nodesN (n + en) = nd at *
  generalize pagesN (l + gr) = pg at *
  have e1 : IntKind.i64.wrap (n + en) = n + en := IntWalk.i64_in _ (by omega)
  have e2 : IntKind.i64.wrap (l + gr) = l + gr := IntWalk.i64_in _ (by omega)
  have e3 : IntKind.i64.wrap (nd + pg) = nd + pg := IntWalk.i64_in _ (by omega)
  go_enter Try.func29, Try.ntmps29
  go_wp2
  have hop := OpAt.new w 41 k vo i bl ct pt A1 A2 n1 c1 n2 c2
  have hbW := bel_alloc (Below.refl w.heap.size w) (.cells #[.int .i64 k, .int .i64 vo, .int .i64 i, .int .i64 bl, .int .i64 ct, .int .u64 pt, .slice A1 n1 c1, .slice A2 n2 c2] 41)
  generalize w.alloc (.cells #[.int .i64 k, .int .i64 vo, .int .i64 i, .int .i64 bl, .int .i64 ct, .int .u64 pt, .slice A1 n1 c1, .slice A2 n2 c2] 41) = W at hop hbW ⊢
  have cx := hop.ext
  unfold OpAt at cx hop
  (refine wp_region_ext (by kernel_rfl) (by kernel_rfl) ?_; (try dsimp only [List.append]); (repeat (go_big_quiet_step (first | (go_at_call 26; exact ext_call (hE.out _)) | (go_at_call 27; exact ext_call (hG.out _)) | (go_at_call 24; exact ext_call (hN.out _)) | (go_at_call 25; exact ext_call (hP.out _))))); refine wpQuiet_nil ?_; rintro _ ⟨⟨wq, hbq⟩, rfl⟩)
  go_wp2
  go_ret
  exact ⟨rfl, (by repeat (first | assumption | exact Below.refl _ _ | refine bel_alloc ?_ _ | refine bel_drewN ?_ _ | refine bel_drew ?_ | refine bel_trans ?_ (by assumption)))⟩

theorem behind_bd (n l k ct : Int) (h1 : n ≤ 1073741824) (h3 : l ≤ 1073741824) : 2 ≤ behindN n l k ct ∧ behindN n l k ct ≤ 8589934592 := by
  have b1 := entries_bd k ct
  have b2 := grow_bd k
  have b3 := nodes_bd (n + entriesN k ct) (by omega)
  have b4 := pages_bd (l + growN k) (by omega)
  unfold behindN; omega
set_option maxHeartbeats 1000000 in
theorem enough_any (f n l : Int) (k vo i bl ct pt : Int) (A1 A2 : Option Addr) (n1 c1 n2 c2 : Nat) (w : World) (hf : -17179869184 ≤ f) (hf' : f ≤ 17179869184) (h0 : -1073741824 ≤ n) (h1 : n ≤ 1073741824) (h2 : -1073741824 ≤ l) (h3 : l ≤ 1073741824) :
    Calls Try.prog 30 #[.int .i64 f, .int .i64 n, .int .i64 l, .agg #[.int .i64 k, .int .i64 vo, .int .i64 i, .int .i64 bl, .int .i64 ct, .int .u64 pt, .slice A1 n1 c1, .slice A2 n2 c2]] w fun e w' => e = .returned (.bool (decide (behindN n l k ct ≤ f - dataN k))) ∧ Below w.heap.size w w' := by
  have b1 := behind_bd n l k ct h1 h3
  have b2 := data_bd k
  have hB := Lib.hid (fun w => behind_any n l k vo i bl ct pt A1 A2 n1 c1 n2 c2 w h0 h1 h2 h3)
  have hD := Lib.hid (fun w => data_any k vo i bl ct pt A1 A2 n1 c1 n2 c2 w)
  generalize behindN n l k ct = b at *
  generalize dataN k = d at *
  have e1 : IntKind.i64.wrap (f - d) = f - d := IntWalk.i64_in _ (by omega)
  go_enter Try.func30, Try.ntmps30
  go_wp2
  have hop := OpAt.new w 41 k vo i bl ct pt A1 A2 n1 c1 n2 c2
  have hbW := bel_alloc (Below.refl w.heap.size w) (.cells #[.int .i64 k, .int .i64 vo, .int .i64 i, .int .i64 bl, .int .i64 ct, .int .u64 pt, .slice A1 n1 c1, .slice A2 n2 c2] 41)
  generalize w.alloc (.cells #[.int .i64 k, .int .i64 vo, .int .i64 i, .int .i64 bl, .int .i64 ct, .int .u64 pt, .slice A1 n1 c1, .slice A2 n2 c2] 41) = W at hop hbW ⊢
  have cx := hop.ext
  unfold OpAt at cx hop
  (refine wp_region_ext (by kernel_rfl) (by kernel_rfl) ?_; (try dsimp only [List.append]); (repeat (go_big_quiet_step (first | (go_at_call 29; exact ext_call (hB.out _)) | (go_at_call 28; exact ext_call (hD.out _))))); refine wpQuiet_nil ?_; rintro _ ⟨⟨wq, hbq⟩, rfl⟩)
  go_wp2
  go_ret
  exact ⟨rfl, (by repeat (first | assumption | exact Below.refl _ _ | refine bel_alloc ?_ _ | refine bel_drewN ?_ _ | refine bel_drew ?_ | refine bel_trans ?_ (by assumption)))⟩
set_option maxHeartbeats 1000000 in
theorem full_any (f h n l : Int) (k vo i bl ct pt : Int) (A1 A2 : Option Addr) (n1 c1 n2 c2 : Nat) (w : World) (hf : -17179869184 ≤ h) (hf' : h ≤ 17179869184) (h0 : -1073741824 ≤ n) (h1 : n ≤ 1073741824) (h2 : -1073741824 ≤ l) (h3 : l ≤ 1073741824) :
    Calls Try.prog 31 #[.int .i64 f, .int .i64 h, .int .i64 n, .int .i64 l, .agg #[.int .i64 k, .int .i64 vo, .int .i64 i, .int .i64 bl, .int .i64 ct, .int .u64 pt, .slice A1 n1 c1, .slice A2 n2 c2]] w fun e w' => e = .returned (.bool (decide (f < h + dataN k + 2 * behindN n l k ct))) ∧ Below w.heap.size w w' := by
  have b1 := behind_bd n l k ct h1 h3
  have b2 := data_bd k
  have hB := Lib.hid (fun w => behind_any n l k vo i bl ct pt A1 A2 n1 c1 n2 c2 w h0 h1 h2 h3)
  have hD := Lib.hid (fun w => data_any k vo i bl ct pt A1 A2 n1 c1 n2 c2 w)
  generalize behindN n l k ct = b at *
  generalize dataN k = d at *
  have e1 : IntKind.i64.wrap (h + d) = h + d := IntWalk.i64_in _ (by omega)
  have e2 : IntKind.i64.wrap (2 * b) = 2 * b := IntWalk.i64_in _ (by omega)
  have e3 : IntKind.i64.wrap (h + d + 2 * b) = h + d + 2 * b := IntWalk.i64_in _ (by omega)
  go_enter Try.func31, Try.ntmps31
  go_wp2
  have hop := OpAt.new w 41 k vo i bl ct pt A1 A2 n1 c1 n2 c2
  have hbW := bel_alloc (Below.refl w.heap.size w) (.cells #[.int .i64 k, .int .i64 vo, .int .i64 i, .int .i64 bl, .int .i64 ct, .int .u64 pt, .slice A1 n1 c1, .slice A2 n2 c2] 41)
  generalize w.alloc (.cells #[.int .i64 k, .int .i64 vo, .int .i64 i, .int .i64 bl, .int .i64 ct, .int .u64 pt, .slice A1 n1 c1, .slice A2 n2 c2] 41) = W at hop hbW ⊢
  have cx := hop.ext
  unfold OpAt at cx hop
  (refine wp_region_ext (by kernel_rfl) (by kernel_rfl) ?_; (try dsimp only [List.append]); (repeat (go_big_quiet_step (first | (go_at_call 29; exact ext_call (hB.out _)) | (go_at_call 28; exact ext_call (hD.out _))))); refine wpQuiet_nil ?_; rintro _ ⟨⟨wq, hbq⟩, rfl⟩)
  go_wp2
  go_ret
  exact ⟨rfl, (by repeat (first | assumption | exact Below.refl _ _ | refine bel_alloc ?_ _ | refine bel_drewN ?_ _ | refine bel_drew ?_ | refine bel_trans ?_ (by assumption)))⟩
theorem alive_any (w : World) : Calls Try.prog 32 #[] w fun e w' => e = .returned (.bool true) ∧ Below w.heap.size w w' := by
  go_enter Try.func32, Try.ntmps32
  go_wp2_with fail
  refine (nodes_any 0 w (by omega) (by omega)).mono ?_
  rintro e w' ⟨rfl, hb⟩
  rw [show nodesN 0 = 2 from rfl]
  go_wp2
  go_ret
  exact ⟨rfl, (by repeat (first | assumption | exact Below.refl _ _ | refine bel_alloc ?_ _ | refine bel_drewN ?_ _ | refine bel_drew ?_ | refine bel_trans ?_ (by assumption)))⟩
def Few (Z : Nat → Int) : Prop := ∀ i, i < 4 → -1073741824 ≤ Z i ∧ Z i ≤ 1073741824
set_option maxHeartbeats 1000000 in
theorem few_any (Z : Nat → Int) (w : World) (v : Bool) (hv : v = true ↔ Few Z) : Calls Try.prog 20 #[.agg #[.int .i64 (Z 0), .int .i64 (Z 1), .int .i64 (Z 2), .int .i64 (Z 3)]] w fun e w' => e = .returned (.bool v) ∧ Below w.heap.size w w' := by
  have HV := Lib.hid hv
  clear hv
  go_enter Try.func20, Try.ntmps20
  go_wp2
  have hc : ∀ i, i < 4 → (w.alloc (.cells #[.int .i64 (Z 0), .int .i64 (Z 1), .int .i64 (Z 2), .int .i64 (Z 3)] 42)).cell? ⟨w.heap.size, i, none⟩ = some (.int .i64 (Z i)) := by
    intro i hi
    rw [cell_of_row _ w.heap.size i #[.int .i64 (Z 0), .int .i64 (Z 1), .int .i64 (Z 2), .int .i64 (Z 3)] 42 (0, 0) (heap_alloc_new w _)]
    rcases (show i = 0 ∨ i = 1 ∨ i = 2 ∨ i = 3 by omega) with rfl | rfl | rfl | rfl <;> rfl
  have hbW := bel_alloc (Below.refl w.heap.size w) (.cells #[.int .i64 (Z 0), .int .i64 (Z 1), .int .i64 (Z 2), .int .i64 (Z 3)] 42)
  generalize w.alloc (.cells #[.int .i64 (Z 0), .int .i64 (Z 1), .int .i64 (Z 2), .int .i64 (Z 3)] 42) = W at hc hbW ⊢
  have HC := Lib.hid hc
  clear hc
  generalize Z 0 = z0
  generalize Z 1 = z1
  generalize Z 2 = z2
  generalize Z 3 = z3
  go_loop [3] (fun i => ∃ k : Nat, k ≤ 4 ∧ i = .int .i64 k ∧ Hid (∀ j, j < k → -1073741824 ≤ Z j ∧ Z j ≤ 1073741824)) (fun i => 4 - (intOf i).toNat)
  case atStart => exact ⟨0, by omega, rfl, Lib.hid (fun j hj => absurd hj (by omega))⟩
  case round =>
    obtain ⟨k, hk, rfl, hok⟩ := hrel
    by_cases hlt : k < 4
    · have g := HC.out k hlt
      by_cases c1 : Z k < -1073741824
      · go_wp2
        go_ret
        exact ⟨ret_bool (by cases v with
          | false => rfl
          | true => have := (HV.out.1 rfl) k hlt; omega), (by repeat (first | assumption | exact Below.refl _ _ | refine bel_alloc ?_ _ | refine bel_drewN ?_ _ | refine bel_drew ?_ | refine bel_trans ?_ (by assumption)))⟩
      by_cases c2 : 1073741824 < Z k
      · go_wp2
        go_ret
        exact ⟨ret_bool (by cases v with
          | false => rfl
          | true => have := (HV.out.1 rfl) k hlt; omega), (by repeat (first | assumption | exact Below.refl _ _ | refine bel_alloc ?_ _ | refine bel_drewN ?_ _ | refine bel_drew ?_ | refine bel_trans ?_ (by assumption)))⟩
      go_wp2
      go_round
      case rel => exact ⟨k + 1, by omega, by go_num, Lib.hid (fun j hj => by
        by_cases hj' : j < k
        · exact hok.out j hj'
        · obtain rfl : j = k := by omega
          omega)⟩
      case measure => simp [intOf]; omega
    · have h4 : v = true := HV.out.2 (fun i hi => hok.out i (by omega))
      have H4 := Lib.hid h4
      clear h4
      go_wp2
      go_ret
      exact ⟨ret_bool H4.out.symm, (by repeat (first | assumption | exact Below.refl _ _ | refine bel_alloc ?_ _ | refine bel_drewN ?_ _ | refine bel_drew ?_ | refine bel_trans ?_ (by assumption)))⟩
end Go.Proofs.Ytobecmablabmeaa.Need
