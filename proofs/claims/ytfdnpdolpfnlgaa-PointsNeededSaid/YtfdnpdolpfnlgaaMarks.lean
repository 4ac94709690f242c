/- Slices of marks and of numbers: what they hold; slices.Equal, slices.Index, slices.Contains on them; lists of kept places. -/
import Derived.Test.YtfdnpdolpfnlgaaRegion
import Derived.Test.YtfdnpdolpfnlgaaObj
namespace Go.Proofs.Ytfdnpdolpfnlgaa.Marks
open Go.RowKit Mem
set_option linter.unusedVariables false
set_option linter.unusedSimpArgs false

/-- A slice of marks: number S i, size N i. -/
def MF (S N : Nat → Int) : Nat → Nat → Value := fun i j => if j = 0 then .int .u64 (S i) else .int .u64 (N i)
def Marks (w : World) (A : Option Addr) (n : Nat) (S N : Nat → Int) : Prop := Arr w A n 2 (MF S N)
theorem Marks.at_ {w : World} {A : Option Addr} {n : Nat} {S N : Nat → Int} (h : Marks w A n S N) (k : Nat) (hk : k < n) :
    ∃ b off, A = some ⟨b, off, none⟩ ∧ w.cell? ⟨b, off + k * 2, none⟩ = some (.int .u64 (S k)) ∧ w.cell? ⟨b, off + k * 2 + 1, none⟩ = some (.int .u64 (N k)) ∧
      (∀ j, j < n → w.cell? ⟨b, off + j * 2, none⟩ = some (.int .u64 (S j))) ∧ b < w.heap.size := by
  obtain ⟨b, off, e, hc⟩ := h (by omega)
  exact ⟨b, off, e, hc k hk 0 (by omega), hc k hk 1 (by omega), fun j hj => hc j hj 0 (by omega), lt_of_cell (hc k hk 0 (by omega))⟩

theorem ret_bool {a b : Bool} (h : a = b) : Ending.returned (.bool a) = Ending.returned (.bool b) := by rw [h]
theorem info_mark : (Try.prog.info? 55).map (fun i => (i.zero, i.size, i.bytes)) = some (some (.agg #[.int .u64 0, .int .u64 0]), 2, 16) := by kernel_rfl

/-! ### slices.Equal -/
set_option maxHeartbeats 1000000 in
theorem equal_true (A A' : Option Addr) (n c c' : Nat) (S N : Nat → Int) (w : World) (hn : n ≤ 9223372036854775807) (h : Marks w A n S N) (h' : Marks w A' n S N) :
    Calls Try.prog 34 #[.slice A n c, .slice A' n c'] w fun e w' => e = .returned (.bool true) ∧ Below w.heap.size w w' := by
  have H := Lib.hid h
  clear h
  have H' := Lib.hid h'
  clear h'
  go_enter Try.func34, Try.ntmps34
  go_wp2
  go_loopw [13] (fun i wr => ∃ k : Nat, k ≤ n ∧ i = .int .i64 k ∧ Below w.heap.size w wr) (fun i _ => n - (intOf i).toNat)
  case atStart => exact ⟨0, Nat.zero_le _, rfl, Below.refl _ _⟩
  case round =>
    obtain ⟨k, hk, rfl, hb⟩ := hrel
    by_cases hlt : k < n
    · obtain ⟨b, off, rfl, g1, g2, g3, gb⟩ := Marks.at_ (Arr.below H.out hb) k hlt
      obtain ⟨b', off', rfl, g1', g2', g3', gb'⟩ := Marks.at_ (Arr.below H'.out hb) k hlt
      clear g3 g3'
      go_wp2
      go_quiet (fail)
      go_wp2
      go_roundw
      case rel => exact ⟨k + 1, by omega, by go_num, (by repeat (first | assumption | exact Below.refl _ _ | refine bel_alloc ?_ _ | refine bel_drewN ?_ _ | refine bel_drew ?_ | refine bel_trans ?_ (by assumption)))⟩
      case measure => simp [intOf]; omega
    · go_wp2
      go_ret
      exact ⟨rfl, (by repeat (first | assumption | exact Below.refl _ _ | refine bel_alloc ?_ _ | refine bel_drewN ?_ _ | refine bel_drew ?_ | refine bel_trans ?_ (by assumption)))⟩

def Points (w : World) (A : Option Addr) (m : Nat) (P : Nat → Int) : Prop := Arr w A m 1 (fun i _ => .int .u64 (P i))
theorem Points.at_ {w : World} {A : Option Addr} {n : Nat} {P : Nat → Int} (h : Points w A n P) (k : Nat) (hk : k < n) :
    ∃ b off, A = some ⟨b, off, none⟩ ∧ w.cell? ⟨b, off + k, none⟩ = some (.int .u64 (P k)) ∧ b < w.heap.size := by
  obtain ⟨b, off, e, hc⟩ := h (by omega)
  have := hc k hk 0 (by omega)
  rw [Nat.mul_one, Nat.add_zero] at this
  exact ⟨b, off, e, this, lt_of_cell this⟩

/-- The marks of a list of places. -/
def KF (S N : Nat → Int) (K : List Nat) : Nat → Nat → Value := MF (fun i => S (K.getD i 0)) (fun i => N (K.getD i 0))
theorem KF_snoc (S N : Nat → Int) (K : List Nat) (k : Nat) : ∀ i, i < K.length + 1 → ∀ j, j < 2 → cat K.length (KF S N K) (fun _ j => if j = 0 then .int .u64 (S k) else .int .u64 (N k)) i j = KF S N (K ++ [k]) i j := by
  intro i hi j hj
  by_cases h : i < K.length
  · simp [cat, h, KF, MF, List.getD_eq_getElem?_getD, List.getElem?_append_left h]
  · obtain rfl : i = K.length := by omega
    simp [cat, KF, MF, List.getD_eq_getElem?_getD]
theorem own_snoc {w : World} {base : Nat} {e : TypeId} {v : Value} {S N : Nat → Int} {K : List Nat} {k : Nat} (h : Own w base e 2 v (K.length + 1) (cat K.length (KF S N K) (fun _ j => if j = 0 then .int .u64 (S k) else .int .u64 (N k)))) :
    Own w base e 2 v (K ++ [k]).length (KF S N (K ++ [k])) := by
  rw [List.length_append]
  exact Own.congr h (KF_snoc S N K k)

def pick (S : Nat → Int) (K : List Nat) : Nat → Int := fun i => S (K.getD i 0)
theorem getD_snoc_lt (K : List Nat) (k i : Nat) (h : i < K.length) : (K ++ [k]).getD i 0 = K.getD i 0 := by
  simp [List.getD_eq_getElem?_getD, List.getElem?_append_left h]
theorem getD_snoc_eq (K : List Nat) (k : Nat) : (K ++ [k]).getD K.length 0 = k := by
  simp [List.getD_eq_getElem?_getD]
/-! ### slices.Contains -/
def SomeNat (w : World) (e : Ending) (w' : World) : Prop := ∃ r : Nat, e = .returned (.int .i64 r) ∧ Below w.heap.size w w'
theorem index_hit (A : Option Addr) (m c : Nat) (P : Nat → Int) (s : Int) (w : World) (hm : m ≤ 60) (h : Points w A m P) (hh : ∃ j, j < m ∧ P j = s) :
    Calls Try.prog 144 #[.slice A m c, .int .u64 s] w (SomeNat w) := by
  have H := Lib.hid h
  clear h
  have HH := Lib.hid hh
  clear hh
  go_enter Try.func144, Try.ntmps144
  go_wp2
  go_loopw [8] (fun i wr => ∃ k : Nat, k ≤ m ∧ i = .int .i64 k ∧ Below w.heap.size w wr ∧ Hid (∀ j, j < k → P j ≠ s)) (fun i _ => m - (intOf i).toNat)
  case atStart => exact ⟨0, Nat.zero_le _, rfl, Below.refl _ _, Lib.hid (fun j hj => absurd hj (by omega))⟩
  case round =>
    obtain ⟨k, hk, rfl, hb, hok⟩ := hrel
    by_cases hlt : k < m
    · obtain ⟨b, off, rfl, p1, pb⟩ := Points.at_ (Arr.below H.out hb) k hlt
      by_cases c1 : P k = s
      · have d1 : (s == P k) = true := by simp [c1]
        clear c1
        go_wp2
        go_ret
        exact ⟨k, rfl, (by repeat (first | assumption | exact Below.refl _ _ | refine bel_alloc ?_ _ | refine bel_drewN ?_ _ | refine bel_drew ?_ | refine bel_trans ?_ (by assumption)))⟩
      · have d1 : (s == P k) = false := by simp; exact fun h => c1 h.symm
        have HC := Lib.hid c1
        clear c1
        go_wp2
        go_roundw
        case rel => exact ⟨k + 1, by omega, by go_num, (by repeat (first | assumption | exact Below.refl _ _ | refine bel_alloc ?_ _ | refine bel_drewN ?_ _ | refine bel_drew ?_ | refine bel_trans ?_ (by assumption))), Lib.hid (fun j hj => by
          by_cases hj' : j < k
          · exact hok.out j hj'
          · obtain rfl : j = k := by omega
            exact HC.out)⟩
        case measure => simp [intOf]; omega
    · exfalso
      obtain ⟨j, hj, he⟩ := HH.out
      exact hok.out j (by omega) he
theorem index_miss (A : Option Addr) (m c : Nat) (P : Nat → Int) (s : Int) (w : World) (hm : m ≤ 60) (h : Points w A m P) (hh : ¬ ∃ j, j < m ∧ P j = s) :
    Calls Try.prog 144 #[.slice A m c, .int .u64 s] w fun e w' => e = .returned (.int .i64 (-1)) ∧ Below w.heap.size w w' := by
  have H := Lib.hid h
  clear h
  have HH := Lib.hid hh
  clear hh
  go_enter Try.func144, Try.ntmps144
  go_wp2
  go_loopw [8] (fun i wr => ∃ k : Nat, k ≤ m ∧ i = .int .i64 k ∧ Below w.heap.size w wr) (fun i _ => m - (intOf i).toNat)
  case atStart => exact ⟨0, Nat.zero_le _, rfl, Below.refl _ _⟩
  case round =>
    obtain ⟨k, hk, rfl, hb⟩ := hrel
    by_cases hlt : k < m
    · obtain ⟨b, off, rfl, p1, pb⟩ := Points.at_ (Arr.below H.out hb) k hlt
      have d1 : (s == P k) = false := by simp; exact fun h => HH.out ⟨k, hlt, h.symm⟩
      go_wp2
      go_roundw
      case rel => exact ⟨k + 1, by omega, by go_num, (by repeat (first | assumption | exact Below.refl _ _ | refine bel_alloc ?_ _ | refine bel_drewN ?_ _ | refine bel_drew ?_ | refine bel_trans ?_ (by assumption)))⟩
      case measure => simp [intOf]; omega
    · go_wp2
      go_ret
      exact ⟨rfl, (by repeat (first | assumption | exact Below.refl _ _ | refine bel_alloc ?_ _ | refine bel_drewN ?_ _ | refine bel_drew ?_ | refine bel_trans ?_ (by assumption)))⟩
theorem contains_any (A : Option Addr) (m c : Nat) (P : Nat → Int) (s : Int) (w : World) (hm : m ≤ 60) (h : Points w A m P) (v : Bool) (hv : v = true ↔ ∃ j, j < m ∧ P j = s) :
    Calls Try.prog 100 #[.slice A m c, .int .u64 s] w fun e w' => e = .returned (.bool v) ∧ Below w.heap.size w w' := by
  rcases v with _ | _
  · have hh : ¬ ∃ j, j < m ∧ P j = s := fun hx => by have := hv.2 hx; simp at this
    clear hv
    go_enter Try.func100, Try.ntmps100
    go_wp2_with fail
    refine (index_miss A m c P s w hm h hh).mono ?_
    rintro e w' ⟨rfl, hb⟩
    clear hh h
    go_wp2
    go_ret
    exact ⟨rfl, (by repeat (first | assumption | exact Below.refl _ _ | refine bel_alloc ?_ _ | refine bel_drewN ?_ _ | refine bel_drew ?_ | refine bel_trans ?_ (by assumption)))⟩
  · have hh := hv.1 rfl
    clear hv
    go_enter Try.func100, Try.ntmps100
    go_wp2_with fail
    refine (index_hit A m c P s w hm h hh).mono ?_
    rintro e w' ⟨r, rfl, hb⟩
    clear hh h
    go_wp2
    go_ret
    exact ⟨ret_bool (by simp), (by repeat (first | assumption | exact Below.refl _ _ | refine bel_alloc ?_ _ | refine bel_drewN ?_ _ | refine bel_drew ?_ | refine bel_trans ?_ (by assumption)))⟩

theorem ex_bool (p : Prop) : ∃ v : Bool, v = true ↔ p := by
  by_cases h : p
  · exact ⟨true, by simp [h]⟩
  · exact ⟨false, by simp [h]⟩

def atN (S N : Nat → Int) (s : Int) : Nat → Int
  | 0 => 0
  | k + 1 => if S k ≤ s then N k else atN S N s k
def atB (S : Nat → Int) (s : Int) : Nat → Bool
  | 0 => false
  | k + 1 => if S k ≤ s then true else atB S s k
theorem atN_congr {S N S' N' : Nat → Int} {s : Int} {k : Nat} (h : ∀ i, i < k → S i = S' i ∧ N i = N' i) : atN S N s k = atN S' N' s k := by
  induction k with
  | zero => rfl
  | succ k ih => rw [atN, atN, (h k (by omega)).1, (h k (by omega)).2, ih fun i hi => h i (by omega)]
theorem atB_congr {S S' : Nat → Int} {s : Int} {k : Nat} (h : ∀ i, i < k → S i = S' i) : atB S s k = atB S' s k := by
  induction k with
  | zero => rfl
  | succ k ih => rw [atB, atB, h k (by omega), ih fun i hi => h i (by omega)]
theorem atN_snoc (S N : Nat → Int) (s : Int) (K : List Nat) (k : Nat) :
    atN (pick S (K ++ [k])) (pick N (K ++ [k])) s (K ++ [k]).length = if S k ≤ s then N k else atN (pick S K) (pick N K) s K.length := by
  rw [List.length_append]
  show atN _ _ s (K.length + 1) = _
  rw [atN]
  unfold pick
  rw [getD_snoc_eq]
  have := atN_congr (S := fun i => S ((K ++ [k]).getD i 0)) (N := fun i => N ((K ++ [k]).getD i 0)) (S' := fun i => S (K.getD i 0)) (N' := fun i => N (K.getD i 0)) (s := s) (k := K.length)
    (fun i hi => by rw [getD_snoc_lt K k i hi]; exact ⟨rfl, rfl⟩)
  rw [this]
theorem atB_snoc (S : Nat → Int) (s : Int) (K : List Nat) (k : Nat) :
    atB (pick S (K ++ [k])) s (K ++ [k]).length = if S k ≤ s then true else atB (pick S K) s K.length := by
  rw [List.length_append]
  show atB _ s (K.length + 1) = _
  rw [atB]
  unfold pick
  rw [getD_snoc_eq]
  have := atB_congr (S := fun i => S ((K ++ [k]).getD i 0)) (S' := fun i => S (K.getD i 0)) (s := s) (k := K.length)
    (fun i hi => by rw [getD_snoc_lt K k i hi])
  rw [this]


theorem cells_one (S N : Nat → Int) (n : Nat) : ∀ i, i < n → ∀ j, j < 2 → (MF S N i j).oneCell' = true := fun i _ j _ => by unfold MF; split <;> rfl

/-! ### slices.Clone -/
set_option maxRecDepth 100000 in
set_option maxHeartbeats 1000000 in
theorem clone_any (A : Option Addr) (n c : Nat) (S N : Nat → Int) (w : World) (hn : n ≤ 1000) (hA : A = none → n = 0) (h : Marks w A n S N) :
    Calls Try.prog 99 #[.slice A n c] w fun e w' => ∃ v, e = .returned v ∧ Own w' w.heap.size 55 2 v n (MF S N) ∧ Below w.heap.size w w' := by
  obtain ⟨i0, hi, hz0, hz1, hz2⟩ := info_parts info_mark
  have H := Lib.hid h
  clear h
  rcases A with _ | a
  · obtain rfl := hA rfl
    have hnil := fun w => Lib.run_eql_slice_nil (P := Try.prog) w 44 55 none 0 c 0 0 Try.underlying44
    go_enter Try.func99, Try.ntmps99
    go_wp2
    go_ret
    exact ⟨_, rfl, Own.nil, (by repeat (first | assumption | exact Below.refl _ _ | refine bel_alloc ?_ _ | refine bel_drewN ?_ _ | refine bel_drew ?_ | refine bel_trans ?_ (by assumption)))⟩
  · clear hA
    have hnil := fun w => Lib.run_eql_slice_nil (P := Try.prog) w 44 55 (some a) n c 0 0 Try.underlying44
    go_enter Try.func99, Try.ntmps99
    go_wp2_with ((at_builtin; refine wpList_append_arr _ rfl (.tmp 5) (.tmp 6) 44 rfl w.heap.size 55 i0 (.agg #[.int .u64 0, .int .u64 0]) 2 16 Try.underlying44 hi hz0 hz1 hz2 rfl (by decide) _ _ _ rfl (Own.made (F := MF S N) _ rfl (Nat.le_refl _) (by unfold maxLen; omega) rfl) _ _ _ _ rfl (Arr.below H.out (bel_alloc (Below.refl _ _) _)) (cells_one S N n) (by unfold maxLen; omega) (by omega) (by simp) ?_; intro v1 w2 hown1 hgrow1 _; have HB1 : Below w.heap.size w w2 := bel_own (by repeat (first | assumption | exact Below.refl _ _ | refine bel_alloc ?_ _ | refine bel_drewN ?_ _ | refine bel_drew ?_ | refine bel_trans ?_ (by assumption))) (Own.made (F := MF S N) (e := 55) (sz := 2) _ rfl (Nat.le_refl _) (by unfold maxLen; omega) rfl) hgrow1; have HO1 := Lib.hid (Own.of_nil hown1); clear hown1 hgrow1))
    go_ret
    exact ⟨_, rfl, HO1.out, HB1⟩
end Go.Proofs.Ytfdnpdolpfnlgaa.Marks
