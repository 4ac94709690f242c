/- Contracts of sizes.Keep and of the reference's Keep, of slices.Equal on marks; the law SizesKeep's walk. -/
import Derived.Test.YtobecmablabmeaaSizes
namespace Go.Proofs.Ytobecmablabmeaa.Sizes
open Go.RowKit Mem
set_option linter.unusedVariables false
set_option linter.unusedSimpArgs false

theorem info_mark : (Try.prog.info? 27).map (fun i => (i.zero, i.size, i.bytes)) = some (some (.agg #[.int .u64 0, .int .u64 0]), 2, 16) := by kernel_rfl

/-! ### slices.Equal -/
set_option maxHeartbeats 1000000 in
theorem equal_true (A A' : Option Addr) (n c c' : Nat) (S N : Nat → Int) (w : World) (hn : n ≤ 9223372036854775807) (h : Marks w A n S N) (h' : Marks w A' n S N) :
    Calls Try.prog 12 #[.slice A n c, .slice A' n c'] w fun e w' => e = .returned (.bool true) ∧ Below w.heap.size w w' := by
  have H := Lib.hid h
  clear h
  have H' := Lib.hid h'
  clear h'
  go_enter Try.func12, Try.ntmps12
  go_wp2
  go_loopw [13] (fun i wr => ∃ k : Nat, k ≤ n ∧ i = .int .i64 k ∧ Below w.heap.size w wr) (fun i _ => n - (intOf i).toNat)
  case atStart => exact ⟨0, Nat.zero_le _, rfl, Below.refl _ _⟩
  case round =>
    obtain ⟨k, hk, rfl, hb⟩ := hrel
    by_cases hlt : k < n
    · obtain ⟨b, off, rfl, g1, g2, g3, gb⟩ := Marks.at_ (Arr.below H.out hb) k hlt
      obtain ⟨b', off', rfl, g1', g2', g3', gb'⟩ := Marks.at_ (Arr.below H'.out hb) k hlt
      clear g3 g3'
      go_wp2
      go_quiet (fail)
      go_wp2
      go_roundw
      case rel => exact ⟨k + 1, by omega, by go_num, (by repeat (first | assumption | exact Below.refl _ _ | refine bel_alloc ?_ _ | refine bel_drewN ?_ _ | refine bel_drew ?_ | refine bel_trans ?_ (by assumption)))⟩
      case measure => simp [intOf]; omega
    · go_wp2
      go_ret
      exact ⟨rfl, (by repeat (first | assumption | exact Below.refl _ _ | refine bel_alloc ?_ _ | refine bel_drewN ?_ _ | refine bel_drew ?_ | refine bel_trans ?_ (by assumption)))⟩

/-! ### Keep: which marks are kept -/
def Points (w : World) (A : Option Addr) (m : Nat) (P : Nat → Int) : Prop := Arr w A m 1 (fun i _ => .int .u64 (P i))
theorem Points.at_ {w : World} {A : Option Addr} {n : Nat} {P : Nat → Int} (h : Points w A n P) (k : Nat) (hk : k < n) :
    ∃ b off, A = some ⟨b, off, none⟩ ∧ w.cell? ⟨b, off + k, none⟩ = some (.int .u64 (P k)) ∧ b < w.heap.size := by
  obtain ⟨b, off, e, hc⟩ := h (by omega)
  have := hc k hk 0 (by omega)
  rw [Nat.mul_one, Nat.add_zero] at this
  exact ⟨b, off, e, this, lt_of_cell this⟩

/-- Is mark k kept, as far as the first j points tell? -/
def seen (S P : Nat → Int) (n : Nat) (fl : Int) (k : Nat) : Nat → Bool
  | 0 => decide (k + 1 = n) || decide (fl < S (k + 1))
  | j + 1 => seen S P n fl k j || (decide (S k ≤ P j) && decide (P j < S (k + 1)))
theorem seen_last {S P : Nat → Int} {n : Nat} {fl : Int} {k : Nat} (h : k + 1 = n) (j : Nat) : seen S P n fl k j = true := by
  induction j with
  | zero => simp [seen, h]
  | succ j ih => simp [seen, ih]
def kept (S P : Nat → Int) (n m : Nat) (fl : Int) : Nat → List Nat
  | 0 => []
  | k + 1 => if seen S P n fl k m then kept S P n m fl k ++ [k] else kept S P n m fl k
theorem kept_le (S P : Nat → Int) (n m : Nat) (fl : Int) (k : Nat) : (kept S P n m fl k).length ≤ k := by
  induction k with
  | zero => simp [kept]
  | succ k ih =>
    rw [kept]
    split
    · rw [List.length_append]; simp; omega
    · omega
/-- The marks of a list of places. -/
def KF (S N : Nat → Int) (K : List Nat) : Nat → Nat → Value := MF (fun i => S (K.getD i 0)) (fun i => N (K.getD i 0))
theorem KF_snoc (S N : Nat → Int) (K : List Nat) (k : Nat) : ∀ i, i < K.length + 1 → ∀ j, j < 2 → cat K.length (KF S N K) (fun _ j => if j = 0 then .int .u64 (S k) else .int .u64 (N k)) i j = KF S N (K ++ [k]) i j := by
  intro i hi j hj
  by_cases h : i < K.length
  · simp [cat, h, KF, MF, List.getD_eq_getElem?_getD, List.getElem?_append_left h]
  · obtain rfl : i = K.length := by omega
    simp [cat, KF, MF, List.getD_eq_getElem?_getD]
theorem kept_yes {S P : Nat → Int} {n m : Nat} {fl : Int} {k : Nat} (h : seen S P n fl k m = true) : kept S P n m fl (k + 1) = kept S P n m fl k ++ [k] := by rw [kept, if_pos h]
theorem kept_no {S P : Nat → Int} {n m : Nat} {fl : Int} {k : Nat} (h : seen S P n fl k m = false) : kept S P n m fl (k + 1) = kept S P n m fl k := by rw [kept, h]; rfl
theorem own_snoc {w : World} {base : Nat} {e : TypeId} {v : Value} {S N : Nat → Int} {K : List Nat} {k : Nat} (h : Own w base e 2 v (K.length + 1) (cat K.length (KF S N K) (fun _ j => if j = 0 then .int .u64 (S k) else .int .u64 (N k)))) :
    Own w base e 2 v (K ++ [k]).length (KF S N (K ++ [k])) := by
  rw [List.length_append]
  exact Own.congr h (KF_snoc S N K k)

set_option maxRecDepth 100000 in
set_option maxHeartbeats 4000000 in
theorem keep_any (A A' : Option Addr) (n c m c' : Nat) (S N P : Nat → Int) (fl : Int) (w : World) (hn : n ≤ 60) (hm : m ≤ 60) (h : Marks w A n S N) (h' : Points w A' m P) :
    Calls Try.prog 13 #[.slice A n c, .slice A' m c', .int .u64 fl] w fun e w' => ∃ v, e = .returned v ∧ Own w' w.heap.size 27 2 v (kept S P n m fl n).length (KF S N (kept S P n m fl n)) ∧ Below w.heap.size w w' := by
  obtain ⟨i0, hi, hz0, hz1, hz2⟩ := info_parts info_mark
  have H := Lib.hid h
  clear h
  have H' := Lib.hid h'
  clear h'
  go_enter Try.func13, Try.ntmps13
  go_wp2
  go_loopw [7, 15] (fun v i wr => ∃ k : Nat, k ≤ n ∧ i = .int .i64 k ∧ Below w.heap.size w wr ∧ Own wr w.heap.size 27 2 v (kept S P n m fl k).length (KF S N (kept S P n m fl k))) (fun _ i _ => n - (intOf i).toNat)
  case atStart => exact ⟨0, Nat.zero_le _, rfl, Below.refl _ _, Own.nil⟩
  case round =>
    obtain ⟨k, hk, rfl, hb, hown⟩ := hrel
    by_cases hlt : k < n
    · obtain ⟨b, off, rfl, g1, g2, g3, gb⟩ := Marks.at_ (Arr.below H.out hb) k hlt
      have HO := Lib.hid hown
      clear hown
      by_cases hb1 : seen S P n fl k 0 = true
      · have hall : ∀ j, seen S P n fl k j = true := fun j => by
          induction j with
          | zero => exact hb1
          | succ j ih => simp [seen, ih]
        have HA := Lib.hid hall
        clear hall
        have hd : (k + 1 = n ∧ ((k : Int) + 1 == (n : Int)) = true) ∨ (k + 1 < n ∧ fl < S (k + 1) ∧ ((k : Int) + 1 == (n : Int)) = false) := by
          simp [seen] at hb1
          by_cases h : k + 1 = n
          · left; exact ⟨h, by simp; omega⟩
          · right; exact ⟨by omega, by omega, by simp; omega⟩
        clear hb1
        rcases hd with ⟨hl, hd⟩ | ⟨hl, hf, hd⟩
        · have HL := Lib.hid hl
          clear hl g3
          go_wp2
          go_loop [10, 37] (fun q i => ∃ j : Nat, j ≤ m ∧ i = .int .i64 j ∧ q = .bool true) (fun _ i => m - (intOf i).toNat)
          case atStart => exact ⟨0, Nat.zero_le _, rfl, rfl⟩
          case round =>
            obtain ⟨j, hj, rfl, rfl⟩ := hrel
            by_cases hjm : j < m
            · obtain ⟨b', off', rfl, p1, pb⟩ := Points.at_ (Arr.below H'.out hb) j hjm
              go_wp2
              go_round
              case rel => exact ⟨j + 1, by omega, by go_num, rfl⟩
              case measure => simp [intOf]; omega
            · go_wp2_with (first | (at_builtin; refine wpList_append_arr _ rfl (.tmp 67) (.tmp 69) 22 rfl w.heap.size 27 i0 (.agg #[.int .u64 0, .int .u64 0]) 2 16 Try.underlying22 hi hz0 hz1 hz2 rfl (by decide) _ _ _ rfl ((HO.out.alloc _).alloc _) _ 1 1 _ rfl (arr_new2 _ _ _ _ _ (by simp)) (fun i _ j _ => by split <;> rfl) (by have := kept_le S P n m fl k; unfold maxLen; omega) (by have := kept_le S P n m fl k; omega) (by have := hb.size; simp; omega) ?_; intro v' w1 hown' hgrow _; have HB : Below w.heap.size w w1 := bel_own (by repeat (first | assumption | exact Below.refl _ _ | refine bel_alloc ?_ _ | refine bel_drewN ?_ _ | refine bel_drew ?_ | refine bel_trans ?_ (by assumption))) ((HO.out.alloc _).alloc _) hgrow; have HO' := Lib.hid hown'; clear hown' hgrow hb HO H H' hi hz0 hz1 hz2))
              go_roundw
              case rel => exact ⟨k + 1, by omega, by go_num, HB, by rw [kept_yes (HA.out m)]; exact own_snoc HO'.out⟩
              case measure => simp [intOf]; omega
        · have g4 := g3 (k + 1) hl
          clear g3
          go_wp2
          go_loop [10, 37] (fun q i => ∃ j : Nat, j ≤ m ∧ i = .int .i64 j ∧ q = .bool true) (fun _ i => m - (intOf i).toNat)
          case atStart => exact ⟨0, Nat.zero_le _, rfl, rfl⟩
          case round =>
            obtain ⟨j, hj, rfl, rfl⟩ := hrel
            by_cases hjm : j < m
            · obtain ⟨b', off', rfl, p1, pb⟩ := Points.at_ (Arr.below H'.out hb) j hjm
              go_wp2
              go_round
              case rel => exact ⟨j + 1, by omega, by go_num, rfl⟩
              case measure => simp [intOf]; omega
            · go_wp2_with (first | (at_builtin; refine wpList_append_arr _ rfl (.tmp 67) (.tmp 69) 22 rfl w.heap.size 27 i0 (.agg #[.int .u64 0, .int .u64 0]) 2 16 Try.underlying22 hi hz0 hz1 hz2 rfl (by decide) _ _ _ rfl ((HO.out.alloc _).alloc _) _ 1 1 _ rfl (arr_new2 _ _ _ _ _ (by simp)) (fun i _ j _ => by split <;> rfl) (by have := kept_le S P n m fl k; unfold maxLen; omega) (by have := kept_le S P n m fl k; omega) (by have := hb.size; simp; omega) ?_; intro v' w1 hown' hgrow _; have HB : Below w.heap.size w w1 := bel_own (by repeat (first | assumption | exact Below.refl _ _ | refine bel_alloc ?_ _ | refine bel_drewN ?_ _ | refine bel_drew ?_ | refine bel_trans ?_ (by assumption))) ((HO.out.alloc _).alloc _) hgrow; have HO' := Lib.hid hown'; clear hown' hgrow hb HO H H' hi hz0 hz1 hz2))
              go_roundw
              case rel => exact ⟨k + 1, by omega, by go_num, HB, by rw [kept_yes (HA.out m)]; exact own_snoc HO'.out⟩
              case measure => simp [intOf]; omega
      · obtain ⟨hl, hf, hd⟩ : k + 1 < n ∧ S (k + 1) ≤ fl ∧ ((k : Int) + 1 == (n : Int)) = false := by
          simp [seen] at hb1
          exact ⟨by omega, by omega, by simp; omega⟩
        have HB1 := Lib.hid hb1
        clear hb1
        have hdf : decide (fl < S (k + 1)) = false := by simp; omega
        have g4 := g3 (k + 1) hl
        clear g3
        go_wp2
        go_loop [10, 37] (fun q i => ∃ j : Nat, j ≤ m ∧ i = .int .i64 j ∧ q = .bool (seen S P n fl k j)) (fun _ i => m - (intOf i).toNat)
        case atStart => exact ⟨0, Nat.zero_le _, rfl, by rw [show seen S P n fl k 0 = false by have := HB1.out; simpa using this]⟩
        case round =>
          obtain ⟨j, hj, rfl, rfl⟩ := hrel
          by_cases hjm : j < m
          · obtain ⟨b', off', rfl, p1, pb⟩ := Points.at_ (Arr.below H'.out hb) j hjm
            generalize hs : seen S P n fl k j = s
            have hn1 : seen S P n fl k (j + 1) = (s || (decide (S k ≤ P j) && decide (P j < S (k + 1)))) := by rw [seen, hs]
            have HN1 := Lib.hid hn1
            clear hn1 hs
            rcases s with _ | _
            · by_cases q1 : S k ≤ P j
              · by_cases q2 : P j < S (k + 1)
                · go_wp2
                  go_round
                  case rel => exact ⟨j + 1, by omega, by go_num, by rw [HN1.out]; simp [q1, q2]⟩
                  case measure => simp [intOf]; omega
                · go_wp2
                  go_round
                  case rel => exact ⟨j + 1, by omega, by go_num, by rw [HN1.out]; simp [q1, q2]⟩
                  case measure => simp [intOf]; omega
              · go_wp2
                go_round
                case rel => exact ⟨j + 1, by omega, by go_num, by rw [HN1.out]; simp [q1]⟩
                case measure => simp [intOf]; omega
            · go_wp2
              go_round
              case rel => exact ⟨j + 1, by omega, by go_num, by rw [HN1.out]; simp⟩
              case measure => simp [intOf]; omega
          · obtain rfl : j = m := by omega
            generalize hs : seen S P n fl k j = s
            have HS := Lib.hid hs
            clear hs
            rcases s with _ | _
            · go_wp2
              go_roundw
              case rel => exact ⟨k + 1, by omega, by go_num, (by repeat (first | assumption | exact Below.refl _ _ | refine bel_alloc ?_ _ | refine bel_drewN ?_ _ | refine bel_drew ?_ | refine bel_trans ?_ (by assumption))), by rw [kept_no HS.out]; exact HO.out.alloc _⟩
              case measure => simp [intOf]; omega
            · go_wp2_with (first | (at_builtin; refine wpList_append_arr _ rfl (.tmp 67) (.tmp 69) 22 rfl w.heap.size 27 i0 (.agg #[.int .u64 0, .int .u64 0]) 2 16 Try.underlying22 hi hz0 hz1 hz2 rfl (by decide) _ _ _ rfl ((HO.out.alloc _).alloc _) _ 1 1 _ rfl (arr_new2 _ _ _ _ _ (by simp)) (fun i _ j _ => by split <;> rfl) (by have := kept_le S P n j fl k; unfold maxLen; omega) (by have := kept_le S P n j fl k; omega) (by have := hb.size; simp; omega) ?_; intro v' w1 hown' hgrow _; have HB : Below w.heap.size w w1 := bel_own (by repeat (first | assumption | exact Below.refl _ _ | refine bel_alloc ?_ _ | refine bel_drewN ?_ _ | refine bel_drew ?_ | refine bel_trans ?_ (by assumption))) ((HO.out.alloc _).alloc _) hgrow; have HO' := Lib.hid hown'; clear hown' hgrow hb HO H H' hi hz0 hz1 hz2))
              go_roundw
              case rel => exact ⟨k + 1, by omega, by go_num, HB, by rw [kept_yes HS.out]; exact own_snoc HO'.out⟩
              case measure => simp [intOf]; omega
    · obtain rfl : k = n := by omega
      have HO := Lib.hid hown
      clear hown
      go_wp2
      go_ret
      exact ⟨_, rfl, HO.out, (by repeat (first | assumption | exact Below.refl _ _ | refine bel_alloc ?_ _ | refine bel_drewN ?_ _ | refine bel_drew ?_ | refine bel_trans ?_ (by assumption)))⟩

set_option maxRecDepth 100000 in
set_option maxHeartbeats 4000000 in
theorem rkeep_any (A A' : Option Addr) (n c m c' : Nat) (S N P : Nat → Int) (fl : Int) (w : World) (hn : n ≤ 60) (hm : m ≤ 60) (h : Marks w A n S N) (h' : Points w A' m P) :
    Calls Try.prog 14 #[.slice A n c, .slice A' m c', .int .u64 fl] w fun e w' => ∃ v, e = .returned v ∧ Own w' w.heap.size 27 2 v (kept S P n m fl n).length (KF S N (kept S P n m fl n)) ∧ Below w.heap.size w w' := by
  obtain ⟨i0, hi, hz0, hz1, hz2⟩ := info_parts info_mark
  have H := Lib.hid h
  clear h
  have H' := Lib.hid h'
  clear h'
  go_enter Try.func14, Try.ntmps14
  go_wp2
  go_loopw [7, 8] (fun v i wr => ∃ k : Nat, k ≤ n ∧ i = .int .i64 k ∧ Below w.heap.size w wr ∧ Own wr w.heap.size 27 2 v (kept S P n m fl k).length (KF S N (kept S P n m fl k))) (fun _ i _ => n - (intOf i).toNat)
  case atStart => exact ⟨0, Nat.zero_le _, rfl, Below.refl _ _, Own.nil⟩
  case round =>
    obtain ⟨k, hk, rfl, hb, hown⟩ := hrel
    by_cases hlt : k < n
    · obtain ⟨b, off, rfl, g1, g2, g3, gb⟩ := Marks.at_ (Arr.below H.out hb) k hlt
      have HO := Lib.hid hown
      clear hown
      by_cases hl : k + 1 = n
      · have HA := Lib.hid (seen_last (S := S) (P := P) (fl := fl) hl m)
        have hd : ((k : Int) == (n : Int) - 1) = true := by simp; omega
        have HL := Lib.hid hl
        clear hl g3
        go_wp2_with (first | (at_builtin; refine wpList_append_arr _ rfl (.tmp 59) (.tmp 64) 22 rfl w.heap.size 27 i0 (.agg #[.int .u64 0, .int .u64 0]) 2 16 Try.underlying22 hi hz0 hz1 hz2 rfl (by decide) _ _ _ rfl (HO.out.alloc _) _ 1 1 _ rfl (arr_new2 _ _ _ _ _ (by simp)) (fun i _ j _ => by split <;> rfl) (by have := kept_le S P n m fl k; unfold maxLen; omega) (by have := kept_le S P n m fl k; omega) (by have := hb.size; simp; omega) ?_; intro v' w1 hown' hgrow _; have HB : Below w.heap.size w w1 := bel_own (by repeat (first | assumption | exact Below.refl _ _ | refine bel_alloc ?_ _ | refine bel_drewN ?_ _ | refine bel_drew ?_ | refine bel_trans ?_ (by assumption))) (HO.out.alloc _) hgrow; have HO' := Lib.hid hown'; clear hown' hgrow hb HO H H' hi hz0 hz1 hz2))
        go_roundw
        case rel => exact ⟨k + 1, by omega, by go_num, HB, by rw [kept_yes HA.out]; exact own_snoc HO'.out⟩
        case measure => simp [intOf]; omega
      · have hl' : k + 1 < n := by omega
        have g4 := g3 (k + 1) hl'
        have hd : ((k : Int) == (n : Int) - 1) = false := by simp; omega
        have h0 : seen S P n fl k 0 = decide (fl < S (k + 1)) := by simp [seen, hl]
        have HB1 := Lib.hid h0
        clear h0 g3 hl
        go_wp2
        go_loopw [9, 11] (fun q i wr => ∃ j : Nat, j ≤ m ∧ i = .int .i64 j ∧ q = .bool (seen S P n fl k j) ∧ Below w.heap.size w wr ∧ Hid (Own wr w.heap.size 27 2 u7 (kept S P n m fl k).length (KF S N (kept S P n m fl k)))) (fun _ i _ => m - (intOf i).toNat)
        case atStart => exact ⟨0, Nat.zero_le _, rfl, by rw [HB1.out], hb, HO⟩
        case round =>
          clear g1 g2 g4 hb HO gb
          obtain ⟨j, hj, rfl, rfl, hb, HO⟩ := hrel
          obtain ⟨b0, off0, hA, g1, g2, g3, gb⟩ := Marks.at_ (Arr.below H.out hb) k hlt
          injection hA with hA; injection hA with hA1 hA2
          subst hA1 hA2
          have g4 := g3 (k + 1) hl'
          clear g3
          by_cases hjm : j < m
          · obtain ⟨b', off', rfl, p1, pb⟩ := Points.at_ (Arr.below H'.out hb) j hjm
            generalize hs : seen S P n fl k j = s
            have hn1 : seen S P n fl k (j + 1) = (s || (decide (S k ≤ P j) && decide (P j < S (k + 1)))) := by rw [seen, hs]
            have HN1 := Lib.hid hn1
            clear hn1 hs
            by_cases q1 : S k ≤ P j
            · have d1 : decide (S k ≤ P j) = true := by simpa using q1
              by_cases q2 : P j < S (k + 1)
              · have d2 : decide (P j < S (k + 1)) = true := by simpa using q2
                go_wp2
                go_quiet (fail)
                go_wp2
                go_roundw
                case rel => exact ⟨j + 1, by omega, by go_num, by rw [HN1.out]; cases s <;> simp [q1, q2], (by repeat (first | assumption | exact Below.refl _ _ | refine bel_alloc ?_ _ | refine bel_drewN ?_ _ | refine bel_drew ?_ | refine bel_trans ?_ (by assumption))), HO⟩
                case measure => simp [intOf]; omega
              · have d2 : decide (P j < S (k + 1)) = false := by simpa using q2
                go_wp2
                go_quiet (fail)
                go_wp2
                go_roundw
                case rel => exact ⟨j + 1, by omega, by go_num, by rw [HN1.out]; cases s <;> simp [q1, q2], (by repeat (first | assumption | exact Below.refl _ _ | refine bel_alloc ?_ _ | refine bel_drewN ?_ _ | refine bel_drew ?_ | refine bel_trans ?_ (by assumption))), HO⟩
                case measure => simp [intOf]; omega
            · have d1 : decide (S k ≤ P j) = false := by simpa using q1
              go_wp2
              go_quiet (fail)
              go_wp2
              go_roundw
              case rel => exact ⟨j + 1, by omega, by go_num, by rw [HN1.out, d1]; cases s <;> rfl, (by repeat (first | assumption | exact Below.refl _ _ | refine bel_alloc ?_ _ | refine bel_drewN ?_ _ | refine bel_drew ?_ | refine bel_trans ?_ (by assumption))), HO⟩
              case measure => simp [intOf]; omega
          · obtain rfl : j = m := by omega
            generalize hs : seen S P n fl k j = s
            have HS := Lib.hid hs
            clear hs
            rcases s with _ | _
            · go_wp2
              go_roundw
              case rel => exact ⟨k + 1, by omega, by go_num, (by repeat (first | assumption | exact Below.refl _ _ | refine bel_alloc ?_ _ | refine bel_drewN ?_ _ | refine bel_drew ?_ | refine bel_trans ?_ (by assumption))), by rw [kept_no HS.out]; exact HO.out⟩
              case measure => simp [intOf]; omega
            · go_wp2_with (first | (at_builtin; refine wpList_append_arr _ rfl (.tmp 59) (.tmp 64) 22 rfl w.heap.size 27 i0 (.agg #[.int .u64 0, .int .u64 0]) 2 16 Try.underlying22 hi hz0 hz1 hz2 rfl (by decide) _ _ _ rfl (HO.out.alloc _) _ 1 1 _ rfl (arr_new2 _ _ _ _ _ (by simp)) (fun i _ j _ => by split <;> rfl) (by have := kept_le S P n j fl k; unfold maxLen; omega) (by have := kept_le S P n j fl k; omega) (by have := hb.size; simp; omega) ?_; intro v' w1 hown' hgrow _; have HB : Below w.heap.size w w1 := bel_own (by repeat (first | assumption | exact Below.refl _ _ | refine bel_alloc ?_ _ | refine bel_drewN ?_ _ | refine bel_drew ?_ | refine bel_trans ?_ (by assumption))) (HO.out.alloc _) hgrow; have HO' := Lib.hid hown'; clear hown' hgrow hb HO H H' hi hz0 hz1 hz2))
              go_roundw
              case rel => exact ⟨k + 1, by omega, by go_num, HB, by rw [kept_yes HS.out]; exact own_snoc HO'.out⟩
              case measure => simp [intOf]; omega
    · obtain rfl : k = n := by omega
      have HO := Lib.hid hown
      clear hown
      go_wp2
      go_ret
      exact ⟨_, rfl, HO.out, (by repeat (first | assumption | exact Below.refl _ _ | refine bel_alloc ?_ _ | refine bel_drewN ?_ _ | refine bel_drew ?_ | refine bel_trans ?_ (by assumption)))⟩

theorem alive_any (w : World) : Calls Try.prog 15 #[] w fun e w' => e = .returned (.bool true) ∧ Below w.heap.size w w' := by
  go_enter Try.func15, Try.ntmps15
  go_wp2_with fail
  refine (at_any (some ⟨w.heap.size, 0, none⟩) 2 2 (fun i => if i = 0 then 3 else 7) (fun i => if i = 0 then 5 else 2) 6 _ (by omega) ?_ ?_).mono ?_
  · exact arr_new fun i hi j hj => by
      rcases (show i = 0 ∨ i = 1 by omega) with rfl | rfl <;> rcases (show j = 0 ∨ j = 1 by omega) with rfl | rfl <;> rfl
  · intro i hi
    rcases (show i = 0 ∨ i = 1 by omega) with rfl | rfl <;> decide
  · rintro e w' ⟨rfl, hb⟩
    have e1 : atN (fun i => if i = 0 then 3 else 7) (fun i => if i = 0 then 5 else 2) 6 2 = 5 := by decide
    have e2 : atB (fun i => if i = 0 then 3 else 7) 6 2 = true := by decide
    rw [e1, e2]
    clear e1 e2
    go_wp2
    go_ret
    exact ⟨rfl, (by repeat (first | assumption | exact Below.refl _ _ | refine bel_alloc ?_ _ | refine bel_drewN ?_ _ | refine bel_drew ?_ | refine bel_trans ?_ (by assumption)))⟩

theorem sizesKeep_any (A A' : Option Addr) (n c m c' : Nat) (S N P : Nat → Int) (fl : Int) (w : World) (hn : n ≤ 9223372036854775807) (hm : m ≤ 9223372036854775807) (h : Marks w A n S N) (h' : Points w A' m P) :
    Calls Try.prog 3 #[.slice A n c, .slice A' m c', .int .u64 fl] w fun e w' => e = .returned (.bool true) ∧ Below w.heap.size w w' := by
  have H := Lib.hid h
  clear h
  have H' := Lib.hid h'
  clear h'
  by_cases c1 : 60 < n
  · go_enter Try.func3, Try.ntmps3
    go_wp2
    go_ret
    exact ⟨rfl, (by repeat (first | assumption | exact Below.refl _ _ | refine bel_alloc ?_ _ | refine bel_drewN ?_ _ | refine bel_drew ?_ | refine bel_trans ?_ (by assumption)))⟩
  by_cases c2 : 60 < m
  · go_enter Try.func3, Try.ntmps3
    go_wp2
    go_ret
    exact ⟨rfl, (by repeat (first | assumption | exact Below.refl _ _ | refine bel_alloc ?_ _ | refine bel_drewN ?_ _ | refine bel_drew ?_ | refine bel_trans ?_ (by assumption)))⟩
  go_enter Try.func3, Try.ntmps3
  go_wp2_with fail
  refine (keep_any A A' n c m c' S N P fl w (by omega) (by omega) H.out H'.out).mono ?_
  rintro e w1 ⟨v1, rfl, ho1, hb1⟩
  obtain ⟨A1, cc1, rfl, ha1, _⟩ := ho1.arr
  have HA1 := Lib.hid ha1
  clear ha1 ho1
  go_wp2_with fail
  refine (rkeep_any A A' n c m c' S N P fl w1 (by omega) (by omega) (Arr.below H.out hb1) (Arr.below H'.out hb1)).mono ?_
  rintro e w2 ⟨v2, rfl, ho2, hb2⟩
  obtain ⟨A2, cc2, rfl, ha2, _⟩ := ho2.arr
  have HA2 := Lib.hid ha2
  clear ha2 ho2
  go_wp2_with fail
  refine (equal_true A1 A2 _ cc1 cc2 _ _ w2 (by have := kept_le S P n m fl n; omega) (Arr.below HA1.out hb2) HA2.out).mono ?_
  rintro e w3 ⟨rfl, hb3⟩
  go_wp2_with fail
  refine (alive_any w3).mono ?_
  rintro e w4 ⟨rfl, hb4⟩
  have hb : Below w.heap.size w w4 := bel_trans (bel_trans (bel_trans hb1 hb2) hb3) hb4
  clear hb1 hb2 hb3 hb4
  go_wp2
  go_ret
  exact ⟨rfl, (by repeat (first | assumption | exact Below.refl _ _ | refine bel_alloc ?_ _ | refine bel_drewN ?_ _ | refine bel_drew ?_ | refine bel_trans ?_ (by assumption)))⟩
end Go.Proofs.Ytobecmablabmeaa.Sizes
