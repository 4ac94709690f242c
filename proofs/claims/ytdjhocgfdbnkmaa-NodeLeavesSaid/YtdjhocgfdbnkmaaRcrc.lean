/- The document's sum: a row of 32 bools, bit by bit. -/
import Derived.Test.YtdjhocgfdbnkmaaCrc
import Derived.Laws.Rows
import Derived.Laws.Tables
import Derived.StillTailTactics
namespace Go.Proofs.Ytdjhocgfdbnkmaa.Crc
open Go.RowKit Mem Bytes Fix
set_option linter.unusedVariables false
set_option linter.unusedSimpArgs false
/-- A row of 32 bools. -/
def bitsF (f : Nat → Bool) : Array Value := ((List.range 32).map fun j => Value.bool (f j)).toArray
theorem bitsF_size (f : Nat → Bool) : (bitsF f).size = 32 := by simp [bitsF]
theorem bitsF_get (f : Nat → Bool) (k : Nat) (hk : k < 32) : (bitsF f)[k]? = some (.bool (f k)) := by
  simp [bitsF, List.getElem?_range hk]
theorem bitsF_congr {f g : Nat → Bool} (h : ∀ j, j < 32 → f j = g j) : bitsF f = bitsF g := by
  unfold bitsF
  congr 1
  apply List.map_congr_left
  intro j hj
  rw [h j (List.mem_range.1 hj)]
theorem bitsF_set (f : Nat → Bool) (k : Nat) (b : Bool) : (bitsF f).setIfInBounds k (.bool b) = bitsF (fun j => if j = k then b else f j) := by
  apply Array.ext_getElem?
  intro i
  by_cases hi : i < 32
  · rw [Array.getElem?_setIfInBounds, bitsF_get _ _ hi, bitsF_get _ _ hi]
    by_cases h : k = i
    · subst h; simp [bitsF_size, hi]
    · simp [h, show ¬ i = k from fun e => h e.symm]
  · rw [Array.getElem?_eq_none (by rw [Array.size_setIfInBounds, bitsF_size]; omega), Array.getElem?_eq_none (by rw [bitsF_size]; omega)]
theorem bitsF_one (f : Nat → Bool) : (bitsF f).all (·.oneCell') = true := by
  rw [Array.all_eq_true_iff_forall_mem]
  intro x hx
  simp only [bitsF, List.mem_toArray, List.mem_map] at hx
  obtain ⟨j, _, rfl⟩ := hx
  rfl
theorem results_cell1 {fn : Func} {a : Tmp} {t : TypeId} (h : fn.results = #[.cell a t]) (tmps : Array Value) (P : Program) (w : World) (g : Nat) (ha : tmps.getD a undef = .pointer (some ⟨g, 0, none⟩)) (v : Value) (hl : (loadVar t ⟨g, 0, none⟩).run P w = .ok v w) :
    (results fn tmps).run P w = .ok v w := by
  have ha' : tmps[a]?.getD undef = .pointer (some ⟨g, 0, none⟩) := by simpa using ha
  simp [results, h, ha', asAddr, hl]
/-- A row's whole content, put in its place, is the row that it was then. -/
theorem blk_row {w : World} {g : Nat} {old cs : Array Value} {t : TypeId} (h : Blk w g old t) : Blk (w.setRow g cs) g cs t := setRow_heap w g old cs t (0, 0) h
theorem blk_row_other {w : World} {g g' : Nat} {old cs : Array Value} {t : TypeId} (h : Blk w g' old t) (hne : g' ≠ g) : Blk (w.setRow g cs) g' old t := (setRow_other w g g' cs hne).trans h
theorem bel_row {W w : World} (h : Below W.heap.size W w) {g : Nat} (hg : W.heap.size ≤ g) (cs : Array Value) : Below W.heap.size W (w.setRow g cs) :=
  h.trans ⟨rfl, rfl, rfl, by simp, fun k hk => setRow_other w g k cs (by omega)⟩
theorem info_row : (Try.prog.info? 303).map (·.size) = some 32 := by kernel_rfl
def bitsA (n : Nat) : Array Value := bitsF fun j => n.testBit j
theorem blk_bit {w : World} {g : Nat} {f : Nat → Bool} {t : TypeId} (h : Blk w g (bitsF f) t) (k : Nat) (hk : k < 32) : w.cell? ⟨g, k, none⟩ = some (.bool (f k)) := by
  rw [h.facts.1, bitsF_get f k hk]
theorem div_bit (n k : Nat) : (((n / 2 ^ k : Nat) : Int) % 2 == 1) = n.testBit k := by
  rw [Nat.testBit_eq_decide_div_mod_eq, Bool.eq_iff_iff]
  simp only [beq_iff_eq, decide_eq_true_eq]
  omega
theorem zero_row : #[Value.bool false, Value.bool false, Value.bool false, Value.bool false, Value.bool false, Value.bool false, Value.bool false, Value.bool false, Value.bool false, Value.bool false, Value.bool false, Value.bool false, Value.bool false, Value.bool false, Value.bool false, Value.bool false, Value.bool false, Value.bool false, Value.bool false, Value.bool false, Value.bool false, Value.bool false, Value.bool false, Value.bool false, Value.bool false, Value.bool false, Value.bool false, Value.bool false, Value.bool false, Value.bool false, Value.bool false, Value.bool false] = bitsF (fun _ => false) := rfl
set_option maxRecDepth 100000 in
set_option maxHeartbeats 1000000 in
theorem bits_any (n : Nat) (w : World) (hn : n < 4294967296) :
    Calls Try.prog 218 #[.int .u32 n] w fun e w' => e = .returned (.agg (bitsA n)) ∧ Below w.heap.size w w' := by
  go_enter Try.func218, Try.ntmps218
  go_wp2
  go_loopw [0, 4] (fun q i wr => ∃ k : Nat, k ≤ 32 ∧ i = .int .i64 k ∧ q = .int .u32 (n / 2 ^ k : Nat) ∧ Blk wr w.heap.size (bitsF fun _ => false) 303 ∧ Blk wr (w.heap.size + 1) (bitsF fun j => decide (j < k) && n.testBit j) 303 ∧ Below w.heap.size w wr) (fun _ i _ => 32 - (intOf i).toNat)
  case atStart => exact ⟨0, Nat.zero_le _, rfl, by simp, (Blk.new _ _ _ _ rfl).alloc _, by rw [bitsF_congr (g := fun _ => false) (fun j hj => by simp)]; exact Blk.new _ _ _ _ (by simp), (by repeat (first | assumption | exact Below.refl _ _ | refine bel_alloc ?_ _ | refine bel_drewN ?_ _ | refine bel_drew ?_ | refine bel_set ?_ (by first | (simp; done) | omega | (simp; omega)) _ | refine bel_trans ?_ (by assumption)))⟩
  case round =>
    obtain ⟨k, hk, rfl, rfl, hz, hp, hb⟩ := hrel
    by_cases hlt : k < 32
    · have g1 := blk_bit hp k hlt
      have f1 := hp.facts.2.1 k
      have gb := hp.lt
      have hq : n / 2 ^ k < 4294967296 := Nat.lt_of_le_of_lt (Nat.div_le_self _ _) hn
      have HD := Lib.hid (div_bit n k)
      have HE := Lib.hid (show n / 2 ^ (k + 1) = n / 2 ^ k / 2 by rw [Nat.pow_succ, Nat.div_div_eq_div_mul])
      have HP := Lib.hid hp
      have HZ := Lib.hid hz
      clear hp hz
      generalize n / 2 ^ k = q at *
      go_wp2
      go_roundw
      case rel =>
        refine ⟨k + 1, by omega, by go_num, by rw [HE.out]; rfl, HZ.out.set (by omega), ?_, (by repeat (first | assumption | exact Below.refl _ _ | refine bel_alloc ?_ _ | refine bel_drewN ?_ _ | refine bel_drew ?_ | refine bel_set ?_ (by first | (simp; done) | omega | (simp; omega)) _ | refine bel_trans ?_ (by assumption)))⟩
        have h1 := HP.out.store k (.bool ((q : Int) % 2 == 1))
        rw [bitsF_set, HD.out] at h1
        rw [HD.out]
        refine h1.of_eq (bitsF_congr (fun j hj => ?_))
        by_cases h : j = k
        · subst h; simp
        · by_cases h2 : j < k
          · simp [h, h2, show j < k + 1 by omega]
          · simp [h, h2, show ¬ j < k + 1 by omega]
      case measure => simp [intOf]; omega
    · obtain rfl : k = 32 := by omega
      have HP : Hid (Blk wr (w.heap.size + 1) (bitsA n) 303) := Lib.hid (hp.of_eq (bitsF_congr (fun j hj => by simp [hj])))
      have HZ := Lib.hid hz
      clear hp hz
      go_wp2_with (first | (refine wpList_load_row rfl 303 (.tmp 3) rfl _ rfl 303 _ (0, 0) _ HP.out Try.underlying303 rfl (by rw [show (bitsA n).size = 32 from bitsF_size _]; exact info_row) ?_) | (refine wpList_store_row rfl 303 (.tmp 2) (.tmp 16) rfl _ (bitsA n) rfl rfl 303 _ HZ.out (by rw [show (bitsA n).size = 32 from bitsF_size _]; exact info_row) (by rw [bitsF_size]; exact (bitsF_size _).symm) (bitsF_one _) ?_))
      refine bodyPost_ret_by (v := .agg (bitsA n)) ?_ rfl ⟨rfl, ?_⟩
      · exact results_cell1 (a := 2) rfl _ _ _ w.heap.size rfl _ (run_loadVar_row _ _ 303 303 _ (0, 0) _ (blk_row HZ.out) Try.underlying303 rfl (by rw [show (bitsA n).size = 32 from bitsF_size _]; exact info_row))
      · exact bel_row hb (Nat.le_refl _) _
set_option maxRecDepth 100000 in
set_option maxHeartbeats 1000000 in
theorem number_any (n : Nat) (w : World) (hn : n < 4294967296) :
    Calls Try.prog 219 #[.agg (bitsA n)] w fun e w' => e = .returned (.int .u32 n) ∧ Below w.heap.size w w' := by
  go_enter Try.func219, Try.ntmps219
  go_wp2
  go_loopw [3, 4] (fun q i wr => ∃ k : Nat, k ≤ 32 ∧ i = .int .i64 ((k : Int) - 1) ∧ q = .int .u32 (n / 2 ^ k : Nat) ∧ wr = w.alloc (.cells (bitsA n) 303)) (fun _ i _ => (intOf i + 1).toNat)
  case atStart => exact ⟨32, Nat.le_refl _, rfl, by rw [Nat.div_eq_of_lt hn]; rfl, rfl⟩
  case round =>
    obtain ⟨k, hk, rfl, rfl, rfl⟩ := hrel
    rcases k with _ | k
    · go_wp2
      go_ret
      exact ⟨by rw [Nat.pow_zero, Nat.div_one]; rfl, (by repeat (first | assumption | exact Below.refl _ _ | refine bel_alloc ?_ _ | refine bel_drewN ?_ _ | refine bel_drew ?_ | refine bel_set ?_ (by first | (simp; done) | omega | (simp; omega)) _ | refine bel_trans ?_ (by assumption)))⟩
    · have e1 : ((k + 1 : Nat) : Int) - 1 = (k : Int) := by omega
      rw [e1]
      have g1 := blk_bit (f := fun j => n.testBit j) (Blk.new w (bitsA n) 303 w.heap.size rfl) k (by omega)
      have hq : n / 2 ^ k < 4294967296 := Nat.lt_of_le_of_lt (Nat.div_le_self _ _) hn
      have hE : n / 2 ^ (k + 1) = n / 2 ^ k / 2 := by rw [Nat.pow_succ, Nat.div_div_eq_div_mul]
      have hT : n.testBit k = decide (n / 2 ^ k % 2 = 1) := Nat.testBit_eq_decide_div_mod_eq
      rw [hE]
      clear hE
      rw [hT] at g1
      clear hT
      generalize hqq : n / 2 ^ k = q at *
      have HQQ := Lib.hid hqq
      clear hqq
      by_cases ho : q % 2 = 1
      · rw [decide_eq_true ho] at g1
        have HO := Lib.hid ho
        clear ho
        go_wp2
        go_roundw
        case rel => exact ⟨k, by omega, by go_num, by rw [HQQ.out, show (2 : Int) * ((q : Int) / 2) + 1 = (q : Int) by have := HO.out; omega], trivial⟩
        case measure => simp [intOf]
      · rw [decide_eq_false ho] at g1
        have HO := Lib.hid ho
        clear ho
        go_wp2
        go_roundw
        case rel => exact ⟨k, by omega, by go_num, by rw [HQQ.out, show (2 : Int) * ((q : Int) / 2) = (q : Int) by have := HO.out; omega], trivial⟩
        case measure => simp [intOf]
set_option maxRecDepth 100000 in
set_option maxHeartbeats 1000000 in
theorem turned_any (n : Nat) (w : World) (hn : n < 4294967296) :
    Calls Try.prog 217 #[.agg (bitsA n)] w fun e w' => e = .returned (.agg (bitsA (4294967295 - n))) ∧ Below w.heap.size w w' := by
  go_enter Try.func217, Try.ntmps217
  go_wp2
  go_loopw [3] (fun i wr => ∃ k : Nat, k ≤ 32 ∧ i = .int .i64 k ∧ Blk wr w.heap.size (bitsF fun j => if j < k then !n.testBit j else n.testBit j) 303 ∧ Blk wr (w.heap.size + 1) (bitsF fun _ => false) 303 ∧ Below w.heap.size w wr) (fun i _ => 32 - (intOf i).toNat)
  case atStart => exact ⟨0, Nat.zero_le _, rfl, ((Blk.new w (bitsA n) 303 _ rfl).alloc _).of_eq (bitsF_congr (fun j hj => by simp)), Blk.new _ _ _ _ (by simp), (by repeat (first | assumption | exact Below.refl _ _ | refine bel_alloc ?_ _ | refine bel_drewN ?_ _ | refine bel_drew ?_ | refine bel_set ?_ (by first | (simp; done) | omega | (simp; omega)) _ | refine bel_trans ?_ (by assumption)))⟩
  case round =>
    obtain ⟨k, hk, rfl, hp, hz, hb⟩ := hrel
    by_cases hlt : k < 32
    · have g1 := blk_bit hp k hlt
      rw [if_neg (Nat.lt_irrefl k)] at g1
      have f1 := hp.facts.2.1 k
      have gb := hp.lt
      have HP := Lib.hid hp
      have HZ := Lib.hid hz
      clear hp hz
      go_wp2
      go_roundw
      case rel =>
        refine ⟨k + 1, by omega, by go_num, ?_, HZ.out.set (by omega), (by repeat (first | assumption | exact Below.refl _ _ | refine bel_alloc ?_ _ | refine bel_drewN ?_ _ | refine bel_drew ?_ | refine bel_set ?_ (by first | (simp; done) | omega | (simp; omega)) _ | refine bel_trans ?_ (by assumption)))⟩
        have h1 := HP.out.store k (.bool (!n.testBit k))
        rw [bitsF_set] at h1
        refine h1.of_eq (bitsF_congr (fun j hj => ?_))
        by_cases h : j = k
        · subst h; simp
        · by_cases h2 : j < k
          · simp [h, h2, show j < k + 1 by omega]
          · simp [h, h2, show ¬ j < k + 1 by omega]
      case measure => simp [intOf]; omega
    · obtain rfl : k = 32 := by omega
      have HP : Hid (Blk wr w.heap.size (bitsA (4294967295 - n)) 303) := Lib.hid (hp.of_eq (bitsF_congr (fun j hj => by rw [comp_bit n j hn]; simp [hj])))
      have HZ := Lib.hid hz
      clear hp hz
      go_wp2_with (first | (refine wpList_load_row rfl 303 (.tmp 1) rfl _ rfl 303 _ (0, 0) _ HP.out Try.underlying303 rfl (by rw [show (bitsA (4294967295 - n)).size = 32 from bitsF_size _]; exact info_row) ?_) | (refine wpList_store_row rfl 303 (.tmp 2) (.tmp 14) rfl _ (bitsA (4294967295 - n)) rfl rfl 303 _ HZ.out (by rw [show (bitsA (4294967295 - n)).size = 32 from bitsF_size _]; exact info_row) (by rw [bitsF_size]; exact (bitsF_size _).symm) (bitsF_one _) ?_))
      refine bodyPost_ret_by (v := .agg (bitsA (4294967295 - n))) ?_ rfl ⟨rfl, ?_⟩
      · exact results_cell1 (a := 2) rfl _ _ _ (w.heap.size + 1) rfl _ (run_loadVar_row _ _ 303 303 _ (0, 0) _ (blk_row HZ.out) Try.underlying303 rfl (by rw [show (bitsA (4294967295 - n)).size = 32 from bitsF_size _]; exact info_row))
      · exact bel_row hb (by omega) _
end Go.Proofs.Ytdjhocgfdbnkmaa.Crc
