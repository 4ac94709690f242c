/- Plain law: a number as bytes, the lowest first, and back. Plain law: eight turns of a state under a byte, by numbers, are eight turns bit by bit. -/
import Derived.Test.YtokhfkbbhdaghaaGreatRows
namespace Go.Proofs.YtokhfkbbhdaghaaGreat.Bytes
set_option linter.unusedVariables false
set_option linter.unusedSimpArgs false

/-- The k lowest bytes of a number. -/
def le (n : Int) (k : Nat) : List Int := (List.range k).map fun i => n / 256 ^ i % 256
theorem le_length (n : Int) (k : Nat) : (le n k).length = k := by simp [le]
theorem le_zero (n : Int) : le n 0 = [] := rfl
theorem le_snoc (n : Int) (k : Nat) : le n (k + 1) = le n k ++ [n / 256 ^ k % 256] := by simp [le, List.range_succ]
theorem le_cons (n : Int) (k : Nat) : le n (k + 1) = n % 256 :: le (n / 256) k := by
  unfold le
  rw [List.range_succ_eq_map, List.map_cons, List.map_map]
  simp only [Int.pow_zero, Int.ediv_one, List.cons.injEq, true_and]
  apply List.map_congr_left
  intro i _
  show n / 256 ^ (i + 1) % 256 = n / 256 / 256 ^ i % 256
  rw [Int.pow_succ, Int.mul_comm, Int.ediv_ediv_of_nonneg (by decide)]
def IsB (L : List Int) : Prop := ∀ x ∈ L, 0 ≤ x ∧ x ≤ 255
theorem le_isB (n : Int) (k : Nat) : IsB (le n k) := by
  intro x hx
  simp only [le, List.mem_map] at hx
  obtain ⟨i, _, rfl⟩ := hx
  have h1 := Int.emod_nonneg (n / 256 ^ i) (show (256 : Int) ≠ 0 by decide)
  have h2 := Int.emod_lt_of_pos (n / 256 ^ i) (show (0 : Int) < 256 by decide)
  omega
theorem IsB.append {L M : List Int} (h : IsB L) (h' : IsB M) : IsB (L ++ M) := fun x hx => (List.mem_append.1 hx).elim (h x) (h' x)
theorem IsB.take {L : List Int} (h : IsB L) (k : Nat) : IsB (L.take k) := fun x hx => h x (List.mem_of_mem_take hx)
theorem IsB.drop {L : List Int} (h : IsB L) (k : Nat) : IsB (L.drop k) := fun x hx => h x (List.mem_of_mem_drop hx)
theorem IsB.nil : IsB [] := fun x hx => by cases hx
theorem IsB.cons {a : Int} {L : List Int} (h : 0 ≤ a ∧ a ≤ 255) (h' : IsB L) : IsB (a :: L) := fun x hx => by
  rcases List.mem_cons.1 hx with rfl | hx
  · exact h
  · exact h' x hx
theorem IsB.replicate (n : Nat) : IsB (List.replicate n 0) := fun x hx => by
  have := List.eq_of_mem_replicate hx
  omega
/-- The number of bytes. -/
def num : List Int → Int
  | [] => 0
  | c :: l => c + 256 * num l
theorem num_snoc (l : List Int) (c : Int) : num (l ++ [c]) = num l + c * 256 ^ l.length := by
  induction l with
  | nil => simp [num]
  | cons a l ih =>
    rw [List.cons_append, num, ih, num, List.length_cons, Int.pow_succ]
    have : c * (256 ^ l.length * 256) = 256 * (c * 256 ^ l.length) := by rw [← Int.mul_assoc, Int.mul_comm]
    rw [this]
    omega
theorem num_bd {l : List Int} (h : IsB l) : 0 ≤ num l ∧ num l < 256 ^ l.length := by
  induction l with
  | nil => simp [num]
  | cons a l ih =>
    have h1 := ih fun x hx => h x (by simp [hx])
    have h2 := h a (by simp)
    rw [num, List.length_cons, Int.pow_succ]
    omega
theorem pow_pos' (k : Nat) : (0 : Int) < 256 ^ k := Int.pow_pos (by decide)
theorem emod_mul' (n m : Int) (hm : 0 < m) : n % 256 + 256 * (n / 256 % m) = n % (256 * m) := by
  have h1 := Int.emod_add_mul_ediv n 256
  have h2 := Int.emod_add_mul_ediv (n / 256) m
  have b1 := Int.emod_nonneg n (show (256 : Int) ≠ 0 by decide)
  have b2 := Int.emod_lt_of_pos n (show (0 : Int) < 256 by decide)
  have b3 := Int.emod_nonneg (n / 256) (show m ≠ 0 by omega)
  have b4 := Int.emod_lt_of_pos (n / 256) hm
  have e : n = (n % 256 + 256 * (n / 256 % m)) + 256 * m * (n / 256 / m) := by
    have : 256 * (n / 256) = 256 * (n / 256 % m) + 256 * m * (n / 256 / m) := by
      rw [Int.mul_assoc, ← Int.mul_add, h2]
    omega
  have h3 : n % (256 * m) = (n % 256 + 256 * (n / 256 % m)) % (256 * m) := by
    conv => lhs; rw [e]
    rw [Int.add_mul_emod_self_left]
  rw [h3]
  exact (Int.emod_eq_of_lt (by omega) (by omega)).symm
theorem num_le (n : Int) (h : 0 ≤ n) (k : Nat) : num (le n k) = n % 256 ^ k := by
  induction k generalizing n with
  | zero => simp [le, num, Int.emod_one]
  | succ k ih =>
    rw [le_cons, num, ih (n / 256) (Int.ediv_nonneg h (by decide)), Int.pow_succ, Int.mul_comm (256 ^ k) 256, emod_mul' _ _ (pow_pos' k)]
theorem le_num {L : List Int} (h : IsB L) : le (num L) L.length = L := by
  induction L with
  | nil => rfl
  | cons a l ih =>
    have h2 := h a (by simp)
    rw [List.length_cons, le_cons, num]
    have h3 : (a + 256 * num l) % 256 = a := by omega
    have h4 : (a + 256 * num l) / 256 = num l := by omega
    rw [h3, h4, ih fun x hx => h x (by simp [hx])]
theorem num_inj {L M : List Int} (h : IsB L) (h' : IsB M) (hl : L.length = M.length) (e : num L = num M) : L = M := by
  rw [← le_num h, ← le_num h', e, hl]
theorem pow_split (k m : Nat) (h : k ≤ m) : (256 : Int) ^ m = 256 ^ k * 256 ^ (m - k) := by rw [← Int.pow_add]; congr 1; omega
theorem num_lt8 {l : List Int} (h : IsB l) (hl : l.length ≤ 8) : num l < 18446744073709551616 := by
  have h1 := (num_bd h).2
  have h2 : (256 : Int) ^ l.length ≤ 256 ^ 8 := by
    rw [pow_split l.length 8 hl]
    have := pow_pos' (8 - l.length)
    have h3 := pow_pos' l.length
    have := Int.mul_le_mul_of_nonneg_left (show (1 : Int) ≤ 256 ^ (8 - l.length) by omega) (show (0 : Int) ≤ 256 ^ l.length by omega)
    omega
  have : (256 : Int) ^ 8 = 18446744073709551616 := by decide
  omega
theorem num_take_succ {L : List Int} {k : Nat} {x : Int} (h : L[k]? = some x) : num (L.take (k + 1)) = num (L.take k) + x * 256 ^ k := by
  have hk : k < L.length := by
    rcases Nat.lt_or_ge k L.length with h' | h'
    · exact h'
    · rw [List.getElem?_eq_none h'] at h; cases h
  rw [List.take_add_one, h, Option.toList_some, num_snoc, List.length_take, Nat.min_eq_left (by omega)]
theorem num_drop {L : List Int} {k : Nat} {x : Int} (h : L[k]? = some x) : num (L.drop k) = x + 256 * num (L.drop (k + 1)) := by
  have hk : k < L.length := by
    rcases Nat.lt_or_ge k L.length with h' | h'
    · exact h'
    · rw [List.getElem?_eq_none h'] at h; cases h
  rw [List.drop_eq_getElem_cons hk]
  rw [List.getElem?_eq_getElem hk] at h
  injection h with h
  rw [h]; rfl
end Go.Proofs.YtokhfkbbhdaghaaGreat.Bytes
namespace Go.Proofs.YtokhfkbbhdaghaaGreat.Crc
set_option linter.unusedVariables false
set_option linter.unusedSimpArgs false

def poly : Nat := 3988292384
/-- The program's turn of one bit. -/
def sh (n : Nat) : Nat := if n % 2 = 1 then (n / 2) ^^^ poly else n / 2
def shs : Nat → Nat → Nat
  | 0, n => n
  | k + 1, n => sh (shs k n)
def turnN (n c : Nat) : Nat := shs 8 (n ^^^ c)
/-- The document's turn of one bit. -/
def rstep (S c k : Nat) : Nat := (S / 2) ^^^ (if (S.testBit 0 != c.testBit k) then poly else 0)
def rbyte (S c : Nat) : Nat → Nat
  | 0 => S
  | k + 1 => rstep (rbyte S c k) c k
theorem odd_testBit (n : Nat) : n % 2 = 1 ↔ n.testBit 0 = true := by
  rw [Nat.testBit_zero]; simp
theorem half_xor (a b : Nat) : (a ^^^ b) / 2 = a / 2 ^^^ b / 2 := by
  have := Nat.shiftRight_xor_distrib (a := a) (b := b) (i := 1)
  simpa [Nat.shiftRight_eq_div_pow] using this
theorem xor_lt32 {a b : Nat} (ha : a < 4294967296) (hb : b < 4294967296) : a ^^^ b < 4294967296 := Nat.xor_lt_two_pow (n := 32) (x := a) (y := b) ha hb
theorem half_shift (c k : Nat) : (c >>> k) / 2 = c >>> (k + 1) := by
  rw [Nat.shiftRight_succ]
theorem step_eq (R c k : Nat) : sh (R ^^^ (c >>> k)) = rstep R c k ^^^ (c >>> (k + 1)) := by
  have h0 : (R ^^^ (c >>> k)) % 2 = 1 ↔ (R.testBit 0 != c.testBit k) = true := by
    rw [odd_testBit, Nat.testBit_xor, Nat.testBit_shiftRight]
    simp [bne]
  unfold sh rstep
  rw [half_xor, half_shift]
  by_cases h : (R.testBit 0 != c.testBit k) = true
  · rw [if_pos (h0.2 h), if_pos h]
    rw [Nat.xor_assoc, Nat.xor_assoc, Nat.xor_comm (c >>> (k + 1)) poly]
  · rw [if_neg (fun hh => h (h0.1 hh)), if_neg h]
    simp
theorem shs_eq (S c k : Nat) : shs k (S ^^^ c) = rbyte S c k ^^^ (c >>> k) := by
  induction k with
  | zero => simp [shs, rbyte]
  | succ k ih => rw [shs, ih, step_eq]; rfl
theorem turn_eq (S c : Nat) (hc : c < 256) : turnN S c = rbyte S c 8 := by
  unfold turnN
  rw [shs_eq, Nat.shiftRight_eq_div_pow]
  have : c / 2 ^ 8 = 0 := Nat.div_eq_of_lt hc
  rw [this, Nat.xor_zero]
theorem poly_lt : poly < 4294967296 := by decide
theorem sh_lt {n : Nat} (h : n < 4294967296) : sh n < 4294967296 := by
  unfold sh
  split
  · exact xor_lt32 (by omega) (by decide)
  · omega
theorem shs_lt {n k : Nat} (h : n < 4294967296) : shs k n < 4294967296 := by
  induction k with
  | zero => exact h
  | succ k ih => exact sh_lt ih
theorem turn_lt {n c : Nat} (h : n < 4294967296) (hc : c < 256) : turnN n c < 4294967296 := by
  unfold turnN
  exact shs_lt (xor_lt32 h (by omega))
theorem rstep_lt {S c k : Nat} (h : S < 4294967296) : rstep S c k < 4294967296 := by
  unfold rstep
  refine xor_lt32 (by omega) ?_
  split
  · decide
  · decide
theorem rbyte_lt {S c k : Nat} (h : S < 4294967296) : rbyte S c k < 4294967296 := by
  induction k with
  | zero => exact h
  | succ k ih => exact rstep_lt ih
/-- The bit j of the turned state. -/
theorem poly_zero (b : Bool) (j : Nat) : (if b = true then poly else 0).testBit j = (b && poly.testBit j) := by
  cases b
  · simp
  · rfl
theorem rstep_bit {S c k j : Nat} : (rstep S c k).testBit j = (S.testBit (j + 1) != ((S.testBit 0 != c.testBit k) && poly.testBit j)) := by
  unfold rstep
  rw [Nat.testBit_xor, Nat.testBit_div_two, poly_zero]
/-- The state behind bytes. -/
def crcL (n : Nat) (l : List Nat) : Nat := l.foldl turnN n
theorem crcL_nil (n : Nat) : crcL n [] = n := by unfold crcL; rw [List.foldl_nil]
theorem crcL_append (n : Nat) (l m : List Nat) : crcL n (l ++ m) = crcL (crcL n l) m := by unfold crcL; rw [List.foldl_append]
theorem crcL_snoc (n : Nat) (l : List Nat) (c : Nat) : crcL n (l ++ [c]) = turnN (crcL n l) c := by
  unfold crcL; rw [List.foldl_append, List.foldl_cons, List.foldl_nil]
theorem crcL_cons (n : Nat) (l : List Nat) (c : Nat) : crcL n (c :: l) = crcL (turnN n c) l := by
  unfold crcL; rw [List.foldl_cons]
theorem crcL_lt {n : Nat} {l : List Nat} (h : n < 4294967296) (hl : ∀ c ∈ l, c < 256) : crcL n l < 4294967296 := by
  induction l generalizing n with
  | nil => rw [crcL_nil]; exact h
  | cons c l ih => rw [crcL_cons]; exact ih (turn_lt h (hl c (by simp))) (fun d hd => hl d (by simp [hd]))
end Go.Proofs.YtokhfkbbhdaghaaGreat.Crc
