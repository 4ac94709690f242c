/- Plain law: eight turns of a state under a byte, by numbers, are eight turns bit by bit. -/
import Derived.Test.YtdjhocgfdbnkmaaRows
namespace Go.Proofs.Ytdjhocgfdbnkmaa.Crc
set_option linter.unusedVariables false
set_option linter.unusedSimpArgs false

def poly : Nat := 3988292384
/-- The program's turn of one bit. -/
def sh (n : Nat) : Nat := if n % 2 = 1 then (n / 2) ^^^ poly else n / 2
def shs : Nat → Nat → Nat
  | 0, n => n
  | k + 1, n => sh (shs k n)
def turnN (n c : Nat) : Nat := shs 8 (n ^^^ c)
/-- The document's turn of one bit. -/
def rstep (S c k : Nat) : Nat := (S / 2) ^^^ (if (S.testBit 0 != c.testBit k) then poly else 0)
def rbyte (S c : Nat) : Nat → Nat
  | 0 => S
  | k + 1 => rstep (rbyte S c k) c k
theorem odd_testBit (n : Nat) : n % 2 = 1 ↔ n.testBit 0 = true := by
  rw [Nat.testBit_zero]; simp
theorem half_xor (a b : Nat) : (a ^^^ b) / 2 = a / 2 ^^^ b / 2 := by
  have := Nat.shiftRight_xor_distrib (a := a) (b := b) (i := 1)
  simpa [Nat.shiftRight_eq_div_pow] using this
theorem xor_lt32 {a b : Nat} (ha : a < 4294967296) (hb : b < 4294967296) : a ^^^ b < 4294967296 := Nat.xor_lt_two_pow (n := 32) (x := a) (y := b) ha hb
theorem half_shift (c k : Nat) : (c >>> k) / 2 = c >>> (k + 1) := by
  rw [Nat.shiftRight_succ]
theorem step_eq (R c k : Nat) : sh (R ^^^ (c >>> k)) = rstep R c k ^^^ (c >>> (k + 1)) := by
  have h0 : (R ^^^ (c >>> k)) % 2 = 1 ↔ (R.testBit 0 != c.testBit k) = true := by
    rw [odd_testBit, Nat.testBit_xor, Nat.testBit_shiftRight]
    simp [bne]
  unfold sh rstep
  rw [half_xor, half_shift]
  by_cases h : (R.testBit 0 != c.testBit k) = true
  · rw [if_pos (h0.2 h), if_pos h]
    rw [Nat.xor_assoc, Nat.xor_assoc, Nat.xor_comm (c >>> (k + 1)) poly]
  · rw [if_neg (fun hh => h (h0.1 hh)), if_neg h]
    simp
theorem shs_eq (S c k : Nat) : shs k (S ^^^ c) = rbyte S c k ^^^ (c >>> k) := by
  induction k with
  | zero => simp [shs, rbyte]
  | succ k ih => rw [shs, ih, step_eq]; rfl
theorem turn_eq (S c : Nat) (hc : c < 256) : turnN S c = rbyte S c 8 := by
  unfold turnN
  rw [shs_eq, Nat.shiftRight_eq_div_pow]
  have : c / 2 ^ 8 = 0 := Nat.div_eq_of_lt hc
  rw [this, Nat.xor_zero]
theorem poly_lt : poly < 4294967296 := by decide
theorem sh_lt {n : Nat} (h : n < 4294967296) : sh n < 4294967296 := by
  unfold sh
  split
  · exact xor_lt32 (by omega) (by decide)
  · omega
theorem shs_lt {n k : Nat} (h : n < 4294967296) : shs k n < 4294967296 := by
  induction k with
  | zero => exact h
  | succ k ih => exact sh_lt ih
theorem turn_lt {n c : Nat} (h : n < 4294967296) (hc : c < 256) : turnN n c < 4294967296 := by
  unfold turnN
  exact shs_lt (xor_lt32 h (by omega))
theorem rstep_lt {S c k : Nat} (h : S < 4294967296) : rstep S c k < 4294967296 := by
  unfold rstep
  refine xor_lt32 (by omega) ?_
  split
  · decide
  · decide
theorem rbyte_lt {S c k : Nat} (h : S < 4294967296) : rbyte S c k < 4294967296 := by
  induction k with
  | zero => exact h
  | succ k ih => exact rstep_lt ih
/-- The bit j of the turned state. -/
theorem poly_zero (b : Bool) (j : Nat) : (if b = true then poly else 0).testBit j = (b && poly.testBit j) := by
  cases b
  · simp
  · rfl
theorem rstep_bit {S c k j : Nat} : (rstep S c k).testBit j = (S.testBit (j + 1) != ((S.testBit 0 != c.testBit k) && poly.testBit j)) := by
  unfold rstep
  rw [Nat.testBit_xor, Nat.testBit_div_two, poly_zero]
/-- The state behind bytes. -/
def crcL (n : Nat) (l : List Nat) : Nat := l.foldl turnN n
theorem crcL_nil (n : Nat) : crcL n [] = n := by unfold crcL; rw [List.foldl_nil]
theorem crcL_append (n : Nat) (l m : List Nat) : crcL n (l ++ m) = crcL (crcL n l) m := by unfold crcL; rw [List.foldl_append]
theorem crcL_snoc (n : Nat) (l : List Nat) (c : Nat) : crcL n (l ++ [c]) = turnN (crcL n l) c := by
  unfold crcL; rw [List.foldl_append, List.foldl_cons, List.foldl_nil]
theorem crcL_cons (n : Nat) (l : List Nat) (c : Nat) : crcL n (c :: l) = crcL (turnN n c) l := by
  unfold crcL; rw [List.foldl_cons]
theorem crcL_lt {n : Nat} {l : List Nat} (h : n < 4294967296) (hl : ∀ c ∈ l, c < 256) : crcL n l < 4294967296 := by
  induction l generalizing n with
  | nil => rw [crcL_nil]; exact h
  | cons c l ih => rw [crcL_cons]; exact ih (turn_lt h (hl c (by simp))) (fun d hd => hl d (by simp [hd]))
end Go.Proofs.Ytdjhocgfdbnkmaa.Crc
