/- op: bytes read as an operation, in plain words. -/
import Derived.Test.YtkdphoacniigjaaOpH
namespace Go.Proofs.Ytkdphoacniigjaa.OpA
open Go.RowKit Mem Gx Sls Bytes
set_option linter.unusedVariables false
set_option linter.unusedSimpArgs false
set_option maxRecDepth 100000
set_option maxHeartbeats 1000000
/-- The number at a place. -/
def at_ (L : List Int) (o k : Nat) : Int := num ((L.drop o).take k)
def dn (L : List Int) : Nat := (at_ L 15 1).toNat
def dm (L : List Int) : Nat := (at_ L 16 1).toNat
/-- m numbers of two bytes. -/
def decM (L : List Int) : Nat → List Int
  | 0 => []
  | m + 1 => num (L.take 2) :: decM (L.drop 2) m
def dec (L : List Int) (a m : SlV) : OpD := ⟨at_ L 0 1, at_ L 1 2, at_ L 3 2, at_ L 5 1, at_ L 6 1, at_ L 7 8, a, (L.drop 17).take (dn L), m, decM (L.drop (17 + dn L)) (dm L)⟩
theorem decM_len (m : Nat) : ∀ L, (decM L m).length = m := by
  induction m with
  | zero => intro L; rfl
  | succ m ih => intro L; show (decM (L.drop 2) m).length + 1 = _; rw [ih]
theorem at_bd {L : List Int} (h : IsB L) (o k : Nat) (m : Int) (hm : (256 : Int) ^ k = m) : 0 ≤ at_ L o k ∧ at_ L o k < m := by
  have h1 := num_bd ((h.drop o).take k)
  refine ⟨h1.1, Int.lt_of_lt_of_le h1.2 ?_⟩
  have hl : ((L.drop o).take k).length ≤ k := by rw [List.length_take]; omega
  rw [← hm, pow_split _ k hl]
  have h2 : (0 : Int) < 256 ^ ((L.drop o).take k).length := pow_pos' _
  have h3 : (0 : Int) < 256 ^ (k - ((L.drop o).take k).length) := pow_pos' _
  have h4 : (256 : Int) ^ ((L.drop o).take k).length * 1 ≤ 256 ^ ((L.drop o).take k).length * 256 ^ (k - ((L.drop o).take k).length) := Int.mul_le_mul_of_nonneg_left (by omega) (by omega)
  omega
theorem le_at {L : List Int} (h : IsB L) (o k : Nat) (hl : o + k ≤ L.length) : le (at_ L o k) k = (L.drop o).take k := by
  have h1 : ((L.drop o).take k).length = k := by rw [List.length_take, List.length_drop]; omega
  have h2 := le_num ((h.drop o).take k)
  rw [h1] at h2
  exact h2
theorem one_at {L : List Int} (h : IsB L) (o : Nat) (hl : o + 1 ≤ L.length) : [at_ L o 1] = (L.drop o).take 1 := by
  rw [← le_at h o 1 hl]
  have := at_bd h o 1 256 (by decide)
  rw [le_cons, le_zero, Int.emod_eq_of_lt this.1 this.2]
theorem memL_dec {L : List Int} (h : IsB L) : ∀ (m : Nat), 2 * m ≤ L.length → memL (decM L m) = L.take (2 * m) := by
  intro m
  induction m generalizing L with
  | zero => intro _; rfl
  | succ m ih =>
    intro hl
    show memL (num (L.take 2) :: decM (L.drop 2) m) = _
    have h1 := le_at h 0 2 (by omega)
    rw [List.drop_zero] at h1
    have h2 : le (num (L.take 2)) 2 = L.take 2 := by
      have : at_ L 0 2 = num (L.take 2) := by unfold at_; rw [List.drop_zero]
      rw [← this]; exact h1
    have e : memL (num (L.take 2) :: decM (L.drop 2) m) = le (num (L.take 2)) 2 ++ memL (decM (L.drop 2) m) := rfl
    rw [e, h2, ih (h.drop 2) (by rw [List.length_drop]; omega)]
    have h3 : 2 * (m + 1) = 2 + 2 * m := by omega
    rw [h3, List.take_add]
theorem decM_memL : ∀ (M R : List Int), (∀ x ∈ M, 0 ≤ x ∧ x ≤ 65535) → decM (memL M ++ R) M.length = M
  | [], R, _ => rfl
  | x :: r, R, h => by
    have hx := h x (.head _)
    have e : memL (x :: r) ++ R = le x 2 ++ (memL r ++ R) := by
      show (le x 2 ++ memL r) ++ R = _
      rw [List.append_assoc]
    show num ((memL (x :: r) ++ R).take 2) :: decM ((memL (x :: r) ++ R).drop 2) r.length = _
    rw [e, List.take_left' (le_length x 2), List.drop_left' (le_length x 2), decM_memL r R (fun y hy => h y (.tail _ hy)), num_le x hx.1 2, Int.emod_eq_of_lt hx.1 (by omega)]
/-- Fields that have room. -/
structure Rg (p : OpD) : Prop where
  rk : 0 ≤ p.k ∧ p.k < 256
  rv : 0 ≤ p.v ∧ p.v < 65536
  ri : 0 ≤ p.i ∧ p.i < 65536
  rb : 0 ≤ p.b ∧ p.b < 256
  rc : 0 ≤ p.c ∧ p.c < 256
  rp : 0 ≤ p.p ∧ p.p < 18446744073709551616
  rD : p.D.length < 256
  rM : p.M.length < 256
  rm : ∀ x ∈ p.M, 0 ≤ x ∧ x ≤ 65535
theorem take_add' {α : Type} (L : List α) (a b : Nat) : L.take (a + b) = L.take a ++ (L.drop a).take b := List.take_add
/-- What is read, put again. -/
theorem put_dec {L : List Int} (h : IsB L) (a m : SlV) (hl : L.length = 17 + dn L + 2 * dm L) : putL (dec L a m) = L := by
  have hn := at_bd h 15 1 256 (by decide)
  have hm := at_bd h 16 1 256 (by decide)
  have eD : ((L.drop 17).take (dn L)).length = dn L := by rw [List.length_take, List.length_drop]; omega
  unfold putL headL dec
  dsimp only
  rw [eD, decM_len, memL_dec (h.drop _) (dm L) (by rw [List.length_drop]; omega), one_at h 0 (by omega), le_at h 1 2 (by omega), le_at h 3 2 (by omega), le_at h 7 8 (by omega)]
  have e1 : [at_ L 5 1, at_ L 6 1] = (L.drop 5).take 1 ++ (L.drop 6).take 1 := by rw [← one_at h 5 (by omega), ← one_at h 6 (by omega)]; rfl
  have e2 : [((dn L : Nat) : Int), ((dm L : Nat) : Int)] = (L.drop 15).take 1 ++ (L.drop 16).take 1 := by
    rw [← one_at h 15 (by omega), ← one_at h 16 (by omega)]
    unfold dn dm
    rw [Int.toNat_of_nonneg hn.1, Int.toNat_of_nonneg hm.1]; rfl
  rw [e1, e2]
  have t : ∀ (a b : Nat), (L.take a) ++ (L.drop a).take b = L.take (a + b) := fun a b => (take_add' L a b).symm
  have e0 : (L.drop 0).take 1 = L.take 1 := by rw [List.drop_zero]
  rw [e0]
  simp only [← List.append_assoc]
  rw [t 1 2, t 3 2, t 5 1, t 6 1, t 7 8, t 15 1, t 16 1, t 17 (dn L), t (17 + dn L) (2 * dm L), ← hl, List.take_length]
end Go.Proofs.Ytkdphoacniigjaa.OpA
