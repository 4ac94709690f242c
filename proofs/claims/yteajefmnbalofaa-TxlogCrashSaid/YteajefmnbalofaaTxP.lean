/- A log, plain: what is scanned. -/
import Derived.Test.YteajefmnbalofaaRc4
import Derived.Test.YteajefmnbalofaaDk1
namespace Go.Proofs.Yteajefmnbalofaa.Tx
open Go.RowKit Mem Gx Bytes OpA Rec Dk
set_option linter.unusedVariables false
set_option linter.unusedSimpArgs false
set_option maxRecDepth 100000
set_option maxHeartbeats 1000000
abbrev zeroS : Sec := List.replicate 128 0
theorem ocode_zero (g l : Int) : ocode zeroS g l ≠ 0 := by
  have h1 : pgR zeroS = ([], 21) := by
    unfold pgR Page.getS
    rw [if_neg (by simp), if_pos (.inl (by simp))]
    rfl
  have h2 : rcode zeroS = 21 := by
    unfold rcode
    rw [h1]
    exact if_pos (by decide)
  unfold ocode
  rw [h2, if_pos (by decide)]
  decide
/-- What Scan hands back of a reading: from a number on, so many at most. -/
noncomputable def scanL (rd : Nat → Sec) (z : Nat) (g : Int) : Nat → Nat → List RecD
  | 0, _ => []
  | n + 1, nx => if ocode (rd (2 + nx % z)) g (nx : Int) = 0 then decR (pgR (rd (2 + nx % z))).1 :: scanL rd z g n (nx + 1) else []
/-- A sector that has a record. -/
structure RcI (r : RecD) (B : Sec) : Prop where
  code : ∀ g l : Int, ocode B g l = if r.g ≠ g ∨ r.l ≠ l then 23 else 0
  same : sameR (decR (pgR B).1) r
/-- A log's sectors: its records, then what is none of its. -/
structure LogI (rd : Nat → Sec) (z : Nat) (g : Int) (fs : Nat) (R : List RecD) : Prop where
  len : R.length ≤ z
  rcd : ∀ (j : Nat) (r : RecD), R[j]? = some r → RcI r (rd (2 + (fs + j) % z)) ∧ r.g = g ∧ r.l = ((fs + j : Nat) : Int)
  stop : R.length < z → ocode (rd (2 + (fs + R.length) % z)) g ((fs + R.length : Nat) : Int) ≠ 0
/-- Rows of records that are the same. -/
structure SameRs (L R : List RecD) : Prop where
  len : L.length = R.length
  all : ∀ (j : Nat) (a b : RecD), L[j]? = some a → R[j]? = some b → sameR a b
theorem scan_same {rd : Nat → Sec} {z : Nat} {g : Int} {fs : Nat} {R : List RecD} (h : LogI rd z g fs R) : ∀ (n i : Nat), n = z - i → i ≤ R.length → SameRs (scanL rd z g n (fs + i)) (R.drop i) := by
  intro n
  induction n with
  | zero =>
    intro i hn hi
    have := h.len
    have hi2 : R.length ≤ i := by omega
    rw [List.drop_of_length_le hi2]
    exact ⟨rfl, fun j a b ha => by simp [scanL] at ha⟩
  | succ n ih =>
    intro i hn hi
    by_cases hl : i < R.length
    · have hr : R[i]? = some R[i] := List.getElem?_eq_getElem hl
      obtain ⟨h1, h2, h3⟩ := h.rcd i _ hr
      have hc : ocode (rd (2 + (fs + i) % z)) g ((fs + i : Nat) : Int) = 0 := by
        rw [h1.code, if_neg (by rw [h2, h3]; simp)]
      have hih := ih (i + 1) (by omega) (by omega)
      rw [scanL, if_pos hc, List.drop_eq_getElem_cons hl]
      refine ⟨by rw [List.length_cons, List.length_cons, ← hih.len, Nat.add_assoc], fun j a b ha hb => ?_⟩
      cases j with
      | zero =>
        rw [List.getElem?_cons_zero] at ha hb
        rw [← Option.some.inj ha, ← Option.some.inj hb]
        exact h1.same
      | succ j =>
        rw [List.getElem?_cons_succ] at ha hb
        exact hih.all j a b ha hb
    · have hi2 : i = R.length := by omega
      subst hi2
      rw [scanL, if_neg (h.stop (by omega)), List.drop_of_length_le (Nat.le_refl _)]
      exact ⟨rfl, fun j a b ha => by simp at ha⟩
/-- Two places of a log are one only if their numbers are. -/
theorem at_ne {fs z i j : Nat} (hz : 0 < z) (hi : i < z) (hj : j < z) (h : (fs + i) % z = (fs + j) % z) : i = j := by
  have h1 := Nat.div_add_mod (fs + i) z
  have h2 := Nat.div_add_mod (fs + j) z
  rw [h] at h1
  rcases Nat.lt_trichotomy i j with c | c | c
  · exfalso
    have h3 : z * ((fs + j) / z) = z * ((fs + i) / z) + (j - i) := by omega
    have h4 : (fs + i) / z < (fs + j) / z := by
      rcases Nat.lt_or_ge ((fs + i) / z) ((fs + j) / z) with d | d
      · exact d
      · have := Nat.mul_le_mul_left z d; omega
    have h5 := Nat.mul_le_mul_left z (Nat.succ_le_of_lt h4)
    rw [Nat.mul_succ] at h5
    omega
  · exact c
  · exfalso
    have h3 : z * ((fs + i) / z) = z * ((fs + j) / z) + (i - j) := by omega
    have h4 : (fs + j) / z < (fs + i) / z := by
      rcases Nat.lt_or_ge ((fs + j) / z) ((fs + i) / z) with d | d
      · exact d
      · have := Nat.mul_le_mul_left z d; omega
    have h5 := Nat.mul_le_mul_left z (Nat.succ_le_of_lt h4)
    rw [Nat.mul_succ] at h5
    omega
theorem SameRs.trans {L R T : List RecD} (h : SameRs L R) (h' : SameRs R T) : SameRs L T := ⟨h.len.trans h'.len, fun j a b ha hb => by
  have hj := (List.getElem?_eq_some_iff.1 ha).1
  rw [h.len] at hj
  have hc : R[j]? = some R[j] := List.getElem?_eq_getElem hj
  exact sameR_trans (h.all j a _ ha hc) (h'.all j _ b hc hb)⟩
/-- Where a record lies. -/
abbrev plc (fs z j : Nat) : Nat := 2 + (fs + j) % z
theorem plc_ne {fs z i j : Nat} (hz : 0 < z) (hi : i < z) (hj : j < z) (h : i ≠ j) : plc fs z i ≠ plc fs z j := fun e => h (at_ne (fs := fs) hz hi hj (Nat.add_left_cancel e))
theorem plc_onto (fs : Nat) {z a : Nat} (hz : 0 < z) (ha : a < z) : ∃ j, j < z ∧ (fs + j) % z = a := by
  refine ⟨(a + (z - fs % z)) % z, Nat.mod_lt _ hz, ?_⟩
  have h1 := Nat.mod_lt fs hz
  have h2 := Nat.div_add_mod fs z
  rw [Nat.add_mod_mod, show fs + (a + (z - fs % z)) = a + z * (fs / z + 1) by rw [Nat.mul_add]; omega, Nat.add_mul_mod_self_left, Nat.mod_eq_of_lt ha]
/-- Nothing of another life. -/
structure OldI (rd : Nat → Sec) (z : Nat) (g : Int) : Prop where
  no : ∀ (k : Nat) (g' l : Int), g' ≠ g → ocode (rd (2 + k % z)) g' l ≠ 0
theorem OldI.scan {rd : Nat → Sec} {z : Nat} {g g' : Int} (h : OldI rd z g) (hg : g' ≠ g) : ∀ (n nx : Nat), scanL rd z g' n nx = []
  | 0, _ => rfl
  | n + 1, nx => by rw [scanL, if_neg (h.no nx g' _ hg)]
/-- A log that was never full: its records, then nothing. -/
structure GrowI (rd : Nat → Sec) (z : Nat) (g : Int) (fs : Nat) (R : List RecD) : Prop where
  len : R.length ≤ z
  rcd : ∀ (j : Nat) (r : RecD), R[j]? = some r → RcI r (rd (plc fs z j)) ∧ r.g = g ∧ r.l = ((fs + j : Nat) : Int)
  zero : ∀ j, R.length ≤ j → j < z → rd (plc fs z j) = zeroS
theorem GrowI.log {rd : Nat → Sec} {z : Nat} {g : Int} {fs : Nat} {R : List RecD} (h : GrowI rd z g fs R) : LogI rd z g fs R := ⟨h.len, h.rcd, fun hl => by
  have := h.zero _ (Nat.le_refl _) hl
  unfold plc at this
  rw [this]
  exact ocode_zero _ _⟩
theorem GrowI.old {rd : Nat → Sec} {z : Nat} {g : Int} {fs : Nat} {R : List RecD} (h : GrowI rd z g fs R) (hz : 0 < z) : OldI rd z g := ⟨fun k g' l hg => by
  obtain ⟨j, hj, e⟩ := plc_onto fs hz (Nat.mod_lt k hz)
  rw [← e]
  by_cases hl : j < R.length
  · obtain ⟨h1, h2, _⟩ := h.rcd j _ (List.getElem?_eq_getElem hl)
    rw [h1.code, if_pos (.inl (by rw [h2]; exact fun e => hg e.symm))]
    decide
  · have := h.zero j (by omega) hj
    unfold plc at this
    rw [this]
    exact ocode_zero _ _⟩
theorem GrowI.snoc {rd rd' : Nat → Sec} {z : Nat} {g : Int} {fs : Nat} {R : List RecD} {r : RecD} {B : Sec} (h : GrowI rd z g fs R) (hlt : R.length < z) (hr : RcI r B) (h1 : r.g = g) (h2 : r.l = ((fs + R.length : Nat) : Int)) (hrd : ∀ a, rd' a = if plc fs z R.length = a then B else rd a) : GrowI rd' z g fs (R ++ [r]) := by
  have hl : (R ++ [r]).length = R.length + 1 := by simp
  refine ⟨by omega, fun j x hx => ?_, fun j h3 h4 => ?_⟩
  · by_cases hj : j = R.length
    · subst hj
      rw [List.getElem?_concat_length] at hx
      obtain rfl := Option.some.inj hx
      rw [hrd, if_pos rfl]
      exact ⟨hr, h1, h2⟩
    · have hj2 : j < R.length := by
        have := (List.getElem?_eq_some_iff.1 hx).1
        omega
      rw [List.getElem?_append_left hj2] at hx
      rw [hrd, if_neg (plc_ne (by omega) hlt (by omega) (by omega))]
      exact h.rcd j x hx
  · rw [hrd, if_neg (plc_ne (by omega) hlt h4 (by omega))]
    exact h.zero j (by omega) h4
/-- An operation as it looks, in its sector. -/
theorem rcI_put (r : RecD) (hb : r.Bd) {p q : OpD} (hk : 1 ≤ r.o.k ∧ r.o.k ≤ 14) (hr : rrightB r.o = true) (hp : PlainAt r.o (looks r.o.k) p) (hf : Fits p) (hq : PlainAt r.o (looks r.o.k) q) : RcI ⟨r.g, r.l, r.t, q⟩ (Page.page 2 (recL r (putL p))) :=
  ⟨fun g l => oc_back r hb hk hr hp hf g l, sameR_trans (rc_back r hb hk hr hp hf).2 ⟨rfl, rfl, rfl, plain_same hp hq⟩⟩
/-- Writes one behind the other. -/
def wrs (pl : Nat → Nat) (PG : Nat → Sec) (s : Nat) : Nat → List Wr
  | 0 => []
  | n + 1 => wrs pl PG s n ++ [(pl (s + n), PG (s + n))]
theorem wrs_len (pl : Nat → Nat) (PG : Nat → Sec) (s : Nat) : ∀ n, (wrs pl PG s n).length = n
  | 0 => rfl
  | n + 1 => by rw [wrs, List.length_append, wrs_len pl PG s n]; rfl
theorem wrs_each (p : Nat → Bool) {pl : Nat → Nat} {PG : Nat → Sec} {S : List Sec} {z s : Nat} (hinj : ∀ i j, i < z → j < z → i ≠ j → pl i ≠ pl j) (hlt : ∀ j, j < z → pl j < S.length) : ∀ n, s + n ≤ z → ∀ j, j < z → (eachC p 0 (wrs pl PG s n) S)[pl j]? = if s ≤ j ∧ j < s + n ∧ p (j - s) = true then some (PG j) else S[pl j]?
  | 0, _, j, _ => by rw [if_neg (fun h => by have := h.1; have := h.2.1; omega)]; rfl
  | n + 1, hn, j, hj => by
    have ih := wrs_each p (PG := PG) (S := S) (s := s) hinj hlt n (by omega) j hj
    rw [wrs, eachC_snoc, wrs_len, Nat.zero_add]
    by_cases hp : p n = true
    · rw [if_pos hp]
      by_cases e : j = s + n
      · subst e
        rw [List.getElem?_set_self (by rw [eachC_len]; exact hlt _ hj), if_pos ⟨by omega, by omega, by rw [Nat.add_sub_cancel_left]; exact hp⟩]
      · rw [List.getElem?_set_ne (hinj _ _ (by omega) hj (by omega)), ih]
        by_cases c : s ≤ j ∧ j < s + n ∧ p (j - s) = true
        · rw [if_pos c, if_pos ⟨c.1, by omega, c.2.2⟩]
        · rw [if_neg c, if_neg (fun h => c ⟨h.1, by omega, h.2.2⟩)]
    · rw [if_neg hp, ih]
      by_cases c : s ≤ j ∧ j < s + n ∧ p (j - s) = true
      · rw [if_pos c, if_pos ⟨c.1, by omega, c.2.2⟩]
      · rw [if_neg c, if_neg (fun h => c ⟨h.1, by
          have : j ≠ s + n := fun e => hp (by have := h.2.2; rwa [e, Nat.add_sub_cancel_left] at this)
          omega, h.2.2⟩)]
/-- Sectors that have a record, or nothing. -/
structure TabI (rd : Nat → Sec) (z : Nat) (g : Int) (fs : Nat) (PG : Nat → Sec) (R : Nat → RecD) (has : Nat → Prop) : Prop where
  r : ∀ j, j < z → RcI (R j) (PG j) ∧ (R j).g = g ∧ (R j).l = ((fs + j : Nat) : Int)
  yes : ∀ j, j < z → has j → rd (plc fs z j) = PG j
  no : ∀ j, j < z → ¬ has j → rd (plc fs z j) = zeroS
theorem TabI.log {rd : Nat → Sec} {z : Nat} {g : Int} {fs : Nat} {PG : Nat → Sec} {R : Nat → RecD} {has : Nat → Prop} (h : TabI rd z g fs PG R has) {n : Nat} (hn : n ≤ z) (h1 : ∀ j, j < n → has j) (h2 : n < z → ¬ has n) : LogI rd z g fs ((List.range n).map R) := by
  have hl : ((List.range n).map R).length = n := by simp
  refine ⟨by omega, fun j x hx => ?_, fun hlt => ?_⟩
  · have hj := (List.getElem?_eq_some_iff.1 hx).1
    rw [hl] at hj
    rw [List.getElem?_map, List.getElem?_range hj] at hx
    obtain rfl := Option.some.inj hx
    have e := h.yes j (by omega) (h1 j hj)
    unfold plc at e
    rw [e]
    exact h.r j (by omega)
  · rw [hl] at hlt ⊢
    have e := h.no n hlt (h2 hlt)
    unfold plc at e
    rw [e]
    exact ocode_zero _ _
theorem TabI.old {rd : Nat → Sec} {z : Nat} {g : Int} {fs : Nat} {PG : Nat → Sec} {R : Nat → RecD} {has : Nat → Prop} (h : TabI rd z g fs PG R has) (hz : 0 < z) : OldI rd z g := ⟨fun k g' l hg => by
  obtain ⟨j, hj, e⟩ := plc_onto fs hz (Nat.mod_lt k hz)
  rw [← e]
  by_cases hl : has j
  · obtain ⟨h1, h2, _⟩ := h.r j hj
    have e2 := h.yes j hj hl
    unfold plc at e2
    rw [e2, h1.code, if_pos (.inl (by rw [h2]; exact fun e => hg e.symm))]
    decide
  · have e2 := h.no j hj hl
    unfold plc at e2
    rw [e2]
    exact ocode_zero _ _⟩
theorem scan_one {rd rd2 : Nat → Sec} {z nx : Nat} {g g' : Int} {r : RecD} {B : Sec} (hold : OldI rd z g) (hg : g' ≠ g) (hz : 0 < z) (hr : RcI r B) (h1 : r.g = g') (h2 : r.l = ((nx : Nat) : Int)) (hrd : ∀ a, rd2 a = if 2 + nx % z = a then B else rd a) : SameRs (scanL rd2 z g' z nx) [r] := by
  obtain ⟨m, rfl⟩ : ∃ m, z = m + 1 := ⟨z - 1, by omega⟩
  have e1 : scanL rd2 (m + 1) g' m (nx + 1) = [] := by
    cases m with
    | zero => rfl
    | succ m =>
      have hne : 2 + nx % (m + 1 + 1) ≠ 2 + (nx + 1) % (m + 1 + 1) := fun e => by
        have := at_ne (fs := nx) (i := 0) (j := 1) hz (by omega) (by omega) (Nat.add_left_cancel e)
        omega
      rw [scanL, if_neg]
      rw [hrd, if_neg hne]
      exact hold.no (nx + 1) g' _ hg
  rw [scanL, if_pos (by rw [hrd, if_pos rfl, hr.code, if_neg (by rw [h1, h2]; simp)]), e1, hrd, if_pos rfl]
  exact ⟨rfl, fun j a b ha hb => by
    cases j with
    | zero =>
      rw [List.getElem?_cons_zero] at ha hb
      rw [← Option.some.inj ha, ← Option.some.inj hb]
      exact hr.same
    | succ j => rw [List.getElem?_cons_succ] at ha; simp at ha⟩
end Go.Proofs.Yteajefmnbalofaa.Tx
