/- Runs of blocks, plain. -/
import Derived.Test.YteajefmnbalofaaDd
namespace Go.Proofs.Yteajefmnbalofaa.Ex
open Go.RowKit Mem Gx Dd
set_option linter.unusedVariables false
set_option linter.unusedSimpArgs false
/-- A run. -/
structure RunD where
  f : Int
  m : Int
instance : Inhabited RunD := ⟨⟨0, 0⟩⟩
def RE : RunD → Nat → Value := fun r k => match k with
  | 0 => .int .i64 r.f
  | _ => .int .i64 r.m
theorem oneRun : ∀ (x : RunD) (j : Nat), (RE x j).oneCell' = true := by intro x j; rcases j with _ | j <;> rfl
def inr (b : Int) : Bool := decide (0 ≤ b ∧ b ≤ 4096)
def okR (e : Int) (r : RunD) : Prop := 1 ≤ r.m ∧ e < r.f ∧ 0 ≤ r.f ∧ r.m ≤ 4097 ∧ r.f ≤ 4096
def rightE : Int → List RunD → Prop
  | _, [] => True
  | e, r :: l => okR e r ∧ rightE (r.f + r.m) l
def endE : Int → List RunD → Int
  | e, [] => e
  | _, r :: l => endE (r.f + r.m) l
def expR (r : RunD) : List Int := (List.range r.m.toNat).map fun k : Nat => r.f + (k : Int)
def exp (l : List RunD) : List Int := l.flatMap expR
theorem exp_snoc (l : List RunD) (r : RunD) : exp (l ++ [r]) = exp l ++ expR r := by simp [exp]
theorem rightE_snoc (e : Int) (l : List RunD) (r : RunD) : rightE e (l ++ [r]) ↔ rightE e l ∧ okR (endE e l) r := by
  induction l generalizing e with
  | nil => simp [rightE, endE]
  | cons x l ih => simp only [List.cons_append, rightE, endE, ih, and_assoc]
theorem endE_snoc (e : Int) (l : List RunD) (r : RunD) : endE e (l ++ [r]) = r.f + r.m := by
  induction l generalizing e with
  | nil => rfl
  | cons x l ih => exact ih _
/-- A block more. -/
def addR (out : List RunD) (b : Int) : List RunD :=
  if inr b then (match out.getLast? with
    | some r => if r.f + r.m = b then out.dropLast ++ [⟨r.f, r.m + 1⟩] else out ++ [⟨b, 1⟩]
    | none => out ++ [⟨b, 1⟩]) else out
def rlN (D : List Int) : Nat → List RunD
  | 0 => []
  | k + 1 => (match D[k]? with
    | some b => addR (rlN D k) b
    | none => rlN D k)
def rl (D : List Int) : List RunD := rlN D D.length
theorem addR_out {out : List RunD} {b : Int} (h : inr b = false) : addR out b = out := by unfold addR; rw [h]; rfl
theorem addR_new {out : List RunD} {b : Int} (h : inr b = true) (h2 : ∀ r, out.getLast? = some r → r.f + r.m ≠ b) : addR out b = out ++ [⟨b, 1⟩] := by
  unfold addR
  rw [h, if_pos rfl]
  cases hl : out.getLast? with
  | none => rfl
  | some r => simp only; rw [if_neg (h2 r hl)]
theorem addR_more {out : List RunD} {r : RunD} {b : Int} (h : inr b = true) (h2 : r.f + r.m = b) : addR (out ++ [r]) b = out ++ [⟨r.f, r.m + 1⟩] := by
  unfold addR
  rw [h, if_pos rfl]
  simp [h2]
theorem rlN_len (D : List Int) (k : Nat) : (rlN D k).length ≤ k := by
  induction k with
  | zero => exact Nat.le_refl _
  | succ k ih =>
    rw [rlN]
    split
    · unfold addR
      split
      · split
        · split
          · simp; omega
          · simp; omega
        · simp; omega
      · omega
    · omega
theorem expR_more (r : RunD) (h : 0 ≤ r.m) : expR ⟨r.f, r.m + 1⟩ = expR r ++ [r.f + r.m] := by
  unfold expR
  simp only
  rw [show (r.m + 1).toNat = r.m.toNat + 1 by omega, List.range_succ, List.map_append]
  simp
  omega
/-- What runs are, of blocks so far. -/
structure RInv (P : List Int) (R : List RunD) : Prop where
  right : rightE (-1) R
  ex : exp R = P.filter inr
  last : ∀ r, R.getLast? = some r → ∃ x ∈ P, x + 1 = r.f + r.m
theorem RInv.nil : RInv [] [] := ⟨trivial, rfl, fun r h => by simp at h⟩
theorem RInv.add {P : List Int} {R : List RunD} {b : Int} (h : RInv P R) (hb : ∀ x ∈ P, x < b) : RInv (P ++ [b]) (addR R b) := by
  cases hr : inr b with
  | false =>
    rw [addR_out hr]
    refine ⟨h.right, ?_, fun r hl => ?_⟩
    · rw [List.filter_append, ← h.ex]; simp [hr]
    · obtain ⟨x, hx, e⟩ := h.last r hl
      exact ⟨x, List.mem_append_left _ hx, e⟩
  | true =>
    have hb2 : 0 ≤ b ∧ b ≤ 4096 := by simpa [inr] using hr
    have hf : (P ++ [b]).filter inr = exp R ++ [b] := by rw [List.filter_append, ← h.ex]; simp [hr]
    by_cases hl : ∃ r, R.getLast? = some r ∧ r.f + r.m = b
    · obtain ⟨r, hl, e⟩ := hl
      obtain ⟨R0, rfl⟩ : ∃ R0, R = R0 ++ [r] := by
        rcases List.eq_nil_or_concat R with rfl | ⟨R0, r', rfl⟩
        · simp at hl
        · rw [List.concat_eq_append] at hl ⊢
          simp at hl
          exact ⟨R0, by rw [hl]⟩
      rw [addR_more hr e]
      have hok := (rightE_snoc _ _ _).1 h.right
      refine ⟨(rightE_snoc _ _ _).2 ⟨hok.1, ?_⟩, ?_, fun r' hl' => ?_⟩
      · obtain ⟨h1, h2, h3, h4, h5⟩ := hok.2
        exact ⟨by show 1 ≤ r.m + 1; omega, h2, h3, by show r.m + 1 ≤ 4097; omega, h5⟩
      · rw [hf, exp_snoc, exp_snoc, expR_more r (by have := hok.2.1; omega), e, List.append_assoc]
      · simp at hl'
        subst hl'
        exact ⟨b, by simp, by show b + 1 = r.f + (r.m + 1); omega⟩
    · have hl2 : ∀ r, R.getLast? = some r → r.f + r.m ≠ b := fun r h1 h2 => hl ⟨r, h1, h2⟩
      rw [addR_new hr hl2]
      refine ⟨(rightE_snoc _ _ _).2 ⟨h.right, ?_⟩, ?_, fun r' hl' => ?_⟩
      · refine ⟨Int.le_refl _, ?_, hb2.1, by show (1 : Int) ≤ 4097; omega, hb2.2⟩
        show endE (-1) R < b
        rcases List.eq_nil_or_concat R with rfl | ⟨R0, r, rfl⟩
        · show (-1 : Int) < b; omega
        · rw [List.concat_eq_append] at *
          rw [endE_snoc]
          obtain ⟨x, hx, e⟩ := h.last r (by simp)
          have h1 := hb x hx
          have h2 := hl2 r (by simp)
          omega
      · rw [hf, exp_snoc]
        congr 1
        simp [expR]
      · simp at hl'
        subst hl'
        exact ⟨b, by simp, rfl⟩
theorem rlN_inv {D : List Int} (hr : ∀ (i j : Nat) (x y : Int), i < j → D[i]? = some x → D[j]? = some y → x < y) (k : Nat) (hk : k ≤ D.length) : RInv (D.take k) (rlN D k) := by
  induction k with
  | zero => simpa [rlN] using RInv.nil
  | succ k ih =>
    obtain ⟨b, hb⟩ : ∃ b, D[k]? = some b := ⟨_, List.getElem?_eq_getElem (by omega)⟩
    have e : D.take (k + 1) = D.take k ++ [b] := by
      rw [List.take_succ_eq_append_getElem (by omega)]
      rw [List.getElem?_eq_getElem (by omega)] at hb
      injection hb with hb
      rw [hb]
    rw [rlN, hb, e]
    refine (ih (by omega)).add fun x hx => ?_
    obtain ⟨i, hi⟩ := List.getElem?_of_mem hx
    rw [List.getElem?_take] at hi
    split at hi
    · exact hr i k x b (by assumption) hi hb
    · cases hi
theorem rl_inv {D : List Int} (hr : ∀ (i j : Nat) (x y : Int), i < j → D[i]? = some x → D[j]? = some y → x < y) : RInv D (rl D) := by
  have := rlN_inv hr D.length (Nat.le_refl _)
  rwa [List.take_length] at this
/-- Sorted. -/
def srt (L : List Int) : List Int := L.mergeSort fun x y => decide (x ≤ y)
theorem srt_of {L S : List Int} (hp : S.Perm L) (hs : Pq.SortedIn (fun x y : Int => x < y) 0 L.length S) : S = srt L := by
  have hl := hp.length_eq
  refine List.Perm.eq_of_pairwise (le := fun x y => decide (x ≤ y) = true) ?_ ?_ ?_ (hp.trans (List.mergeSort_perm _ _).symm)
  · intro a b _ _ h1 h2
    simp only [decide_eq_true_eq] at h1 h2
    omega
  · rw [List.pairwise_iff_getElem]
    intro i j hi hj hij
    have := hs i j _ _ (Nat.zero_le _) hij (by omega) (List.getElem?_eq_getElem hi) (List.getElem?_eq_getElem hj)
    simp only [decide_eq_true_eq]
    exact Int.not_lt.1 this
  · refine List.pairwise_mergeSort ?_ ?_ _
    · intro a b c h1 h2
      simp only [decide_eq_true_eq] at *
      omega
    · intro a b
      simp only [Bool.or_eq_true, decide_eq_true_eq]
      omega
theorem srt_len (L : List Int) : (srt L).length = L.length := (List.mergeSort_perm _ _).length_eq
theorem srt_rise (L : List Int) (i j : Nat) (x y : Int) (h : i ≤ j) (hx : (srt L)[i]? = some x) (hy : (srt L)[j]? = some y) : x ≤ y := by
  rcases Nat.eq_or_lt_of_le h with rfl | h
  · rw [hx] at hy; injection hy with hy; omega
  · have hp : (srt L).Pairwise fun x y => decide (x ≤ y) = true := by
      refine List.pairwise_mergeSort ?_ ?_ _
      · intro a b c h1 h2
        simp only [decide_eq_true_eq] at *
        omega
      · intro a b
        simp only [Bool.or_eq_true, decide_eq_true_eq]
        omega
    rw [List.pairwise_iff_getElem] at hp
    obtain ⟨hi, ex⟩ := List.getElem?_eq_some_iff.1 hx
    obtain ⟨hj, ey⟩ := List.getElem?_eq_some_iff.1 hy
    have := hp i j hi hj h
    rw [ex, ey] at this
    simpa using this
/-- Without twins it rises. -/
theorem ddN_rise {S : List Int} (hs : ∀ (i j : Nat) (x y : Int), i ≤ j → S[i]? = some x → S[j]? = some y → x ≤ y) (k : Nat) (hk : k ≤ S.length) : (ddN S k).Pairwise (fun x y => x < y) ∧ (∀ x ∈ ddN S k, k ≠ 0 ∧ ∀ y, S[k - 1]? = some y → x ≤ y) := by
  induction k with
  | zero => exact ⟨.nil, fun x h => by cases h⟩
  | succ k ih =>
    obtain ⟨b, hb⟩ : ∃ b, S[k]? = some b := ⟨_, List.getElem?_eq_getElem (by omega)⟩
    obtain ⟨h1, h2⟩ := ih (by omega)
    have h3 : ∀ x ∈ ddN S k, x ≤ b := fun x hx => by
      obtain ⟨h0, h4⟩ := h2 x hx
      obtain ⟨y, hy⟩ : ∃ y, S[k - 1]? = some y := ⟨_, List.getElem?_eq_getElem (by omega)⟩
      have := hs (k - 1) k y b (by omega) hy hb
      have := h4 y hy
      omega
    by_cases h : k ≠ 0 ∧ S[k - 1]? = some b
    · rw [ddN_skip hb h.1 h.2]
      exact ⟨h1, fun x hx => ⟨by omega, fun y hy => by rw [Nat.add_sub_cancel, hb] at hy; injection hy with hy; rw [← hy]; exact h3 x hx⟩⟩
    · rw [ddN_keep hb (by by_cases e : k = 0; exact .inl e; exact .inr fun h' => h ⟨e, h'⟩)]
      refine ⟨?_, fun x hx => ⟨by omega, fun y hy => ?_⟩⟩
      · rw [List.pairwise_append]
        refine ⟨h1, List.pairwise_singleton _ _, fun x hx y hy => ?_⟩
        obtain rfl := List.mem_singleton.1 hy
        obtain ⟨h0, h4⟩ := h2 x hx
        obtain ⟨z, hz⟩ : ∃ z, S[k - 1]? = some z := ⟨_, List.getElem?_eq_getElem (by omega)⟩
        have h5 := hs (k - 1) k z y (by omega) hz hb
        have h6 := h4 z hz
        have h7 : z ≠ y := fun e => h ⟨h0, by rw [hz, e]⟩
        omega
      · rw [Nat.add_sub_cancel, hb] at hy
        injection hy with hy
        subst hy
        rcases List.mem_append.1 hx with hx | hx
        · exact h3 x hx
        · obtain rfl := List.mem_singleton.1 hx; omega
/-- The runs of blocks. -/
def ofP (L : List Int) : List RunD := rl (dd (srt L))
theorem ofP_inv (L : List Int) : RInv (dd (srt L)) (ofP L) := rl_inv fun i j x y hij hx hy => by
  have h := (ddN_rise (srt_rise L) (srt L).length (Nat.le_refl _)).1
  rw [List.pairwise_iff_getElem] at h
  obtain ⟨hi, ex⟩ := List.getElem?_eq_some_iff.1 hx
  obtain ⟨hj, ey⟩ := List.getElem?_eq_some_iff.1 hy
  rw [← ex, ← ey]
  exact h i j hi hj hij
end Go.Proofs.Yteajefmnbalofaa.Ex

