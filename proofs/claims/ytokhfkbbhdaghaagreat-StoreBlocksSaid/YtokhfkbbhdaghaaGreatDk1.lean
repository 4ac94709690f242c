/- A disk, plain: what is sure, what is late; what is read. -/
import Derived.Test.YtokhfkbbhdaghaaGreatBytesLaw
namespace Go.Proofs.YtokhfkbbhdaghaaGreat.Dk
open Bytes
set_option linter.unusedVariables false
set_option linter.unusedSimpArgs false
set_option maxRecDepth 100000
abbrev Sec := List Int
abbrev Wr := Nat × Sec
/-- What was written last at a place, if it is late. -/
def lateOf (at' : Nat) : List Wr → Option Sec
  | [] => none
  | x :: W => match lateOf at' W with
    | some l => some l
    | none => if x.1 = at' then some x.2 else none
def dread (S : List Sec) (W : List Wr) (at' : Nat) : Sec := (lateOf at' W).getD (S[at']?.getD [])
theorem lateOf_snoc (at' : Nat) (W : List Wr) (x : Wr) : lateOf at' (W ++ [x]) = if x.1 = at' then some x.2 else lateOf at' W := by
  induction W with
  | nil =>
    show (match (none : Option Sec) with | some l => some l | none => if x.1 = at' then some x.2 else none) = _
    rfl
  | cons y W ih =>
    show (match lateOf at' (W ++ [x]) with | some l => some l | none => if y.1 = at' then some y.2 else none) = _
    rw [ih]
    by_cases h : x.1 = at'
    · rw [if_pos h, if_pos h]
    · rw [if_neg h, if_neg h]
      rfl
theorem dread_snoc (S : List Sec) (W : List Wr) (x : Wr) (at' : Nat) : dread S (W ++ [x]) at' = if x.1 = at' then x.2 else dread S W at' := by
  unfold dread
  rw [lateOf_snoc]
  by_cases h : x.1 = at'
  · rw [if_pos h, if_pos h]; rfl
  · rw [if_neg h, if_neg h]
/-- Late writes that may be are sure now. -/
def eachC (p : Nat → Bool) : Nat → List Wr → List Sec → List Sec
  | _, [], S => S
  | i, x :: W, S => eachC p (i + 1) W (if p i = true then S.set x.1 x.2 else S)
theorem eachC_snoc (p : Nat → Bool) : ∀ (W : List Wr) (i : Nat) (S : List Sec) (x : Wr), eachC p i (W ++ [x]) S = (if p (i + W.length) = true then (eachC p i W S).set x.1 x.2 else eachC p i W S)
  | [], i, S, x => rfl
  | y :: W, i, S, x => by
    show eachC p (i + 1) (W ++ [x]) _ = _
    rw [eachC_snoc p W (i + 1) _ x, show i + 1 + W.length = i + (y :: W).length by rw [List.length_cons]; omega]
    rfl
theorem eachC_len (p : Nat → Bool) : ∀ (W : List Wr) (i : Nat) (S : List Sec), (eachC p i W S).length = S.length
  | [], _, _ => rfl
  | x :: W, i, S => by
    show (eachC p (i + 1) W _).length = _
    rw [eachC_len p W]
    split
    · exact List.length_set
    · rfl
/-- All are sure: what is read is as it was. -/
theorem flush_read : ∀ (W : List Wr) (i : Nat) (S : List Sec) (at' : Nat), at' < S.length → (eachC (fun _ => true) i W S)[at']? = some (dread S W at')
  | [], i, S, at', h => by
    show S[at']? = some (S[at']?.getD [])
    rw [List.getElem?_eq_getElem h]
    rfl
  | x :: W, i, S, at', h => by
    show (eachC (fun _ => true) (i + 1) W (S.set x.1 x.2))[at']? = _
    rw [flush_read W (i + 1) (S.set x.1 x.2) at' (by rw [List.length_set]; exact h)]
    unfold dread
    show _ = some (((match lateOf at' W with | some l => some l | none => if x.1 = at' then some x.2 else none) : Option Sec).getD _)
    cases lateOf at' W with
    | some l => rfl
    | none =>
      by_cases hx : x.1 = at'
      · rw [if_pos hx, List.getElem?_set]
        rw [if_pos hx, if_pos (by omega)]
        rfl
      · rw [if_neg hx, List.getElem?_set, if_neg hx]
theorem flush_dread (W : List Wr) (S : List Sec) (at' : Nat) (h : at' < S.length) : dread (eachC (fun _ => true) 0 W S) [] at' = dread S W at' := by
  show ((eachC (fun _ => true) 0 W S)[at']?).getD [] = _
  rw [flush_read W 0 S at' h]
  rfl
/-- All sectors are as sectors are. -/
def SecOk (l : Sec) : Prop := l.length = 128 ∧ IsB l
theorem lateOf_mem {at' : Nat} : ∀ {W : List Wr} {l : Sec}, lateOf at' W = some l → ∃ x, x ∈ W ∧ x.1 = at' ∧ x.2 = l
  | [], l, h => by cases h
  | x :: W, l, h => by
    have h' : (match lateOf at' W with | some l => some l | none => if x.1 = at' then some x.2 else none) = some l := h
    cases hl : lateOf at' W with
    | some l2 =>
      rw [hl] at h'
      obtain rfl := Option.some.inj h'
      obtain ⟨y, h1, h2⟩ := lateOf_mem hl
      exact ⟨y, .tail _ h1, h2⟩
    | none =>
      rw [hl] at h'
      by_cases hx : x.1 = at'
      · have h2 : (if x.1 = at' then some x.2 else none) = some l := h'
        rw [if_pos hx] at h2
        exact ⟨x, .head _, hx, Option.some.inj h2⟩
      · have h2 : (if x.1 = at' then some x.2 else none) = some l := h'
        rw [if_neg hx] at h2
        cases h2
theorem dread_ok {S : List Sec} {W : List Wr} {at' : Nat} (hS : ∀ l ∈ S, SecOk l) (hW : ∀ x ∈ W, SecOk x.2) (h : at' < S.length) : SecOk (dread S W at') := by
  unfold dread
  cases hl : lateOf at' W with
  | some l =>
    obtain ⟨x, h1, _, h3⟩ := lateOf_mem hl
    show SecOk l
    rw [← h3]
    exact hW x h1
  | none =>
    show SecOk (S[at']?.getD [])
    rw [List.getElem?_eq_getElem h]
    exact hS _ (List.getElem_mem h)
end Go.Proofs.YtokhfkbbhdaghaaGreat.Dk
