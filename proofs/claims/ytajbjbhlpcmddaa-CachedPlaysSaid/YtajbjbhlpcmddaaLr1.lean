/- Pages by places, plain: which was asked for when. -/
import Derived.Test.YtajbjbhlpcmddaaGxW
namespace Go.Proofs.Ytajbjbhlpcmddaa.Dk
open Gx
set_option linter.unusedVariables false
set_option linter.unusedSimpArgs false
set_option maxRecDepth 100000
/-- A page: its bytes, and when it was asked for. -/
structure ItD where
  s : SlV
  L : List Int
  w : Nat
def itV (x : ItD) : Value := .agg #[.slice x.s.A x.s.n x.s.c, .int .u64 x.w]
abbrev Itm := Int × ItD
def vals (M : List Itm) : List (Int × Value) := M.map fun p => (p.1, itV p.2)
def getI (q : Int) : List Itm → Option ItD
  | [] => none
  | (a, x) :: r => if q = a then some x else getI q r
def setI (q : Int) (it : ItD) : List Itm → List Itm
  | [] => [(q, it)]
  | (a, x) :: r => if q = a then (a, it) :: r else (a, x) :: setI q it r
def delI (q : Int) : List Itm → List Itm
  | [] => []
  | (a, x) :: r => if q = a then r else (a, x) :: delI q r
def rmv (q : Int) (M : List Itm) : List Itm := M.filter fun p => decide (p.1 ≠ q)
theorem mg_vals (q : Int) : ∀ M : List Itm, mg q (vals M) = (getI q M).map itV
  | [] => rfl
  | (a, x) :: r => by
    show mg q ((a, itV x) :: vals r) = _
    rw [mg_cons, mg_vals q r]
    show _ = Option.map itV (if q = a then some x else getI q r)
    split <;> rfl
theorem ms_vals (q : Int) (it : ItD) : ∀ M : List Itm, msG q (itV it) (vals M) = vals (setI q it M)
  | [] => rfl
  | (a, x) :: r => by
    show (if q = a then (a, itV it) :: vals r else (a, itV x) :: msG q (itV it) (vals r)) = _
    unfold setI
    rw [ms_vals q it r]
    split <;> rfl
theorem md_vals (q : Int) : ∀ M : List Itm, mdG q (vals M) = vals (delI q M)
  | [] => rfl
  | (a, x) :: r => by
    have ih := md_vals q r
    unfold mdG at ih ⊢
    show (match (if q = a then some (0, itV x) else lkG q (vals r) 1) with | some (n, _) => ((a, itV x) :: vals r).eraseIdx n | none => (a, itV x) :: vals r) = _
    unfold delI
    by_cases h : q = a
    · rw [if_pos h, if_pos h]
      rfl
    · rw [if_neg h, if_neg h, lkG_shift q (vals r) 0]
      show _ = (a, itV x) :: vals (delI q r)
      rw [← ih]
      cases lkG q (vals r) 0 with
      | none => rfl
      | some p => rfl
theorem vals_len (M : List Itm) : (vals M).length = M.length := List.length_map ..
theorem getI_mem {q : Int} {x : ItD} : ∀ {M : List Itm}, getI q M = some x → (q, x) ∈ M
  | [], h => by cases h
  | (a, y) :: r, h => by
    unfold getI at h
    by_cases e : q = a
    · rw [if_pos e] at h
      obtain rfl := Option.some.inj h
      rw [e]
      exact .head _
    · rw [if_neg e] at h
      exact .tail _ (getI_mem h)
theorem getI_none {q : Int} : ∀ {M : List Itm}, getI q M = none → q ∉ M.map (·.1)
  | [], _ => by simp
  | (a, y) :: r, h => by
    unfold getI at h
    by_cases e : q = a
    · rw [if_pos e] at h
      cases h
    · rw [if_neg e] at h
      intro hm
      rcases List.mem_cons.1 hm with h1 | h1
      · exact e h1
      · exact getI_none h h1
theorem rmv_no {q : Int} : ∀ {M : List Itm}, q ∉ M.map (·.1) → rmv q M = M
  | [], _ => rfl
  | (a, y) :: r, h => by
    have h1 : a ≠ q := fun e => h (by rw [e]; exact .head _)
    unfold rmv
    rw [List.filter_cons, if_pos (by simpa using h1)]
    exact congrArg _ (rmv_no fun hm => h (.tail _ hm))
theorem rmv_cons_eq (q : Int) (x : ItD) (r : List Itm) : rmv q ((q, x) :: r) = rmv q r := by
  unfold rmv
  rw [List.filter_cons, if_neg (by simp)]
theorem rmv_cons_ne {q a : Int} (x : ItD) (r : List Itm) (h : q ≠ a) : rmv q ((a, x) :: r) = (a, x) :: rmv q r := by
  unfold rmv
  rw [List.filter_cons, if_pos (by simpa using fun e => h e.symm)]
theorem delI_eq (q : Int) : ∀ {M : List Itm}, (M.map (·.1)).Nodup → delI q M = rmv q M
  | [], _ => rfl
  | (a, y) :: r, h => by
    obtain ⟨h1, h2⟩ := List.nodup_cons.1 h
    unfold delI
    by_cases e : q = a
    · subst e
      rw [if_pos rfl, rmv_cons_eq, rmv_no h1]
    · rw [if_neg e, rmv_cons_ne y r e, delI_eq q h2]
theorem setI_perm (q : Int) (it : ItD) : ∀ {M : List Itm}, (M.map (·.1)).Nodup → (setI q it M).Perm (rmv q M ++ [(q, it)])
  | [], _ => .refl _
  | (a, y) :: r, h => by
    obtain ⟨h1, h2⟩ := List.nodup_cons.1 h
    unfold setI
    by_cases e : q = a
    · subst e
      rw [if_pos rfl, rmv_cons_eq, rmv_no h1]
      exact (List.perm_append_singleton _ _).symm
    · rw [if_neg e, rmv_cons_ne y r e]
      exact (setI_perm q it h2).cons _
theorem rmv_keys (q : Int) (M : List Itm) : (rmv q M).map (·.1) = (M.map (·.1)).filter fun a => decide (a ≠ q) := by
  induction M with
  | nil => rfl
  | cons p r ih =>
    obtain ⟨a, x⟩ := p
    by_cases e : q = a
    · subst e
      rw [rmv_cons_eq, ih, List.map_cons, List.filter_cons, if_neg (by simp)]
    · rw [rmv_cons_ne x r e, List.map_cons, List.map_cons, List.filter_cons, if_pos (by simpa using fun h => e h.symm), ih]
theorem mem_rmv {q : Int} {p : Itm} {M : List Itm} (h : p ∈ rmv q M) : p ∈ M ∧ p.1 ≠ q := by
  have := List.mem_filter.1 h
  exact ⟨this.1, by simpa using this.2⟩
/-- What is kept, the one that was asked for longest ago first. -/
structure LInv (M K : List Itm) (now : Nat) : Prop where
  perm : M.Perm K
  nod : (K.map (·.1)).Nodup
  asc : K.Pairwise fun a b => a.2.w < b.2.w
  le : ∀ p ∈ K, p.2.w ≤ now
theorem LInv.nodM {M K : List Itm} {now : Nat} (h : LInv M K now) : (M.map (·.1)).Nodup := (h.perm.map _).nodup_iff.2 h.nod
theorem LInv.empty (now : Nat) : LInv [] [] now := ⟨.refl _, List.nodup_nil, List.Pairwise.nil, fun p hp => by cases hp⟩
theorem LInv.rmv {M K : List Itm} {now : Nat} (h : LInv M K now) (q : Int) : LInv (rmv q M) (rmv q K) now := ⟨h.perm.filter _, by rw [rmv_keys]; exact h.nod.filter _, h.asc.filter _, fun p hp => h.le p (mem_rmv hp).1⟩
theorem LInv.del {M K : List Itm} {now : Nat} (h : LInv M K now) (q : Int) : LInv (delI q M) (Dk.rmv q K) now := by
  rw [delI_eq q h.nodM]
  exact h.rmv q
theorem LInv.set {M K : List Itm} {now : Nat} (h : LInv M K now) (q : Int) (it : ItD) (hw : it.w = now + 1) : LInv (setI q it M) (Dk.rmv q K ++ [(q, it)]) (now + 1) where
  perm := (setI_perm q it h.nodM).trans ((h.rmv q).perm.append_right _)
  nod := by
    rw [List.map_append, rmv_keys]
    refine List.nodup_append.2 ⟨h.nod.filter _, by simp, fun a ha b hb e => ?_⟩
    have h1 := List.mem_filter.1 ha
    have h2 : b = q := by simpa using hb
    have h3 : a ≠ q := by simpa using h1.2
    exact h3 (e.trans h2)
  asc := by
    refine List.pairwise_append.2 ⟨h.asc.filter _, List.pairwise_singleton _ _, fun a ha b hb => ?_⟩
    obtain rfl := List.mem_singleton.1 hb
    have := h.le a (mem_rmv ha).1
    show a.2.w < it.w
    omega
  le p hp := by
    rcases List.mem_append.1 hp with hp | hp
    · have := h.le p (mem_rmv hp).1
      omega
    · obtain rfl := List.mem_singleton.1 hp
      show it.w ≤ _
      omega
/-- The one that was asked for longest ago. -/
theorem LInv.old {M K : List Itm} {now : Nat} {k0 k : Int} {x0 x : ItD} (h : LInv M ((k0, x0) :: K) now) (hm : (k, x) ∈ M) (ho : ∀ p ∈ M, x.w ≤ p.2.w) : k = k0 ∧ x = x0 := by
  have h1 := ho _ (h.perm.mem_iff.2 (.head _))
  rcases List.mem_cons.1 (h.perm.mem_iff.1 hm) with e | e
  · exact Prod.mk.inj e
  · have h2 : x0.w < x.w := (List.pairwise_cons.1 h.asc).1 _ e
    have h1' : x.w ≤ x0.w := h1
    omega
theorem LInv.tail {M K : List Itm} {now : Nat} {k0 : Int} {x0 : ItD} (h : LInv M ((k0, x0) :: K) now) : Dk.rmv k0 ((k0, x0) :: K) = K := by
  rw [rmv_cons_eq]
  exact rmv_no (List.nodup_cons.1 h.nod).1
theorem LInv.get {M K : List Itm} {now : Nat} {q : Int} {x : ItD} (h : LInv M K now) (hg : getI q M = some x) : (q, x) ∈ K := h.perm.mem_iff.1 (getI_mem hg)
theorem LInv.getN {M K : List Itm} {now : Nat} {q : Int} (h : LInv M K now) (hg : getI q M = none) : q ∉ K.map (·.1) := fun hm => getI_none hg ((h.perm.map _).mem_iff.2 hm)
end Go.Proofs.Ytajbjbhlpcmddaa.Dk

