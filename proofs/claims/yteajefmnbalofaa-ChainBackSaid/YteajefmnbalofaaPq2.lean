/- Sorting in place, plain: partitions; heaps at a place. -/
import Derived.Test.YteajefmnbalofaaPq1
namespace Go.Proofs.Yteajefmnbalofaa.Pq
open Hp
set_option linter.unusedVariables false
set_option linter.unusedSimpArgs false
section
variable {α : Type} {lt : α → α → Prop} {L L' L'' : List α} {a b i j k m n : Nat} {x y p : α}
/-- While a part is parted by what lies at its beginning: those below ahead, the others behind. -/
structure PInv (lt : α → α → Prop) (a b : Nat) (p : α) (i j : Nat) (L : List α) : Prop where
  at' : L[a]? = some p
  lo : ∀ k x, a < k → k < i → L[k]? = some x → lt x p
  hi : ∀ k x, j < k → k < b → L[k]? = some x → ¬ lt x p
theorem PInv.start (h : L[a]? = some p) : PInv lt a b p (a + 1) (b - 1) L := ⟨h, fun k x h1 h2 => by omega, fun k x h1 h2 => by omega⟩
theorem PInv.left (h : PInv lt a b p i j L) (hx : L[i]? = some x) (hl : lt x p) : PInv lt a b p (i + 1) j L := ⟨h.at', fun k y h1 h2 h3 => by
  by_cases e : k = i
  · subst e
    rw [hx] at h3
    obtain rfl := Option.some.inj h3
    exact hl
  · exact h.lo k y h1 (by omega) h3, h.hi⟩
theorem PInv.right (h : PInv lt a b p i j L) (hj : 0 < j) (hy : L[j]? = some y) (hl : ¬ lt y p) : PInv lt a b p i (j - 1) L := ⟨h.at', h.lo, fun k z h1 h2 h3 => by
  by_cases e : k = j
  · subst e
    rw [hy] at h3
    obtain rfl := Option.some.inj h3
    exact hl
  · exact h.hi k z (by omega) h2 h3⟩
theorem PInv.swp (h : PInv lt a b p i j L) (hai : a < i) (hij : i < j) (hx : L[i]? = some x) (hy : L[j]? = some y) (hlx : ¬ lt x p) (hly : lt y p) : PInv lt a b p (i + 1) (j - 1) (Hp.swp L i j x y) := by
  have b1 := (List.getElem?_eq_some_iff.1 hx).1
  have b2 := (List.getElem?_eq_some_iff.1 hy).1
  refine ⟨by rw [swp_get b1 b2, if_neg (by omega), if_neg (by omega)]; exact h.at', fun k z h1 h2 h3 => ?_, fun k z h1 h2 h3 => ?_⟩
  · rw [swp_get b1 b2, if_neg (show ¬ k = j by omega)] at h3
    by_cases e : k = i
    · rw [if_pos e] at h3
      obtain rfl := Option.some.inj h3
      exact hly
    · rw [if_neg e] at h3
      exact h.lo k z h1 (by omega) h3
  · rw [swp_get b1 b2] at h3
    by_cases e : k = j
    · rw [if_pos e] at h3
      obtain rfl := Option.some.inj h3
      exact hlx
    · rw [if_neg e, if_neg (show ¬ k = i by omega)] at h3
      exact h.hi k z (by omega) h2 h3
/-- What a partition leaves. -/
structure Parted (lt : α → α → Prop) (a b m : Nat) (p : α) (L : List α) : Prop where
  at' : L[m]? = some p
  lo : ∀ k x, a ≤ k → k < m → L[k]? = some x → lt x p
  hi : ∀ k x, m < k → k < b → L[k]? = some x → ¬ lt x p
/-- The one at the beginning takes the last place of those below. -/
theorem PInv.done (h : PInv lt a b p i j L) (hj : j + 1 = i) (haj : a ≤ j) (hy : L[j]? = some y) : Parted lt a b j p (Hp.swp L j a y p) := by
  have b1 := (List.getElem?_eq_some_iff.1 hy).1
  have b2 := (List.getElem?_eq_some_iff.1 h.at').1
  refine ⟨?_, fun k z h1 h2 h3 => ?_, fun k z h1 h2 h3 => ?_⟩
  · rw [swp_get b1 b2]
    by_cases e : j = a
    · rw [if_pos e]
      subst e
      have := h.at'
      rw [hy] at this
      exact this
    · rw [if_neg e, if_pos rfl]
  · rw [swp_get b1 b2] at h3
    by_cases e : k = a
    · rw [if_pos e] at h3
      obtain rfl := Option.some.inj h3
      exact h.lo j y (by omega) (by omega) hy
    · rw [if_neg e, if_neg (by omega)] at h3
      exact h.lo k z (by omega) (by omega) h3
  · rw [swp_get b1 b2, if_neg (by omega), if_neg (by omega)] at h3
    exact h.hi k z (by omega) h2 h3
/-- While a part is parted by what lies at its beginning: those that are not above ahead, those above behind. -/
structure EInv (lt : α → α → Prop) (a b : Nat) (p : α) (i j : Nat) (L : List α) : Prop where
  at' : L[a]? = some p
  lo : ∀ k x, a < k → k < i → L[k]? = some x → ¬ lt p x
  hi : ∀ k x, j < k → k < b → L[k]? = some x → lt p x
theorem EInv.start (h : L[a]? = some p) : EInv lt a b p (a + 1) (b - 1) L := ⟨h, fun k x h1 h2 => by omega, fun k x h1 h2 => by omega⟩
theorem EInv.left (h : EInv lt a b p i j L) (hx : L[i]? = some x) (hl : ¬ lt p x) : EInv lt a b p (i + 1) j L := ⟨h.at', fun k y h1 h2 h3 => by
  by_cases e : k = i
  · subst e
    rw [hx] at h3
    obtain rfl := Option.some.inj h3
    exact hl
  · exact h.lo k y h1 (by omega) h3, h.hi⟩
theorem EInv.right (h : EInv lt a b p i j L) (hj : 0 < j) (hy : L[j]? = some y) (hl : lt p y) : EInv lt a b p i (j - 1) L := ⟨h.at', h.lo, fun k z h1 h2 h3 => by
  by_cases e : k = j
  · subst e
    rw [hy] at h3
    obtain rfl := Option.some.inj h3
    exact hl
  · exact h.hi k z (by omega) h2 h3⟩
theorem EInv.swp (h : EInv lt a b p i j L) (hai : a < i) (hij : i < j) (hx : L[i]? = some x) (hy : L[j]? = some y) (hlx : lt p x) (hly : ¬ lt p y) : EInv lt a b p (i + 1) (j - 1) (Hp.swp L i j x y) := by
  have b1 := (List.getElem?_eq_some_iff.1 hx).1
  have b2 := (List.getElem?_eq_some_iff.1 hy).1
  refine ⟨by rw [swp_get b1 b2, if_neg (by omega), if_neg (by omega)]; exact h.at', fun k z h1 h2 h3 => ?_, fun k z h1 h2 h3 => ?_⟩
  · rw [swp_get b1 b2, if_neg (show ¬ k = j by omega)] at h3
    by_cases e : k = i
    · rw [if_pos e] at h3
      obtain rfl := Option.some.inj h3
      exact hly
    · rw [if_neg e] at h3
      exact h.lo k z h1 (by omega) h3
  · rw [swp_get b1 b2] at h3
    by_cases e : k = j
    · rw [if_pos e] at h3
      obtain rfl := Option.some.inj h3
      exact hlx
    · rw [if_neg e, if_neg (show ¬ k = i by omega)] at h3
      exact h.hi k z (by omega) h2 h3
/-- Those equal to the least one lie ahead: sorted; the rest is above. -/
theorem EInv.done (o : LtO lt) (h : EInv lt a b p i j L) (hj : j + 1 = i) (hmin : ∀ k x, a ≤ k → k < b → L[k]? = some x → ¬ lt x p) (hib : i ≤ b) (hs : SortedIn lt i b L') (g : Seg i b L L') : SortedIn lt a b L' := fun u v x y h1 h2 h3 h4 h5 => by
  have hirr : ¬ lt p p := fun q => o.asym q q
  have lo : ∀ k z, a ≤ k → k < i → L'[k]? = some z → ¬ lt p z ∧ ¬ lt z p := fun k z k1 k2 k3 => by
    rw [g.out k (.inl k2)] at k3
    refine ⟨?_, hmin k z k1 (by omega) k3⟩
    by_cases e : k = a
    · subst e
      rw [h.at'] at k3
      obtain rfl := Option.some.inj k3
      exact hirr
    · exact h.lo k z (by omega) k2 k3
  by_cases hv : v < i
  · exact o.ntr (lo u x h1 (by omega) h4).1 (lo v y (by omega) hv h5).2
  · by_cases hu : i ≤ u
    · exact hs u v x y hu h2 h3 h4 h5
    · have hP := g.all hib (P := fun z => lt p z) (fun k z k1 k2 k3 => h.hi k z (by omega) k2 k3)
      exact o.ntr (lo u x h1 (by omega) h4).1 (o.asym (hP v y (by omega) h3 h5))
end
end Go.Proofs.Yteajefmnbalofaa.Pq

