/- Sorting in place, plain: a part of a list is turned; insertion; what partitions leave. Sorting in place, plain: partitions; heaps at a place. Sorting by a heap, plain. Sorting in place, plain: what is left to do. A list without what stands twice in a row, plain. Runs of blocks, plain. refs.Table: Len, Sum, All. -/
import Derived.Test.YtaghmffgoomebaaGreatHp1
import Derived.Sort.LotA
import Derived.Sort.LotB
namespace Go.Proofs.YtaghmffgoomebaaGreat.Pq
open Hp
set_option linter.unusedVariables false
set_option linter.unusedSimpArgs false
section
variable {α : Type} {lt : α → α → Prop} {L L' L'' : List α} {a b i j k m n : Nat} {x y p : α}
/-- A part of a list. -/
def sg (a b : Nat) (L : List α) : List α := (L.drop a).take (b - a)
theorem mem_sg : x ∈ sg a b L ↔ ∃ i, a ≤ i ∧ i < b ∧ L[i]? = some x := by
  unfold sg
  constructor
  · intro h
    obtain ⟨j, hj⟩ := List.getElem?_of_mem h
    rw [List.getElem?_take] at hj
    by_cases h1 : j < b - a
    · rw [if_pos h1, List.getElem?_drop] at hj
      exact ⟨a + j, by omega, by omega, hj⟩
    · rw [if_neg h1] at hj
      cases hj
  · rintro ⟨i, h1, h2, h3⟩
    refine List.mem_of_getElem? (i := i - a) ?_
    rw [List.getElem?_take, if_pos (by omega), List.getElem?_drop, show a + (i - a) = i by omega]
    exact h3
/-- A part has been turned; the rest stands. -/
structure Seg (a b : Nat) (L L' : List α) : Prop where
  len : L'.length = L.length
  out : ∀ i, i < a ∨ b ≤ i → L'[i]? = L[i]?
  perm : L'.Perm L
theorem Seg.refl (a b : Nat) (L : List α) : Seg a b L L := ⟨rfl, fun _ _ => rfl, .refl _⟩
theorem Seg.trans (h : Seg a b L L') (g : Seg a b L' L'') : Seg a b L L'' := ⟨g.len.trans h.len, fun i hi => (g.out i hi).trans (h.out i hi), g.perm.trans h.perm⟩
theorem Seg.wide {c d : Nat} (h : Seg a b L L') (hc : c ≤ a) (hd : b ≤ d) : Seg c d L L' := ⟨h.len, fun i hi => h.out i (by omega), h.perm⟩
theorem Seg.swp (hi : a ≤ i) (hi2 : i < b) (hj : a ≤ j) (hj2 : j < b) (hx : L[i]? = some x) (hy : L[j]? = some y) : Seg a b L (swp L i j x y) := ⟨swp_len, fun k hk => by
  rw [swp_get (List.getElem?_eq_some_iff.1 hx).1 (List.getElem?_eq_some_iff.1 hy).1, if_neg (by omega), if_neg (by omega)], swp_perm hx hy⟩
theorem split3 (hab : a ≤ b) (L : List α) : L = L.take a ++ (sg a b L ++ L.drop b) := by
  unfold sg
  have h1 : L.drop a = (L.drop a).take (b - a) ++ (L.drop a).drop (b - a) := (List.take_append_drop _ _).symm
  rw [List.drop_drop, show a + (b - a) = b by omega] at h1
  rw [← h1, List.take_append_drop]
theorem Seg.mid (h : Seg a b L L') (hab : a ≤ b) : (sg a b L').Perm (sg a b L) := by
  have h1 := h.perm
  have e1 : L'.take a = L.take a := by
    apply List.ext_getElem?
    intro i
    rw [List.getElem?_take, List.getElem?_take]
    by_cases hi : i < a
    · rw [if_pos hi, if_pos hi, h.out i (.inl hi)]
    · rw [if_neg hi, if_neg hi]
  have e2 : L'.drop b = L.drop b := by
    apply List.ext_getElem?
    intro i
    rw [List.getElem?_drop, List.getElem?_drop, h.out (b + i) (.inr (by omega))]
  rw [split3 hab L', split3 hab L, e1, e2] at h1
  exact (List.perm_append_right_iff _).1 ((List.perm_append_left_iff _).1 h1)
/-- What all of a part are stays so. -/
theorem Seg.all {P : α → Prop} (h : Seg a b L L') (hab : a ≤ b) (hP : ∀ i x, a ≤ i → i < b → L[i]? = some x → P x) : ∀ i x, a ≤ i → i < b → L'[i]? = some x → P x := fun i x h1 h2 h3 => by
  have hm : x ∈ sg a b L' := mem_sg.2 ⟨i, h1, h2, h3⟩
  obtain ⟨k, k1, k2, k3⟩ := mem_sg.1 ((h.mid hab).mem_iff.1 hm)
  exact hP k x k1 k2 k3
/-- A part does not fall. -/
def SortedIn (lt : α → α → Prop) (a b : Nat) (L : List α) : Prop := ∀ i j x y, a ≤ i → i < j → j < b → L[i]? = some x → L[j]? = some y → ¬ lt y x
theorem SortedIn.out {c d : Nat} (h : SortedIn lt a b L) (g : Seg c d L L') (hd : b ≤ c ∨ d ≤ a) : SortedIn lt a b L' := fun i j x y h1 h2 h3 h4 h5 => by
  rw [g.out i (by omega)] at h4
  rw [g.out j (by omega)] at h5
  exact h i j x y h1 h2 h3 h4 h5
/-! ### insertion -/
/-- All are in order but for the one at a place, which may be too far behind. -/
def Ins (lt : α → α → Prop) (a m j : Nat) (L : List α) : Prop := ∀ i k x y, a ≤ i → i < k → k ≤ m → k ≠ j → L[i]? = some x → L[k]? = some y → ¬ lt y x
theorem Ins.start (h : SortedIn lt a m L) : Ins lt a m m L := fun i k x y h1 h2 h3 h4 => h i k x y h1 h2 (by omega)
theorem Ins.step (o : LtO lt) (h : Ins lt a m j L) (hj : a < j) (hm : j ≤ m) (hx : L[j]? = some x) (hy : L[j - 1]? = some y) (hl : lt x y) : Ins lt a m (j - 1) (Hp.swp L j (j - 1) x y) := fun i k u v i1 i2 i3 i4 i5 i6 => by
  have b1 := (List.getElem?_eq_some_iff.1 hx).1
  have b2 := (List.getElem?_eq_some_iff.1 hy).1
  rw [swp_get b1 b2] at i5 i6
  rw [if_neg i4] at i6
  by_cases ek : k = j
  · rw [if_pos ek] at i6
    obtain rfl := Option.some.inj i6
    by_cases ei : i = j - 1
    · rw [if_pos ei] at i5
      obtain rfl := Option.some.inj i5
      exact o.asym hl
    · rw [if_neg ei, if_neg (by omega)] at i5
      exact h i (j - 1) u y i1 (by omega) (by omega) (by omega) i5 hy
  · rw [if_neg ek] at i6
    by_cases ei : i = j - 1
    · rw [if_pos ei] at i5
      obtain rfl := Option.some.inj i5
      exact h j k x v (by omega) (by omega) i3 ek hx i6
    · rw [if_neg ei] at i5
      by_cases ej : i = j
      · rw [if_pos ej] at i5
        obtain rfl := Option.some.inj i5
        exact h (j - 1) k y v (by omega) (by omega) i3 ek hy i6
      · rw [if_neg ej] at i5
        exact h i k u v i1 i2 i3 ek i5 i6
theorem Ins.zero (h : Ins lt a m a L) : SortedIn lt a (m + 1) L := fun i k x y h1 h2 h3 h4 h5 => h i k x y h1 h2 (by omega) (by omega) h4 h5
theorem Ins.stop (o : LtO lt) (h : Ins lt a m j L) (hj : a < j) (hm : j ≤ m) (hx : L[j]? = some x) (hy : L[j - 1]? = some y) (hl : ¬ lt x y) : SortedIn lt a (m + 1) L := fun i k u v h1 h2 h3 h4 h5 => by
  by_cases ek : k = j
  · subst ek
    rw [hx] at h5
    obtain rfl := Option.some.inj h5
    by_cases ei : i = k - 1
    · subst ei
      rw [hy] at h4
      obtain rfl := Option.some.inj h4
      exact hl
    · exact o.ntr (h i (k - 1) u y h1 (by omega) (by omega) (by omega) h4 hy) hl
  · exact h i k u v h1 h2 (by omega) ek h4 h5
end
end Go.Proofs.YtaghmffgoomebaaGreat.Pq
namespace Go.Proofs.YtaghmffgoomebaaGreat.Pq
open Hp
set_option linter.unusedVariables false
set_option linter.unusedSimpArgs false
section
variable {α : Type} {lt : α → α → Prop} {L L' L'' : List α} {a b i j k m n : Nat} {x y p : α}
/-- While a part is parted by what lies at its beginning: those below ahead, the others behind. -/
structure PInv (lt : α → α → Prop) (a b : Nat) (p : α) (i j : Nat) (L : List α) : Prop where
  at' : L[a]? = some p
  lo : ∀ k x, a < k → k < i → L[k]? = some x → lt x p
  hi : ∀ k x, j < k → k < b → L[k]? = some x → ¬ lt x p
theorem PInv.start (h : L[a]? = some p) : PInv lt a b p (a + 1) (b - 1) L := ⟨h, fun k x h1 h2 => by omega, fun k x h1 h2 => by omega⟩
theorem PInv.left (h : PInv lt a b p i j L) (hx : L[i]? = some x) (hl : lt x p) : PInv lt a b p (i + 1) j L := ⟨h.at', fun k y h1 h2 h3 => by
  by_cases e : k = i
  · subst e
    rw [hx] at h3
    obtain rfl := Option.some.inj h3
    exact hl
  · exact h.lo k y h1 (by omega) h3, h.hi⟩
theorem PInv.right (h : PInv lt a b p i j L) (hj : 0 < j) (hy : L[j]? = some y) (hl : ¬ lt y p) : PInv lt a b p i (j - 1) L := ⟨h.at', h.lo, fun k z h1 h2 h3 => by
  by_cases e : k = j
  · subst e
    rw [hy] at h3
    obtain rfl := Option.some.inj h3
    exact hl
  · exact h.hi k z (by omega) h2 h3⟩
theorem PInv.swp (h : PInv lt a b p i j L) (hai : a < i) (hij : i < j) (hx : L[i]? = some x) (hy : L[j]? = some y) (hlx : ¬ lt x p) (hly : lt y p) : PInv lt a b p (i + 1) (j - 1) (Hp.swp L i j x y) := by
  have b1 := (List.getElem?_eq_some_iff.1 hx).1
  have b2 := (List.getElem?_eq_some_iff.1 hy).1
  refine ⟨by rw [swp_get b1 b2, if_neg (by omega), if_neg (by omega)]; exact h.at', fun k z h1 h2 h3 => ?_, fun k z h1 h2 h3 => ?_⟩
  · rw [swp_get b1 b2, if_neg (show ¬ k = j by omega)] at h3
    by_cases e : k = i
    · rw [if_pos e] at h3
      obtain rfl := Option.some.inj h3
      exact hly
    · rw [if_neg e] at h3
      exact h.lo k z h1 (by omega) h3
  · rw [swp_get b1 b2] at h3
    by_cases e : k = j
    · rw [if_pos e] at h3
      obtain rfl := Option.some.inj h3
      exact hlx
    · rw [if_neg e, if_neg (show ¬ k = i by omega)] at h3
      exact h.hi k z (by omega) h2 h3
/-- What a partition leaves. -/
structure Parted (lt : α → α → Prop) (a b m : Nat) (p : α) (L : List α) : Prop where
  at' : L[m]? = some p
  lo : ∀ k x, a ≤ k → k < m → L[k]? = some x → lt x p
  hi : ∀ k x, m < k → k < b → L[k]? = some x → ¬ lt x p
/-- The one at the beginning takes the last place of those below. -/
theorem PInv.done (h : PInv lt a b p i j L) (hj : j + 1 = i) (haj : a ≤ j) (hy : L[j]? = some y) : Parted lt a b j p (Hp.swp L j a y p) := by
  have b1 := (List.getElem?_eq_some_iff.1 hy).1
  have b2 := (List.getElem?_eq_some_iff.1 h.at').1
  refine ⟨?_, fun k z h1 h2 h3 => ?_, fun k z h1 h2 h3 => ?_⟩
  · rw [swp_get b1 b2]
    by_cases e : j = a
    · rw [if_pos e]
      subst e
      have := h.at'
      rw [hy] at this
      exact this
    · rw [if_neg e, if_pos rfl]
  · rw [swp_get b1 b2] at h3
    by_cases e : k = a
    · rw [if_pos e] at h3
      obtain rfl := Option.some.inj h3
      exact h.lo j y (by omega) (by omega) hy
    · rw [if_neg e, if_neg (by omega)] at h3
      exact h.lo k z (by omega) (by omega) h3
  · rw [swp_get b1 b2, if_neg (by omega), if_neg (by omega)] at h3
    exact h.hi k z (by omega) h2 h3
/-- While a part is parted by what lies at its beginning: those that are not above ahead, those above behind. -/
structure EInv (lt : α → α → Prop) (a b : Nat) (p : α) (i j : Nat) (L : List α) : Prop where
  at' : L[a]? = some p
  lo : ∀ k x, a < k → k < i → L[k]? = some x → ¬ lt p x
  hi : ∀ k x, j < k → k < b → L[k]? = some x → lt p x
theorem EInv.start (h : L[a]? = some p) : EInv lt a b p (a + 1) (b - 1) L := ⟨h, fun k x h1 h2 => by omega, fun k x h1 h2 => by omega⟩
theorem EInv.left (h : EInv lt a b p i j L) (hx : L[i]? = some x) (hl : ¬ lt p x) : EInv lt a b p (i + 1) j L := ⟨h.at', fun k y h1 h2 h3 => by
  by_cases e : k = i
  · subst e
    rw [hx] at h3
    obtain rfl := Option.some.inj h3
    exact hl
  · exact h.lo k y h1 (by omega) h3, h.hi⟩
theorem EInv.right (h : EInv lt a b p i j L) (hj : 0 < j) (hy : L[j]? = some y) (hl : lt p y) : EInv lt a b p i (j - 1) L := ⟨h.at', h.lo, fun k z h1 h2 h3 => by
  by_cases e : k = j
  · subst e
    rw [hy] at h3
    obtain rfl := Option.some.inj h3
    exact hl
  · exact h.hi k z (by omega) h2 h3⟩
theorem EInv.swp (h : EInv lt a b p i j L) (hai : a < i) (hij : i < j) (hx : L[i]? = some x) (hy : L[j]? = some y) (hlx : lt p x) (hly : ¬ lt p y) : EInv lt a b p (i + 1) (j - 1) (Hp.swp L i j x y) := by
  have b1 := (List.getElem?_eq_some_iff.1 hx).1
  have b2 := (List.getElem?_eq_some_iff.1 hy).1
  refine ⟨by rw [swp_get b1 b2, if_neg (by omega), if_neg (by omega)]; exact h.at', fun k z h1 h2 h3 => ?_, fun k z h1 h2 h3 => ?_⟩
  · rw [swp_get b1 b2, if_neg (show ¬ k = j by omega)] at h3
    by_cases e : k = i
    · rw [if_pos e] at h3
      obtain rfl := Option.some.inj h3
      exact hly
    · rw [if_neg e] at h3
      exact h.lo k z h1 (by omega) h3
  · rw [swp_get b1 b2] at h3
    by_cases e : k = j
    · rw [if_pos e] at h3
      obtain rfl := Option.some.inj h3
      exact hlx
    · rw [if_neg e, if_neg (show ¬ k = i by omega)] at h3
      exact h.hi k z (by omega) h2 h3
/-- Those equal to the least one lie ahead: sorted; the rest is above. -/
theorem EInv.done (o : LtO lt) (h : EInv lt a b p i j L) (hj : j + 1 = i) (hmin : ∀ k x, a ≤ k → k < b → L[k]? = some x → ¬ lt x p) (hib : i ≤ b) (hs : SortedIn lt i b L') (g : Seg i b L L') : SortedIn lt a b L' := fun u v x y h1 h2 h3 h4 h5 => by
  have hirr : ¬ lt p p := fun q => o.asym q q
  have lo : ∀ k z, a ≤ k → k < i → L'[k]? = some z → ¬ lt p z ∧ ¬ lt z p := fun k z k1 k2 k3 => by
    rw [g.out k (.inl k2)] at k3
    refine ⟨?_, hmin k z k1 (by omega) k3⟩
    by_cases e : k = a
    · subst e
      rw [h.at'] at k3
      obtain rfl := Option.some.inj k3
      exact hirr
    · exact h.lo k z (by omega) k2 k3
  by_cases hv : v < i
  · exact o.ntr (lo u x h1 (by omega) h4).1 (lo v y (by omega) hv h5).2
  · by_cases hu : i ≤ u
    · exact hs u v x y hu h2 h3 h4 h5
    · have hP := g.all hib (P := fun z => lt p z) (fun k z k1 k2 k3 => h.hi k z (by omega) k2 k3)
      exact o.ntr (lo u x h1 (by omega) h4).1 (o.asym (hP v y (by omega) h3 h5))
end
end Go.Proofs.YtaghmffgoomebaaGreat.Pq
namespace Go.Proofs.YtaghmffgoomebaaGreat.Pq
open Hp
set_option linter.unusedVariables false
set_option linter.unusedSimpArgs false
section
variable {α : Type} {lt : α → α → Prop} {L L' L'' M M' M'' : List α} {a b i j k m n : Nat} {x y p : α}
abbrev gtR (lt : α → α → Prop) : α → α → Prop := fun x y => lt y x
theorem LtO.gt (o : LtO lt) : LtO (gtR lt) := ⟨fun h g => o.asym h g, fun {x y z} h1 h2 h3 => o.ntr (x := z) (y := y) (z := x) h2 h1 h3⟩
/-- The greatest ones lie behind, in order; the others are a heap. -/
structure HS (lt : α → α → Prop) (M : List α) (n : Nat) : Prop where
  heap : HeapN (gtR lt) M n
  srt : SortedIn lt n M.length M
  far : ∀ i k x y, i < n → n ≤ k → M[i]? = some x → M[k]? = some y → ¬ lt y x
theorem HS.start (h : HeapN (gtR lt) M M.length) : HS lt M M.length := ⟨h, fun i j x y h1 h2 h3 => by omega, fun i k x y h1 h2 h3 h4 => by have := (List.getElem?_eq_some_iff.1 h4).1; omega⟩
theorem HS.done (h : HS lt M 0) : SortedIn lt 0 M.length M := h.srt
theorem HS.step (o : LtO lt) (h : HS lt M (n + 1)) (hn : n < M.length) (hx : M[0]? = some x) (hy : M[n]? = some y) (g : Seg 0 n (swp M 0 n x y) M'') (hh : HeapN (gtR lt) M'' n) : HS lt M'' n := by
  have b1 := (List.getElem?_eq_some_iff.1 hx).1
  have b2 := (List.getElem?_eq_some_iff.1 hy).1
  have hlen : M''.length = M.length := g.len.trans swp_len
  have hroot : ∀ k z, k < n + 1 → M[k]? = some z → ¬ lt x z := fun k z hk hz => h.heap.root (LtO.gt o) (by omega) hx k hk z hz
  have hat : M''[n]? = some x := by rw [g.out n (.inr (Nat.le_refl _)), swp_get b1 b2, if_pos rfl]
  have hbeh : ∀ k z, n < k → M''[k]? = some z → M[k]? = some z := fun k z hk hz => by
    rw [g.out k (.inr (by omega)), swp_get b1 b2, if_neg (by omega), if_neg (by omega)] at hz
    exact hz
  have hlow : ∀ k z, k < n → M''[k]? = some z → ∃ i, i < n + 1 ∧ M[i]? = some z := fun k z hk hz => by
    refine g.all (Nat.zero_le n) (P := fun z => ∃ i, i < n + 1 ∧ M[i]? = some z) (fun i w _ i2 hw => ?_) k z (Nat.zero_le _) hk hz
    rw [swp_get b1 b2, if_neg (by omega)] at hw
    by_cases e : i = 0
    · rw [if_pos e] at hw
      obtain rfl := Option.some.inj hw
      exact ⟨n, by omega, hy⟩
    · rw [if_neg e] at hw
      exact ⟨i, by omega, hw⟩
  refine ⟨hh, fun i j u v h1 h2 h3 h4 h5 => ?_, fun i k u v h1 h2 h3 h4 => ?_⟩
  · rw [hlen] at h3
    have h5' := hbeh j v (by omega) h5
    by_cases e : i = n
    · subst e
      rw [hat] at h4
      obtain rfl := Option.some.inj h4
      exact h.far 0 j x v (by omega) (by omega) hx h5'
    · exact h.srt i j u v (by omega) h2 h3 (hbeh i u (by omega) h4) h5'
  · obtain ⟨i0, i1, i2⟩ := hlow i u h1 h3
    by_cases e : k = n
    · subst e
      rw [hat] at h4
      obtain rfl := Option.some.inj h4
      exact hroot i0 u i1 i2
    · exact h.far i0 k u v i1 (by omega) i2 (hbeh k v (by omega) h4)
end
end Go.Proofs.YtaghmffgoomebaaGreat.Pq
namespace Go.Proofs.YtaghmffgoomebaaGreat.Pq
open Hp
set_option linter.unusedVariables false
set_option linter.unusedSimpArgs false
section
variable {α : Type} {lt : α → α → Prop} {L L1 L' L'' : List α} {a b c d i j k m n : Nat} {x y p : α}
/-- Whatever sorts a part now, sorts the whole. -/
def Rest (lt : α → α → Prop) (c d a b : Nat) (L : List α) : Prop := ∀ L', Seg a b L L' → SortedIn lt a b L' → SortedIn lt c d L'
theorem Rest.start : Rest lt a b a b L := fun _ _ h => h
theorem Rest.done (h : Rest lt c d a b L) (g : Seg a b L L') (hs : SortedIn lt a b L') : SortedIn lt c d L' := h L' g hs
theorem Rest.turn (h : Rest lt c d a b L) (g : Seg a b L L1) : Rest lt c d a b L1 := fun L' g' hs => h L' (g.trans g') hs
/-- What is parted keeps its sides. -/
theorem Parted.left (h : Parted lt a b m p L) (ham : a ≤ m) (g : Seg a m L L') : Parted lt a b m p L' := ⟨by rw [g.out m (.inr (Nat.le_refl _))]; exact h.at', g.all ham (P := fun z => lt z p) h.lo, fun k z h1 h2 h3 => by
  rw [g.out k (.inr (by omega))] at h3
  exact h.hi k z h1 h2 h3⟩
theorem Parted.right (h : Parted lt a b m p L) (hmb : m + 1 ≤ b) (g : Seg (m + 1) b L L') : Parted lt a b m p L' := ⟨by rw [g.out m (.inl (by omega))]; exact h.at', fun k z h1 h2 h3 => by
  rw [g.out k (.inl (by omega))] at h3
  exact h.lo k z h1 h2 h3, fun k z h1 h2 h3 => g.all hmb (P := fun z => ¬ lt z p) (fun k z h1 h2 h3 => h.hi k z (by omega) h2 h3) k z (by omega) h2 h3⟩
/-- What lies ahead of a part is not above it. -/
def Pre (lt : α → α → Prop) (a b : Nat) (L : List α) : Prop := ∀ z, 0 < a → L[a - 1]? = some z → ∀ k x, a ≤ k → k < b → L[k]? = some x → ¬ lt x z
theorem Pre.turn (h : Pre lt a b L) (hab : a ≤ b) (g : Seg a b L L') : Pre lt a b L' := fun z h0 hz k x h1 h2 h3 => by
  rw [g.out (a - 1) (.inl (by omega))] at hz
  exact g.all hab (P := fun x => ¬ lt x z) (fun k x k1 k2 k3 => h z h0 hz k x k1 k2 k3) k x h1 h2 h3
theorem Pre.left (h : Pre lt a b L) (hmb : m ≤ b) : Pre lt a m L := fun z h0 hz k x h1 h2 h3 => h z h0 hz k x h1 (by omega) h3
theorem Pre.right (hp : Parted lt a b m p L) : Pre lt (m + 1) b L := fun z h0 hz k x h1 h2 h3 => by
  rw [Nat.add_sub_cancel, hp.at'] at hz
  obtain rfl := Option.some.inj hz
  exact hp.hi k x (by omega) h2 h3
theorem Pre.zero : Pre lt 0 b L := fun z h0 => absurd h0 (Nat.lt_irrefl 0)
end
end Go.Proofs.YtaghmffgoomebaaGreat.Pq
namespace Go.Proofs.YtaghmffgoomebaaGreat.Dd
open Pq Hp
set_option linter.unusedVariables false
set_option linter.unusedSimpArgs false
section
variable {α : Type} [DecidableEq α] {L : List α} {k i j : Nat} {x y : α}
def ddN (L : List α) : Nat → List α
  | 0 => []
  | k + 1 => ddN L k ++ (match L[k]? with
    | some x => if k ≠ 0 ∧ L[k - 1]? = some x then [] else [x]
    | none => [])
def dd (L : List α) : List α := ddN L L.length
theorem ddN_keep (hx : L[k]? = some x) (h : k = 0 ∨ L[k - 1]? ≠ some x) : ddN L (k + 1) = ddN L k ++ [x] := by
  rw [ddN, hx]
  simp only
  rw [if_neg (by rintro ⟨h1, h2⟩; rcases h with h | h; exact h1 h; exact h h2)]
theorem ddN_skip (hx : L[k]? = some x) (hk : k ≠ 0) (h : L[k - 1]? = some x) : ddN L (k + 1) = ddN L k := by
  rw [ddN, hx]
  simp only
  rw [if_pos ⟨hk, h⟩, List.append_nil]
theorem mem_ddN : x ∈ ddN L k ↔ x ∈ L.take k := by
  induction k with
  | zero => simp [ddN]
  | succ k ih =>
    by_cases hk : k < L.length
    · obtain ⟨y, hy⟩ : ∃ y, L[k]? = some y := ⟨_, List.getElem?_eq_getElem hk⟩
      have e : L.take (k + 1) = L.take k ++ [y] := by
        rw [List.take_succ_eq_append_getElem hk]
        rw [List.getElem?_eq_getElem hk] at hy
        injection hy with hy
        rw [hy]
      by_cases h : k ≠ 0 ∧ L[k - 1]? = some y
      · rw [ddN_skip hy h.1 h.2, ih, e, List.mem_append]
        refine ⟨.inl, fun h' => h'.elim id fun h' => ?_⟩
        obtain rfl := List.mem_singleton.1 h'
        refine List.mem_of_getElem? (i := k - 1) ?_
        rw [List.getElem?_take, if_pos (by omega)]
        exact h.2
      · rw [ddN_keep hy (by by_cases e : k = 0; exact .inl e; exact .inr fun h' => h ⟨e, h'⟩), e, List.mem_append, List.mem_append, ih]
    · rw [ddN, List.getElem?_eq_none (by omega)]
      simp only [List.append_nil]
      rw [ih, List.take_of_length_le (by omega), List.take_of_length_le (by omega)]
theorem mem_dd : x ∈ dd L ↔ x ∈ L := by
  unfold dd
  rw [mem_ddN, List.take_length]
end
end Go.Proofs.YtaghmffgoomebaaGreat.Dd
namespace Go.Proofs.YtaghmffgoomebaaGreat.Ex
open Go.RowKit Mem Gx Dd
set_option linter.unusedVariables false
set_option linter.unusedSimpArgs false
/-- A run. -/
structure RunD where
  f : Int
  m : Int
instance : Inhabited RunD := ⟨⟨0, 0⟩⟩
def inr (b : Int) : Bool := decide (0 ≤ b ∧ b ≤ 4096)
def okR (e : Int) (r : RunD) : Prop := 1 ≤ r.m ∧ e < r.f ∧ 0 ≤ r.f ∧ r.m ≤ 4097 ∧ r.f ≤ 4096
def rightE : Int → List RunD → Prop
  | _, [] => True
  | e, r :: l => okR e r ∧ rightE (r.f + r.m) l
def endE : Int → List RunD → Int
  | e, [] => e
  | _, r :: l => endE (r.f + r.m) l
def expR (r : RunD) : List Int := (List.range r.m.toNat).map fun k : Nat => r.f + (k : Int)
def exp (l : List RunD) : List Int := l.flatMap expR
theorem exp_snoc (l : List RunD) (r : RunD) : exp (l ++ [r]) = exp l ++ expR r := by simp [exp]
theorem rightE_snoc (e : Int) (l : List RunD) (r : RunD) : rightE e (l ++ [r]) ↔ rightE e l ∧ okR (endE e l) r := by
  induction l generalizing e with
  | nil => simp [rightE, endE]
  | cons x l ih => simp only [List.cons_append, rightE, endE, ih, and_assoc]
theorem endE_snoc (e : Int) (l : List RunD) (r : RunD) : endE e (l ++ [r]) = r.f + r.m := by
  induction l generalizing e with
  | nil => rfl
  | cons x l ih => exact ih _
/-- A block more. -/
def addR (out : List RunD) (b : Int) : List RunD :=
  if inr b then (match out.getLast? with
    | some r => if r.f + r.m = b then out.dropLast ++ [⟨r.f, r.m + 1⟩] else out ++ [⟨b, 1⟩]
    | none => out ++ [⟨b, 1⟩]) else out
def rlN (D : List Int) : Nat → List RunD
  | 0 => []
  | k + 1 => (match D[k]? with
    | some b => addR (rlN D k) b
    | none => rlN D k)
def rl (D : List Int) : List RunD := rlN D D.length
theorem addR_out {out : List RunD} {b : Int} (h : inr b = false) : addR out b = out := by unfold addR; rw [h]; rfl
theorem addR_new {out : List RunD} {b : Int} (h : inr b = true) (h2 : ∀ r, out.getLast? = some r → r.f + r.m ≠ b) : addR out b = out ++ [⟨b, 1⟩] := by
  unfold addR
  rw [h, if_pos rfl]
  cases hl : out.getLast? with
  | none => rfl
  | some r => simp only; rw [if_neg (h2 r hl)]
theorem addR_more {out : List RunD} {r : RunD} {b : Int} (h : inr b = true) (h2 : r.f + r.m = b) : addR (out ++ [r]) b = out ++ [⟨r.f, r.m + 1⟩] := by
  unfold addR
  rw [h, if_pos rfl]
  simp [h2]
theorem expR_more (r : RunD) (h : 0 ≤ r.m) : expR ⟨r.f, r.m + 1⟩ = expR r ++ [r.f + r.m] := by
  unfold expR
  simp only
  rw [show (r.m + 1).toNat = r.m.toNat + 1 by omega, List.range_succ, List.map_append]
  simp
  omega
/-- What runs are, of blocks so far. -/
structure RInv (P : List Int) (R : List RunD) : Prop where
  right : rightE (-1) R
  ex : exp R = P.filter inr
  last : ∀ r, R.getLast? = some r → ∃ x ∈ P, x + 1 = r.f + r.m
theorem RInv.nil : RInv [] [] := ⟨trivial, rfl, fun r h => by simp at h⟩
theorem RInv.add {P : List Int} {R : List RunD} {b : Int} (h : RInv P R) (hb : ∀ x ∈ P, x < b) : RInv (P ++ [b]) (addR R b) := by
  cases hr : inr b with
  | false =>
    rw [addR_out hr]
    refine ⟨h.right, ?_, fun r hl => ?_⟩
    · rw [List.filter_append, ← h.ex]; simp [hr]
    · obtain ⟨x, hx, e⟩ := h.last r hl
      exact ⟨x, List.mem_append_left _ hx, e⟩
  | true =>
    have hb2 : 0 ≤ b ∧ b ≤ 4096 := by simpa [inr] using hr
    have hf : (P ++ [b]).filter inr = exp R ++ [b] := by rw [List.filter_append, ← h.ex]; simp [hr]
    by_cases hl : ∃ r, R.getLast? = some r ∧ r.f + r.m = b
    · obtain ⟨r, hl, e⟩ := hl
      obtain ⟨R0, rfl⟩ : ∃ R0, R = R0 ++ [r] := by
        rcases List.eq_nil_or_concat R with rfl | ⟨R0, r', rfl⟩
        · simp at hl
        · rw [List.concat_eq_append] at hl ⊢
          simp at hl
          exact ⟨R0, by rw [hl]⟩
      rw [addR_more hr e]
      have hok := (rightE_snoc _ _ _).1 h.right
      refine ⟨(rightE_snoc _ _ _).2 ⟨hok.1, ?_⟩, ?_, fun r' hl' => ?_⟩
      · obtain ⟨h1, h2, h3, h4, h5⟩ := hok.2
        exact ⟨by show 1 ≤ r.m + 1; omega, h2, h3, by show r.m + 1 ≤ 4097; omega, h5⟩
      · rw [hf, exp_snoc, exp_snoc, expR_more r (by have := hok.2.1; omega), e, List.append_assoc]
      · simp at hl'
        subst hl'
        exact ⟨b, by simp, by show b + 1 = r.f + (r.m + 1); omega⟩
    · have hl2 : ∀ r, R.getLast? = some r → r.f + r.m ≠ b := fun r h1 h2 => hl ⟨r, h1, h2⟩
      rw [addR_new hr hl2]
      refine ⟨(rightE_snoc _ _ _).2 ⟨h.right, ?_⟩, ?_, fun r' hl' => ?_⟩
      · refine ⟨Int.le_refl _, ?_, hb2.1, by show (1 : Int) ≤ 4097; omega, hb2.2⟩
        show endE (-1) R < b
        rcases List.eq_nil_or_concat R with rfl | ⟨R0, r, rfl⟩
        · show (-1 : Int) < b; omega
        · rw [List.concat_eq_append] at *
          rw [endE_snoc]
          obtain ⟨x, hx, e⟩ := h.last r (by simp)
          have h1 := hb x hx
          have h2 := hl2 r (by simp)
          omega
      · rw [hf, exp_snoc]
        congr 1
        simp [expR]
      · simp at hl'
        subst hl'
        exact ⟨b, by simp, rfl⟩
/-- Sorted. -/
def srt (L : List Int) : List Int := L.mergeSort fun x y => decide (x ≤ y)
theorem srt_rise (L : List Int) (i j : Nat) (x y : Int) (h : i ≤ j) (hx : (srt L)[i]? = some x) (hy : (srt L)[j]? = some y) : x ≤ y := by
  rcases Nat.eq_or_lt_of_le h with rfl | h
  · rw [hx] at hy; injection hy with hy; omega
  · have hp : (srt L).Pairwise fun x y => decide (x ≤ y) = true := by
      refine List.pairwise_mergeSort ?_ ?_ _
      · intro a b c h1 h2
        simp only [decide_eq_true_eq] at *
        omega
      · intro a b
        simp only [Bool.or_eq_true, decide_eq_true_eq]
        omega
    rw [List.pairwise_iff_getElem] at hp
    obtain ⟨hi, ex⟩ := List.getElem?_eq_some_iff.1 hx
    obtain ⟨hj, ey⟩ := List.getElem?_eq_some_iff.1 hy
    have := hp i j hi hj h
    rw [ex, ey] at this
    simpa using this
/-- Without twins it rises. -/
theorem ddN_rise {S : List Int} (hs : ∀ (i j : Nat) (x y : Int), i ≤ j → S[i]? = some x → S[j]? = some y → x ≤ y) (k : Nat) (hk : k ≤ S.length) : (ddN S k).Pairwise (fun x y => x < y) ∧ (∀ x ∈ ddN S k, k ≠ 0 ∧ ∀ y, S[k - 1]? = some y → x ≤ y) := by
  induction k with
  | zero => exact ⟨.nil, fun x h => by cases h⟩
  | succ k ih =>
    obtain ⟨b, hb⟩ : ∃ b, S[k]? = some b := ⟨_, List.getElem?_eq_getElem (by omega)⟩
    obtain ⟨h1, h2⟩ := ih (by omega)
    have h3 : ∀ x ∈ ddN S k, x ≤ b := fun x hx => by
      obtain ⟨h0, h4⟩ := h2 x hx
      obtain ⟨y, hy⟩ : ∃ y, S[k - 1]? = some y := ⟨_, List.getElem?_eq_getElem (by omega)⟩
      have := hs (k - 1) k y b (by omega) hy hb
      have := h4 y hy
      omega
    by_cases h : k ≠ 0 ∧ S[k - 1]? = some b
    · rw [ddN_skip hb h.1 h.2]
      exact ⟨h1, fun x hx => ⟨by omega, fun y hy => by rw [Nat.add_sub_cancel, hb] at hy; injection hy with hy; rw [← hy]; exact h3 x hx⟩⟩
    · rw [ddN_keep hb (by by_cases e : k = 0; exact .inl e; exact .inr fun h' => h ⟨e, h'⟩)]
      refine ⟨?_, fun x hx => ⟨by omega, fun y hy => ?_⟩⟩
      · rw [List.pairwise_append]
        refine ⟨h1, List.pairwise_singleton _ _, fun x hx y hy => ?_⟩
        obtain rfl := List.mem_singleton.1 hy
        obtain ⟨h0, h4⟩ := h2 x hx
        obtain ⟨z, hz⟩ : ∃ z, S[k - 1]? = some z := ⟨_, List.getElem?_eq_getElem (by omega)⟩
        have h5 := hs (k - 1) k z y (by omega) hz hb
        have h6 := h4 z hz
        have h7 : z ≠ y := fun e => h ⟨h0, by rw [hz, e]⟩
        omega
      · rw [Nat.add_sub_cancel, hb] at hy
        injection hy with hy
        subst hy
        rcases List.mem_append.1 hx with hx | hx
        · exact h3 x hx
        · obtain rfl := List.mem_singleton.1 hx; omega
end Go.Proofs.YtaghmffgoomebaaGreat.Ex
namespace Go.Proofs.YtaghmffgoomebaaGreat.Rf
open Go.RowKit Mem Gx KyU Dd
set_option linter.unusedVariables false
set_option linter.unusedSimpArgs false
set_option maxRecDepth 100000
set_option maxHeartbeats 1000000
/-- The blocks of a row, rising, each once. -/
def setP (l : List Int) : List Int := dd (Ex.srt l)
theorem setP_rise (l : List Int) : (setP l).Pairwise (fun x y => x < y) := (Ex.ddN_rise (Ex.srt_rise l) (Ex.srt l).length (Nat.le_refl _)).1
theorem mem_setP {l : List Int} {x : Int} : x ∈ setP l ↔ x ∈ l := by
  unfold setP
  rw [mem_dd]
  exact (List.mergeSort_perm _ _).mem_iff
theorem nodup_of_rise {l : List Int} (h : l.Pairwise (fun x y => x < y)) : l.Nodup := h.imp fun h => by omega
theorem RfI.keys {T : TabS} {l : List Int} (h : RfI T l) : (T.M.map (·.1)).Perm (setP l) := (List.perm_ext_iff_of_nodup h.map.nodup (nodup_of_rise (setP_rise l))).2 fun k => by
  rw [mem_setP]
  have h1 := h.map.get k
  have h2 := @mg_mem _ _ k T.M
  rw [h1] at h2
  unfold cntV at h2
  by_cases hk : l.count k = 0
  · rw [if_pos hk] at h2
    exact ⟨fun hm => absurd hm (h2.1 rfl), fun hm => absurd (List.count_pos_iff.2 hm) (by omega)⟩
  · rw [if_neg hk] at h2
    refine ⟨fun _ => List.count_pos_iff.1 (by omega), fun _ => Classical.byContradiction fun hn => ?_⟩
    have := h2.2 hn
    cases this
end Go.Proofs.YtaghmffgoomebaaGreat.Rf
