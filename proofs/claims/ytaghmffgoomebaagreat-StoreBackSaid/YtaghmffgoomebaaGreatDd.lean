/- Heaps as lists: what a step up or down leaves. Sorting in place, plain: a part of a list is turned; insertion; what partitions leave. Sorting in place, plain: partitions; heaps at a place. Sorting by a heap, plain. Sorting in place, plain: what is left to do. A list without what stands twice in a row, plain. -/
import Derived.Test.YtaghmffgoomebaaGreatGxQ
import Derived.Sort.LotA
import Derived.Sort.LotB
set_option linter.unusedVariables false
set_option linter.unusedSimpArgs false
namespace Go.Proofs.YtaghmffgoomebaaGreat.Hp
structure LtO {α : Type} (lt : α → α → Prop) : Prop where
 asym : ∀ {x y}, lt x y → ¬ lt y x
 ntr : ∀ {x y z}, ¬ lt y x → ¬ lt z y → ¬ lt z x
section
variable {α : Type} {lt : α → α → Prop} {L : List α} {n i j k : Nat} {x y : α}
def Edge (lt : α → α → Prop) (L : List α) (k : Nat) : Prop := ∀ x p, L[k]? = some x → L[(k - 1) / 2]? = some p → ¬ lt x p
def HeapN (lt : α → α → Prop) (L : List α) (n : Nat) : Prop := ∀ k, 0 < k → k < n → Edge lt L k
def swp (L : List α) (i j : Nat) (x y : α) : List α := (L.set i y).set j x
theorem zhG : (swp L i j x y).length = L.length := by simp [swp]
theorem swp_get (hi : i < L.length) (hj : j < L.length) : (swp L i j x y)[k]? = if k = j then some x else if k = i then some y else L[k]? := by
 unfold swp
 by_cases h1 : k = j
 ·subst h1
  simp [hj]
 ·rw [if_neg h1, List.getElem?_set_ne (fun h => h1 h.symm)]
  by_cases h2 : k = i
  ·subst h2
   simp [hi]
  ·rw [if_neg h2, List.getElem?_set_ne (fun h => h2 h.symm)]
theorem zcT (hx : L[i]? = some x) (hy : L[j]? = some y) : (swp L i j x y).Perm L := by
 obtain ⟨hi, ex⟩ := List.getElem?_eq_some_iff.1 hx
 obtain ⟨hj, ey⟩ := List.getElem?_eq_some_iff.1 hy
 have h := Array.swap_perm (xs := L.toArray) (i := i) (j := j) (h₁ := by simpa using hi) (h₂ := by simpa using hj)
 have h2 := h.toList
 have e : (L.toArray.swap i j (by simpa using hi) (by simpa using hj)).toList = swp L i j x y := by
  unfold swp
  simp [ex, ey]
 rw [e] at h2
 simpa using h2
theorem zfQ (hi : i < L.length) (hj : j < L.length) (hin : i < n) (hjn : j < n) (hk : n ≤ k) : (swp L i j x y)[k]? = L[k]? := by
 rw [swp_get hi hj, if_neg (by omega), if_neg (by omega)]
structure UInv (lt : α → α → Prop) (L : List α) (n j : Nat) : Prop where
 e : ∀ k, 0 < k → k < n → k ≠ j → Edge lt L k
 g : 0 < j → ∀ k, 0 < k → k < n → (k - 1) / 2 = j → ∀ x p, L[k]? = some x → L[(j - 1) / 2]? = some p → ¬ lt x p
theorem UInv.zero (h : UInv lt L n 0) : HeapN lt L n := fun k h0 hk => h.e k h0 hk (by omega)
theorem UInv.stop (h : UInv lt L n j) (hx : L[j]? = some x) (hp : L[(j - 1) / 2]? = some y) (hl : ¬ lt x y) : HeapN lt L n := fun k h0 hk => by
 by_cases e : k = j
 ·subst e
  intro a b ha hb
  rw [hx] at ha
  rw [hp] at hb
  obtain rfl := Option.some.inj ha
  obtain rfl := Option.some.inj hb
  exact hl
 ·exact h.e k h0 hk e
theorem UInv.step (o : LtO lt) (h : UInv lt L n j) (hj0 : 0 < j) (hjn : j < n) (hn : n ≤ L.length) (hx : L[j]? = some x) (hp : L[(j - 1) / 2]? = some y) (hl : lt x y) : UInv lt (swp L ((j - 1) / 2) j y x) n ((j - 1) / 2) := by
 obtain ⟨i, hi⟩ : ∃ i, i = (j - 1) / 2 := ⟨_, rfl⟩
 rw [← hi] at hp ⊢
 have hjL : j < L.length := by omega
 have hiL : i < L.length := by omega
 have hij : i < j := by omega
 have G : ∀ k, (swp L i j y x)[k]? = if k = j then some y else if k = i then some x else L[k]? := fun k => swp_get hiL hjL
 refine ⟨fun k h0 hk hne a b ha hb => ?_, fun hi0 k h0 hk hki a b ha hb => ?_⟩
 ·rw [G] at ha hb
  by_cases e1 : k = j
  ·subst e1
   rw [if_pos rfl] at ha
   rw [← hi, if_neg (by omega), if_pos rfl] at hb
   obtain rfl := Option.some.inj ha
   obtain rfl := Option.some.inj hb
   exact o.asym hl
  ·rw [if_neg e1, if_neg hne] at ha
   by_cases e2 : (k - 1) / 2 = i
   ·rw [if_neg (by omega), if_pos e2] at hb
    obtain rfl := Option.some.inj hb
    have h1 := h.e k h0 hk e1 a y ha (by rw [e2]; exact hp)
    exact o.ntr (o.asym hl) h1
   ·by_cases e3 : (k - 1) / 2 = j
    ·rw [if_pos e3] at hb
     obtain rfl := Option.some.inj hb
     exact h.g hj0 k h0 hk e3 a y ha (by rw [← hi]; exact hp)
    ·rw [if_neg e3, if_neg e2] at hb
     exact h.e k h0 hk e1 a b ha hb
 ·rw [G] at ha hb
  rw [if_neg (by omega), if_neg (by omega)] at hb
  have h1 : ¬ lt y b := h.e i hi0 (by omega) (by omega) y b hp hb
  by_cases e1 : k = j
  ·subst e1
   rw [if_pos rfl] at ha
   obtain rfl := Option.some.inj ha
   exact h1
  ·rw [if_neg e1, if_neg (by omega)] at ha
   exact o.ntr h1 (h.e k h0 hk e1 a y ha (by rw [hki]; exact hp))
structure DInv (lt : α → α → Prop) (L : List α) (n i : Nat) (mv : Prop) : Prop where
 e : ∀ k, 0 < k → k < n → (k - 1) / 2 ≠ i → (k ≠ i ∨ mv) → Edge lt L k
 g : 0 < i → ∀ k, 0 < k → k < n → (k - 1) / 2 = i → ∀ x p, L[k]? = some x → L[(i - 1) / 2]? = some p → ¬ lt x p
structure MinC (lt : α → α → Prop) (L : List α) (n i j : Nat) (y : α) : Prop where
 par : (j - 1) / 2 = i
 pos : 0 < j
 jn : j < n
 at_ : L[j]? = some y
 least : ∀ k, 0 < k → k < n → (k - 1) / 2 = i → ∀ z, L[k]? = some z → ¬ lt z y
theorem DInv.step {mv : Prop} (o : LtO lt) (h : DInv lt L n i mv) (hn : n ≤ L.length) (hx : L[i]? = some x) (hm : MinC lt L n i j y) (hl : lt y x) : DInv lt (swp L i j x y) n j True := by
 obtain ⟨hpar, hpos, hjn, hy, hle⟩ := hm
 have hjL : j < L.length := by omega
 have hiL : i < L.length := by omega
 have hij : i < j := by omega
 have G : ∀ k, (swp L i j x y)[k]? = if k = j then some x else if k = i then some y else L[k]? := fun k => swp_get hiL hjL
 refine ⟨fun k h0 hk hpk _ a b ha hb => ?_, fun _ k h0 hk hkj a b ha hb => ?_⟩
 ·rw [G] at ha hb
  rw [if_neg hpk] at hb
  by_cases e1 : k = j
  ·subst e1
   rw [if_pos rfl] at ha
   rw [if_pos hpar] at hb
   obtain rfl := Option.some.inj ha
   obtain rfl := Option.some.inj hb
   exact o.asym hl
  ·rw [if_neg e1] at ha
   by_cases e2 : k = i
   ·subst e2
    rw [if_pos rfl] at ha
    rw [if_neg (by omega)] at hb
    obtain rfl := Option.some.inj ha
    exact h.g h0 j hpos hjn hpar y b hy hb
   ·rw [if_neg e2] at ha
    by_cases e3 : (k - 1) / 2 = i
    ·rw [if_pos e3] at hb
     obtain rfl := Option.some.inj hb
     exact hle k h0 hk e3 a ha
    ·rw [if_neg e3] at hb
     exact h.e k h0 hk e3 (.inl e2) a b ha hb
 ·rw [G] at ha hb
  rw [if_neg (by omega), if_neg (by omega)] at ha
  rw [hpar, if_neg (by omega), if_pos rfl] at hb
  obtain rfl := Option.some.inj hb
  exact h.e k h0 hk (by omega) (.inl (by omega)) a y ha (by rw [hkj]; exact hy)
theorem DInv.stop {mv : Prop} (h : DInv lt L n i mv) (hx : L[i]? = some x) (hc : ∀ k, 0 < k → k < n → (k - 1) / 2 = i → ∀ z, L[k]? = some z → ¬ lt z x) : ∀ k, 0 < k → k < n → (k ≠ i ∨ mv) → Edge lt L k := fun k h0 hk hm => by
 by_cases e : (k - 1) / 2 = i
 ·intro a b ha hb
  rw [e, hx] at hb
  obtain rfl := Option.some.inj hb
  exact hc k h0 hk e a ha
 ·exact h.e k h0 hk e hm
theorem MinC.no (o : LtO lt) (hm : MinC lt L n i j y) (hl : ¬ lt y x) : ∀ k, 0 < k → k < n → (k - 1) / 2 = i → ∀ z, L[k]? = some z → ¬ lt z x := fun k h0 hk e z hz => o.ntr hl (hm.least k h0 hk e z hz)
theorem MinC.left (hn : n ≤ L.length) (hj : 2 * i + 1 < n) (hy : L[2 * i + 1]? = some y) (h2 : ∀ z, 2 * i + 2 < n → L[2 * i + 2]? = some z → ¬ lt z y) (hir : ¬ lt y y) : MinC lt L n i (2 * i + 1) y :=
 ⟨by omega, by omega, hj, hy, fun k h0 hk e z hz => by
  rcases (by omega : k = 2 * i + 1 ∨ k = 2 * i + 2) with rfl | rfl
  ·rw [hy] at hz; obtain rfl := Option.some.inj hz; exact hir
  ·exact h2 z hk hz⟩
theorem MinC.right (hn : n ≤ L.length) (hj : 2 * i + 2 < n) {z : α} (hy : L[2 * i + 2]? = some y) (hz : L[2 * i + 1]? = some z) (h1 : ¬ lt z y) (hir : ¬ lt y y) : MinC lt L n i (2 * i + 2) y :=
 ⟨by omega, by omega, hj, hy, fun k h0 hk e u hu => by
  rcases (by omega : k = 2 * i + 1 ∨ k = 2 * i + 2) with rfl | rfl
  ·rw [hz] at hu; obtain rfl := Option.some.inj hu; exact h1
  ·rw [hy] at hu; obtain rfl := Option.some.inj hu; exact hir⟩
theorem LtO.irr (o : LtO lt) (x : α) : ¬ lt x x := fun h => o.asym h h
theorem HeapN.root (o : LtO lt) (h : HeapN lt L n) (hn : n ≤ L.length) (h0 : L[0]? = some x) : ∀ k, k < n → ∀ z, L[k]? = some z → ¬ lt z x := fun k => by
 induction k using Nat.strongRecOn with
 | _ k ih =>
   intro hk z hz
   by_cases e : k = 0
   ·subst e
    rw [h0] at hz
    obtain rfl := Option.some.inj hz
    exact o.irr _
   ·obtain ⟨p, hp⟩ : ∃ p, L[(k - 1) / 2]? = some p := ⟨L[(k - 1) / 2], List.getElem?_eq_getElem (by omega)⟩
    exact o.ntr (ih ((k - 1) / 2) (by omega) (by omega) p hp) (h k (by omega) hk z p hz hp)
theorem HeapN.mono {m : Nat} (h : HeapN lt L n) (hm : m ≤ n) : HeapN lt L m := fun k h0 hk => h k h0 (by omega)
theorem HeapN.of_eq {L' : List α} (h : HeapN lt L n) (he : ∀ k, k < n → L'[k]? = L[k]?) : HeapN lt L' n := fun k h0 hk x p hx hp => h k h0 hk x p (by rw [← he k hk]; exact hx) (by rw [← he _ (by omega)]; exact hp)
theorem HeapN.at_one {L' : List α} (o : LtO lt) (h : HeapN lt L n) (he : ∀ k, k < n → k ≠ i → L'[k]? = L[k]?) (hin : i < n) (hn : n ≤ L.length) : DInv lt L' n i False ∧ (∀ k, 0 < k → k < n → (k - 1) / 2 ≠ i → k ≠ i → Edge lt L' k) := by
 have h1 : ∀ k, 0 < k → k < n → (k - 1) / 2 ≠ i → k ≠ i → Edge lt L' k := fun k h0 hk hp hki a b ha hb => h k h0 hk a b (by rw [← he k hk hki]; exact ha) (by rw [← he _ (by omega) hp]; exact hb)
 refine ⟨⟨fun k h0 hk hp hm => h1 k h0 hk hp (hm.resolve_right id), fun hi0 k h0 hk hki a b ha hb => ?_⟩, h1⟩
 rw [he k hk (by omega)] at ha
 rw [he _ (by omega) (by omega)] at hb
 obtain ⟨x, hx⟩ : ∃ x, L[i]? = some x := ⟨L[i], List.getElem?_eq_getElem (by omega)⟩
 exact o.ntr (h i hi0 hin x b hx hb) (h k h0 hk a x ha (by rw [hki]; exact hx))
end
end Go.Proofs.YtaghmffgoomebaaGreat.Hp
namespace Go.Proofs.YtaghmffgoomebaaGreat.Pq
open Hp
section
variable {α : Type} {lt : α → α → Prop} {L L' L'' : List α} {a b i j k m n : Nat} {x y p : α}
def sg (a b : Nat) (L : List α) : List α := (L.drop a).take (b - a)
theorem zoM : x ∈ sg a b L ↔ ∃ i, a ≤ i ∧ i < b ∧ L[i]? = some x := by
 unfold sg
 constructor
 ·intro h
  obtain ⟨j, hj⟩ := List.getElem?_of_mem h
  rw [List.getElem?_take] at hj
  by_cases h1 : j < b - a
  ·rw [if_pos h1, List.getElem?_drop] at hj
   exact ⟨a + j, by omega, by omega, hj⟩
  ·rw [if_neg h1] at hj
   cases hj
 ·rintro ⟨i, h1, h2, h3⟩
  refine List.mem_of_getElem? (i := i - a) ?_
  rw [List.getElem?_take, if_pos (by omega), List.getElem?_drop, show a + (i - a) = i by omega]
  exact h3
structure Seg (a b : Nat) (L L' : List α) : Prop where
 len : L'.length = L.length
 out : ∀ i, i < a ∨ b ≤ i → L'[i]? = L[i]?
 perm : L'.Perm L
theorem Seg.refl (a b : Nat) (L : List α) : Seg a b L L := ⟨rfl, fun _ _ => rfl, .refl _⟩
theorem Seg.trans (h : Seg a b L L') (g : Seg a b L' L'') : Seg a b L L'' := ⟨g.len.trans h.len, fun i hi => (g.out i hi).trans (h.out i hi), g.perm.trans h.perm⟩
theorem Seg.wide {c d : Nat} (h : Seg a b L L') (hc : c ≤ a) (hd : b ≤ d) : Seg c d L L' := ⟨h.len, fun i hi => h.out i (by omega), h.perm⟩
theorem Seg.swp (hi : a ≤ i) (hi2 : i < b) (hj : a ≤ j) (hj2 : j < b) (hx : L[i]? = some x) (hy : L[j]? = some y) : Seg a b L (swp L i j x y) := ⟨zhG, fun k hk => by
 rw [swp_get (List.getElem?_eq_some_iff.1 hx).1 (List.getElem?_eq_some_iff.1 hy).1, if_neg (by omega), if_neg (by omega)], zcT hx hy⟩
theorem split3 (hab : a ≤ b) (L : List α) : L = L.take a ++ (sg a b L ++ L.drop b) := by
 unfold sg
 have h1 : L.drop a = (L.drop a).take (b - a) ++ (L.drop a).drop (b - a) := (List.take_append_drop _ _).symm
 rw [List.drop_drop, show a + (b - a) = b by omega] at h1
 rw [← h1, List.take_append_drop]
theorem Seg.mid (h : Seg a b L L') (hab : a ≤ b) : (sg a b L').Perm (sg a b L) := by
 have h1 := h.perm
 have e1 : L'.take a = L.take a := by
  apply List.ext_getElem?
  intro i
  rw [List.getElem?_take, List.getElem?_take]
  by_cases hi : i < a
  ·rw [if_pos hi, if_pos hi, h.out i (.inl hi)]
  ·rw [if_neg hi, if_neg hi]
 have e2 : L'.drop b = L.drop b := by
  apply List.ext_getElem?
  intro i
  rw [List.getElem?_drop, List.getElem?_drop, h.out (b + i) (.inr (by omega))]
 rw [split3 hab L', split3 hab L, e1, e2] at h1
 exact (List.perm_append_right_iff _).1 ((List.perm_append_left_iff _).1 h1)
theorem Seg.all {P : α → Prop} (h : Seg a b L L') (hab : a ≤ b) (hP : ∀ i x, a ≤ i → i < b → L[i]? = some x → P x) : ∀ i x, a ≤ i → i < b → L'[i]? = some x → P x := fun i x h1 h2 h3 => by
 have hm : x ∈ sg a b L' := zoM.2 ⟨i, h1, h2, h3⟩
 obtain ⟨k, k1, k2, k3⟩ := zoM.1 ((h.mid hab).mem_iff.1 hm)
 exact hP k x k1 k2 k3
def SortedIn (lt : α → α → Prop) (a b : Nat) (L : List α) : Prop := ∀ i j x y, a ≤ i → i < j → j < b → L[i]? = some x → L[j]? = some y → ¬ lt y x
theorem SortedIn.small (h : b ≤ a + 1) : SortedIn lt a b L := fun i j x y h1 h2 h3 => by omega
theorem SortedIn.out {c d : Nat} (h : SortedIn lt a b L) (g : Seg c d L L') (hd : b ≤ c ∨ d ≤ a) : SortedIn lt a b L' := fun i j x y h1 h2 h3 h4 h5 => by
 rw [g.out i (by omega)] at h4
 rw [g.out j (by omega)] at h5
 exact h i j x y h1 h2 h3 h4 h5
def Ins (lt : α → α → Prop) (a m j : Nat) (L : List α) : Prop := ∀ i k x y, a ≤ i → i < k → k ≤ m → k ≠ j → L[i]? = some x → L[k]? = some y → ¬ lt y x
theorem Ins.start (h : SortedIn lt a m L) : Ins lt a m m L := fun i k x y h1 h2 h3 h4 => h i k x y h1 h2 (by omega)
theorem Ins.step (o : LtO lt) (h : Ins lt a m j L) (hj : a < j) (hm : j ≤ m) (hx : L[j]? = some x) (hy : L[j - 1]? = some y) (hl : lt x y) : Ins lt a m (j - 1) (Hp.swp L j (j - 1) x y) := fun i k u v i1 i2 i3 i4 i5 i6 => by
 have b1 := (List.getElem?_eq_some_iff.1 hx).1
 have b2 := (List.getElem?_eq_some_iff.1 hy).1
 rw [swp_get b1 b2] at i5 i6
 rw [if_neg i4] at i6
 by_cases ek : k = j
 ·rw [if_pos ek] at i6
  obtain rfl := Option.some.inj i6
  by_cases ei : i = j - 1
  ·rw [if_pos ei] at i5
   obtain rfl := Option.some.inj i5
   exact o.asym hl
  ·rw [if_neg ei, if_neg (by omega)] at i5
   exact h i (j - 1) u y i1 (by omega) (by omega) (by omega) i5 hy
 ·rw [if_neg ek] at i6
  by_cases ei : i = j - 1
  ·rw [if_pos ei] at i5
   obtain rfl := Option.some.inj i5
   exact h j k x v (by omega) (by omega) i3 ek hx i6
  ·rw [if_neg ei] at i5
   by_cases ej : i = j
   ·rw [if_pos ej] at i5
    obtain rfl := Option.some.inj i5
    exact h (j - 1) k y v (by omega) (by omega) i3 ek hy i6
   ·rw [if_neg ej] at i5
    exact h i k u v i1 i2 i3 ek i5 i6
theorem Ins.zero (h : Ins lt a m a L) : SortedIn lt a (m + 1) L := fun i k x y h1 h2 h3 h4 h5 => h i k x y h1 h2 (by omega) (by omega) h4 h5
theorem Ins.stop (o : LtO lt) (h : Ins lt a m j L) (hj : a < j) (hm : j ≤ m) (hx : L[j]? = some x) (hy : L[j - 1]? = some y) (hl : ¬ lt x y) : SortedIn lt a (m + 1) L := fun i k u v h1 h2 h3 h4 h5 => by
 by_cases ek : k = j
 ·subst ek
  rw [hx] at h5
  obtain rfl := Option.some.inj h5
  by_cases ei : i = k - 1
  ·subst ei
   rw [hy] at h4
   obtain rfl := Option.some.inj h4
   exact hl
  ·exact o.ntr (h i (k - 1) u y h1 (by omega) (by omega) (by omega) h4 hy) hl
 ·exact h i k u v h1 h2 (by omega) ek h4 h5
end
end Go.Proofs.YtaghmffgoomebaaGreat.Pq
namespace Go.Proofs.YtaghmffgoomebaaGreat.Pq
open Hp
section
variable {α : Type} {lt : α → α → Prop} {L L' L'' : List α} {a b i j k m n : Nat} {x y p : α}
structure PInv (lt : α → α → Prop) (a b : Nat) (p : α) (i j : Nat) (L : List α) : Prop where
 at' : L[a]? = some p
 lo : ∀ k x, a < k → k < i → L[k]? = some x → lt x p
 hi : ∀ k x, j < k → k < b → L[k]? = some x → ¬ lt x p
theorem PInv.start (h : L[a]? = some p) : PInv lt a b p (a + 1) (b - 1) L := ⟨h, fun k x h1 h2 => by omega, fun k x h1 h2 => by omega⟩
theorem PInv.left (h : PInv lt a b p i j L) (hx : L[i]? = some x) (hl : lt x p) : PInv lt a b p (i + 1) j L := ⟨h.at', fun k y h1 h2 h3 => by
 by_cases e : k = i
 ·subst e
  rw [hx] at h3
  obtain rfl := Option.some.inj h3
  exact hl
 ·exact h.lo k y h1 (by omega) h3, h.hi⟩
theorem PInv.right (h : PInv lt a b p i j L) (hj : 0 < j) (hy : L[j]? = some y) (hl : ¬ lt y p) : PInv lt a b p i (j - 1) L := ⟨h.at', h.lo, fun k z h1 h2 h3 => by
 by_cases e : k = j
 ·subst e
  rw [hy] at h3
  obtain rfl := Option.some.inj h3
  exact hl
 ·exact h.hi k z (by omega) h2 h3⟩
theorem PInv.swp (h : PInv lt a b p i j L) (hai : a < i) (hij : i < j) (hx : L[i]? = some x) (hy : L[j]? = some y) (hlx : ¬ lt x p) (hly : lt y p) : PInv lt a b p (i + 1) (j - 1) (Hp.swp L i j x y) := by
 have b1 := (List.getElem?_eq_some_iff.1 hx).1
 have b2 := (List.getElem?_eq_some_iff.1 hy).1
 refine ⟨by rw [swp_get b1 b2, if_neg (by omega), if_neg (by omega)]; exact h.at', fun k z h1 h2 h3 => ?_, fun k z h1 h2 h3 => ?_⟩
 ·rw [swp_get b1 b2, if_neg (show ¬ k = j by omega)] at h3
  by_cases e : k = i
  ·rw [if_pos e] at h3
   obtain rfl := Option.some.inj h3
   exact hly
  ·rw [if_neg e] at h3
   exact h.lo k z h1 (by omega) h3
 ·rw [swp_get b1 b2] at h3
  by_cases e : k = j
  ·rw [if_pos e] at h3
   obtain rfl := Option.some.inj h3
   exact hlx
  ·rw [if_neg e, if_neg (show ¬ k = i by omega)] at h3
   exact h.hi k z (by omega) h2 h3
structure Parted (lt : α → α → Prop) (a b m : Nat) (p : α) (L : List α) : Prop where
 at' : L[m]? = some p
 lo : ∀ k x, a ≤ k → k < m → L[k]? = some x → lt x p
 hi : ∀ k x, m < k → k < b → L[k]? = some x → ¬ lt x p
theorem PInv.done (h : PInv lt a b p i j L) (hj : j + 1 = i) (haj : a ≤ j) (hy : L[j]? = some y) : Parted lt a b j p (Hp.swp L j a y p) := by
 have b1 := (List.getElem?_eq_some_iff.1 hy).1
 have b2 := (List.getElem?_eq_some_iff.1 h.at').1
 refine ⟨?_, fun k z h1 h2 h3 => ?_, fun k z h1 h2 h3 => ?_⟩
 ·rw [swp_get b1 b2]
  by_cases e : j = a
  ·rw [if_pos e]
   subst e
   have := h.at'
   rw [hy] at this
   exact this
  ·rw [if_neg e, if_pos rfl]
 ·rw [swp_get b1 b2] at h3
  by_cases e : k = a
  ·rw [if_pos e] at h3
   obtain rfl := Option.some.inj h3
   exact h.lo j y (by omega) (by omega) hy
  ·rw [if_neg e, if_neg (by omega)] at h3
   exact h.lo k z (by omega) (by omega) h3
 ·rw [swp_get b1 b2, if_neg (by omega), if_neg (by omega)] at h3
  exact h.hi k z (by omega) h2 h3
structure EInv (lt : α → α → Prop) (a b : Nat) (p : α) (i j : Nat) (L : List α) : Prop where
 at' : L[a]? = some p
 lo : ∀ k x, a < k → k < i → L[k]? = some x → ¬ lt p x
 hi : ∀ k x, j < k → k < b → L[k]? = some x → lt p x
theorem EInv.start (h : L[a]? = some p) : EInv lt a b p (a + 1) (b - 1) L := ⟨h, fun k x h1 h2 => by omega, fun k x h1 h2 => by omega⟩
theorem EInv.left (h : EInv lt a b p i j L) (hx : L[i]? = some x) (hl : ¬ lt p x) : EInv lt a b p (i + 1) j L := ⟨h.at', fun k y h1 h2 h3 => by
 by_cases e : k = i
 ·subst e
  rw [hx] at h3
  obtain rfl := Option.some.inj h3
  exact hl
 ·exact h.lo k y h1 (by omega) h3, h.hi⟩
theorem EInv.right (h : EInv lt a b p i j L) (hj : 0 < j) (hy : L[j]? = some y) (hl : lt p y) : EInv lt a b p i (j - 1) L := ⟨h.at', h.lo, fun k z h1 h2 h3 => by
 by_cases e : k = j
 ·subst e
  rw [hy] at h3
  obtain rfl := Option.some.inj h3
  exact hl
 ·exact h.hi k z (by omega) h2 h3⟩
theorem EInv.swp (h : EInv lt a b p i j L) (hai : a < i) (hij : i < j) (hx : L[i]? = some x) (hy : L[j]? = some y) (hlx : lt p x) (hly : ¬ lt p y) : EInv lt a b p (i + 1) (j - 1) (Hp.swp L i j x y) := by
 have b1 := (List.getElem?_eq_some_iff.1 hx).1
 have b2 := (List.getElem?_eq_some_iff.1 hy).1
 refine ⟨by rw [swp_get b1 b2, if_neg (by omega), if_neg (by omega)]; exact h.at', fun k z h1 h2 h3 => ?_, fun k z h1 h2 h3 => ?_⟩
 ·rw [swp_get b1 b2, if_neg (show ¬ k = j by omega)] at h3
  by_cases e : k = i
  ·rw [if_pos e] at h3
   obtain rfl := Option.some.inj h3
   exact hly
  ·rw [if_neg e] at h3
   exact h.lo k z h1 (by omega) h3
 ·rw [swp_get b1 b2] at h3
  by_cases e : k = j
  ·rw [if_pos e] at h3
   obtain rfl := Option.some.inj h3
   exact hlx
  ·rw [if_neg e, if_neg (show ¬ k = i by omega)] at h3
   exact h.hi k z (by omega) h2 h3
theorem EInv.done (o : LtO lt) (h : EInv lt a b p i j L) (hj : j + 1 = i) (hmin : ∀ k x, a ≤ k → k < b → L[k]? = some x → ¬ lt x p) (hib : i ≤ b) (hs : SortedIn lt i b L') (g : Seg i b L L') : SortedIn lt a b L' := fun u v x y h1 h2 h3 h4 h5 => by
 have hirr : ¬ lt p p := fun q => o.asym q q
 have lo : ∀ k z, a ≤ k → k < i → L'[k]? = some z → ¬ lt p z ∧ ¬ lt z p := fun k z k1 k2 k3 => by
  rw [g.out k (.inl k2)] at k3
  refine ⟨?_, hmin k z k1 (by omega) k3⟩
  by_cases e : k = a
  ·subst e
   rw [h.at'] at k3
   obtain rfl := Option.some.inj k3
   exact hirr
  ·exact h.lo k z (by omega) k2 k3
 by_cases hv : v < i
 ·exact o.ntr (lo u x h1 (by omega) h4).1 (lo v y (by omega) hv h5).2
 ·by_cases hu : i ≤ u
  ·exact hs u v x y hu h2 h3 h4 h5
  ·have hP := g.all hib (P := fun z => lt p z) (fun k z k1 k2 k3 => h.hi k z (by omega) k2 k3)
   exact o.ntr (lo u x h1 (by omega) h4).1 (o.asym (hP v y (by omega) h3 h5))
end
end Go.Proofs.YtaghmffgoomebaaGreat.Pq
namespace Go.Proofs.YtaghmffgoomebaaGreat.Pq
open Hp
section
variable {α : Type} {lt : α → α → Prop} {L L' L'' M M' M'' : List α} {a b i j k m n : Nat} {x y p : α}
abbrev gtR (lt : α → α → Prop) : α → α → Prop := fun x y => lt y x
theorem LtO.gt (o : LtO lt) : LtO (gtR lt) := ⟨fun h g => o.asym h g, fun {x y z} h1 h2 h3 => o.ntr (x := z) (y := y) (z := x) h2 h1 h3⟩
structure HS (lt : α → α → Prop) (M : List α) (n : Nat) : Prop where
 heap : HeapN (gtR lt) M n
 srt : SortedIn lt n M.length M
 far : ∀ i k x y, i < n → n ≤ k → M[i]? = some x → M[k]? = some y → ¬ lt y x
theorem HS.start (h : HeapN (gtR lt) M M.length) : HS lt M M.length := ⟨h, fun i j x y h1 h2 h3 => by omega, fun i k x y h1 h2 h3 h4 => by have := (List.getElem?_eq_some_iff.1 h4).1; omega⟩
theorem HS.done (h : HS lt M 0) : SortedIn lt 0 M.length M := h.srt
theorem HS.step (o : LtO lt) (h : HS lt M (n + 1)) (hn : n < M.length) (hx : M[0]? = some x) (hy : M[n]? = some y) (g : Seg 0 n (swp M 0 n x y) M'') (hh : HeapN (gtR lt) M'' n) : HS lt M'' n := by
 have b1 := (List.getElem?_eq_some_iff.1 hx).1
 have b2 := (List.getElem?_eq_some_iff.1 hy).1
 have hlen : M''.length = M.length := g.len.trans zhG
 have hroot : ∀ k z, k < n + 1 → M[k]? = some z → ¬ lt x z := fun k z hk hz => h.heap.root (LtO.gt o) (by omega) hx k hk z hz
 have hat : M''[n]? = some x := by rw [g.out n (.inr (Nat.le_refl _)), swp_get b1 b2, if_pos rfl]
 have hbeh : ∀ k z, n < k → M''[k]? = some z → M[k]? = some z := fun k z hk hz => by
  rw [g.out k (.inr (by omega)), swp_get b1 b2, if_neg (by omega), if_neg (by omega)] at hz
  exact hz
 have hlow : ∀ k z, k < n → M''[k]? = some z → ∃ i, i < n + 1 ∧ M[i]? = some z := fun k z hk hz => by
  refine g.all (Nat.zero_le n) (P := fun z => ∃ i, i < n + 1 ∧ M[i]? = some z) (fun i w _ i2 hw => ?_) k z (Nat.zero_le _) hk hz
  rw [swp_get b1 b2, if_neg (by omega)] at hw
  by_cases e : i = 0
  ·rw [if_pos e] at hw
   obtain rfl := Option.some.inj hw
   exact ⟨n, by omega, hy⟩
  ·rw [if_neg e] at hw
   exact ⟨i, by omega, hw⟩
 refine ⟨hh, fun i j u v h1 h2 h3 h4 h5 => ?_, fun i k u v h1 h2 h3 h4 => ?_⟩
 ·rw [hlen] at h3
  have h5' := hbeh j v (by omega) h5
  by_cases e : i = n
  ·subst e
   rw [hat] at h4
   obtain rfl := Option.some.inj h4
   exact h.far 0 j x v (by omega) (by omega) hx h5'
  ·exact h.srt i j u v (by omega) h2 h3 (hbeh i u (by omega) h4) h5'
 ·obtain ⟨i0, i1, i2⟩ := hlow i u h1 h3
  by_cases e : k = n
  ·subst e
   rw [hat] at h4
   obtain rfl := Option.some.inj h4
   exact hroot i0 u i1 i2
  ·exact h.far i0 k u v i1 (by omega) i2 (hbeh k v (by omega) h4)
end
end Go.Proofs.YtaghmffgoomebaaGreat.Pq
namespace Go.Proofs.YtaghmffgoomebaaGreat.Pq
open Hp
section
variable {α : Type} {lt : α → α → Prop} {L L1 L' L'' : List α} {a b c d i j k m n : Nat} {x y p : α}
def Rest (lt : α → α → Prop) (c d a b : Nat) (L : List α) : Prop := ∀ L', Seg a b L L' → SortedIn lt a b L' → SortedIn lt c d L'
theorem Rest.start : Rest lt a b a b L := fun _ _ h => h
theorem Rest.done (h : Rest lt c d a b L) (g : Seg a b L L') (hs : SortedIn lt a b L') : SortedIn lt c d L' := h L' g hs
theorem Rest.turn (h : Rest lt c d a b L) (g : Seg a b L L1) : Rest lt c d a b L1 := fun L' g' hs => h L' (g.trans g') hs
theorem Parted.left (h : Parted lt a b m p L) (ham : a ≤ m) (g : Seg a m L L') : Parted lt a b m p L' := ⟨by rw [g.out m (.inr (Nat.le_refl _))]; exact h.at', g.all ham (P := fun z => lt z p) h.lo, fun k z h1 h2 h3 => by
 rw [g.out k (.inr (by omega))] at h3
 exact h.hi k z h1 h2 h3⟩
theorem Parted.right (h : Parted lt a b m p L) (hmb : m + 1 ≤ b) (g : Seg (m + 1) b L L') : Parted lt a b m p L' := ⟨by rw [g.out m (.inl (by omega))]; exact h.at', fun k z h1 h2 h3 => by
 rw [g.out k (.inl (by omega))] at h3
 exact h.lo k z h1 h2 h3, fun k z h1 h2 h3 => g.all hmb (P := fun z => ¬ lt z p) (fun k z h1 h2 h3 => h.hi k z (by omega) h2 h3) k z (by omega) h2 h3⟩
def Pre (lt : α → α → Prop) (a b : Nat) (L : List α) : Prop := ∀ z, 0 < a → L[a - 1]? = some z → ∀ k x, a ≤ k → k < b → L[k]? = some x → ¬ lt x z
theorem Pre.turn (h : Pre lt a b L) (hab : a ≤ b) (g : Seg a b L L') : Pre lt a b L' := fun z h0 hz k x h1 h2 h3 => by
 rw [g.out (a - 1) (.inl (by omega))] at hz
 exact g.all hab (P := fun x => ¬ lt x z) (fun k x k1 k2 k3 => h z h0 hz k x k1 k2 k3) k x h1 h2 h3
theorem Pre.left (h : Pre lt a b L) (hmb : m ≤ b) : Pre lt a m L := fun z h0 hz k x h1 h2 h3 => h z h0 hz k x h1 (by omega) h3
theorem Pre.right (hp : Parted lt a b m p L) : Pre lt (m + 1) b L := fun z h0 hz k x h1 h2 h3 => by
 rw [Nat.add_sub_cancel, hp.at'] at hz
 obtain rfl := Option.some.inj hz
 exact hp.hi k x (by omega) h2 h3
theorem EInv.pre (o : LtO lt) (h : EInv lt a b p i j L) (hj : j + 1 = i) (hai : a < i) : Pre lt i b L := fun z h0 hz k x h1 h2 h3 => by
 have hx := o.asym (h.hi k x (by omega) h2 h3)
 by_cases e : i - 1 = a
 ·rw [e, h.at'] at hz
  obtain rfl := Option.some.inj hz
  exact hx
 ·exact o.ntr (h.lo (i - 1) z (by omega) (by omega) hz) hx
theorem Pre.zero : Pre lt 0 b L := fun z h0 => absurd h0 (Nat.lt_irrefl 0)
end
end Go.Proofs.YtaghmffgoomebaaGreat.Pq
namespace Go.Proofs.YtaghmffgoomebaaGreat.Dd
open Pq Hp
section
variable {α : Type} [DecidableEq α] {L : List α} {k i j : Nat} {x y : α}
def ddN (L : List α) : Nat → List α
 | 0 => []
 | k + 1 => ddN L k ++ (match L[k]? with
   | some x => if k ≠ 0 ∧ L[k - 1]? = some x then [] else [x]
   | none => [])
def dd (L : List α) : List α := ddN L L.length
theorem zjy (hx : L[k]? = some x) (h : k = 0 ∨ L[k - 1]? ≠ some x) : ddN L (k + 1) = ddN L k ++ [x] := by
 rw [ddN, hx]
 simp only
 rw [if_neg (by rintro ⟨h1, h2⟩; rcases h with h | h; exact h1 h; exact h h2)]
theorem zjx (hx : L[k]? = some x) (hk : k ≠ 0) (h : L[k - 1]? = some x) : ddN L (k + 1) = ddN L k := by
 rw [ddN, hx]
 simp only
 rw [if_pos ⟨hk, h⟩, List.append_nil]
theorem zpt : x ∈ ddN L k ↔ x ∈ L.take k := by
 induction k with
 | zero => simp [ddN]
 | succ k ih =>
   by_cases hk : k < L.length
   ·obtain ⟨y, hy⟩ : ∃ y, L[k]? = some y := ⟨_, List.getElem?_eq_getElem hk⟩
    have e : L.take (k + 1) = L.take k ++ [y] := by
     rw [List.take_succ_eq_append_getElem hk]
     rw [List.getElem?_eq_getElem hk] at hy
     injection hy with hy
     rw [hy]
    by_cases h : k ≠ 0 ∧ L[k - 1]? = some y
    ·rw [zjx hy h.1 h.2, ih, e, List.mem_append]
     refine ⟨.inl, fun h' => h'.elim id fun h' => ?_⟩
     obtain rfl := List.mem_singleton.1 h'
     refine List.mem_of_getElem? (i := k - 1) ?_
     rw [List.getElem?_take, if_pos (by omega)]
     exact h.2
    ·rw [zjy hy (by by_cases e : k = 0; exact .inl e; exact .inr fun h' => h ⟨e, h'⟩), e, List.mem_append, List.mem_append, ih]
   ·rw [ddN, List.getElem?_eq_none (by omega)]
    simp only [List.append_nil]
    rw [ih, List.take_of_length_le (by omega), List.take_of_length_le (by omega)]
theorem mem_dd : x ∈ dd L ↔ x ∈ L := by
 unfold dd
 rw [zpt, List.take_length]
end
end Go.Proofs.YtaghmffgoomebaaGreat.Dd
