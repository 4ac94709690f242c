/- Heaps as lists: what a step up or down leaves. -/
import Derived.Test.YtokhfkbbhdaghaaGreatGxQ
namespace Go.Proofs.YtokhfkbbhdaghaaGreat.Hp
set_option linter.unusedVariables false
set_option linter.unusedSimpArgs false
/-- A total preorder, by what is less. -/
structure LtO {α : Type} (lt : α → α → Prop) : Prop where
  asym : ∀ {x y}, lt x y → ¬ lt y x
  ntr : ∀ {x y z}, ¬ lt y x → ¬ lt z y → ¬ lt z x
section
variable {α : Type} {lt : α → α → Prop} {L : List α} {n i j k : Nat} {x y : α}
def Edge (lt : α → α → Prop) (L : List α) (k : Nat) : Prop := ∀ x p, L[k]? = some x → L[(k - 1) / 2]? = some p → ¬ lt x p
def HeapN (lt : α → α → Prop) (L : List α) (n : Nat) : Prop := ∀ k, 0 < k → k < n → Edge lt L k
def swp (L : List α) (i j : Nat) (x y : α) : List α := (L.set i y).set j x
theorem swp_len : (swp L i j x y).length = L.length := by simp [swp]
theorem swp_get (hi : i < L.length) (hj : j < L.length) : (swp L i j x y)[k]? = if k = j then some x else if k = i then some y else L[k]? := by
  unfold swp
  by_cases h1 : k = j
  · subst h1
    simp [hj]
  · rw [if_neg h1, List.getElem?_set_ne (fun h => h1 h.symm)]
    by_cases h2 : k = i
    · subst h2
      simp [hi]
    · rw [if_neg h2, List.getElem?_set_ne (fun h => h2 h.symm)]
theorem swp_perm (hx : L[i]? = some x) (hy : L[j]? = some y) : (swp L i j x y).Perm L := by
  obtain ⟨hi, ex⟩ := List.getElem?_eq_some_iff.1 hx
  obtain ⟨hj, ey⟩ := List.getElem?_eq_some_iff.1 hy
  have h := Array.swap_perm (xs := L.toArray) (i := i) (j := j) (h₁ := by simpa using hi) (h₂ := by simpa using hj)
  have h2 := h.toList
  have e : (L.toArray.swap i j (by simpa using hi) (by simpa using hj)).toList = swp L i j x y := by
    unfold swp
    simp [ex, ey]
  rw [e] at h2
  simpa using h2
theorem swp_far (hi : i < L.length) (hj : j < L.length) (hin : i < n) (hjn : j < n) (hk : n ≤ k) : (swp L i j x y)[k]? = L[k]? := by
  rw [swp_get hi hj, if_neg (by omega), if_neg (by omega)]
/-- A heap but for the way up from a place. -/
structure UInv (lt : α → α → Prop) (L : List α) (n j : Nat) : Prop where
  e : ∀ k, 0 < k → k < n → k ≠ j → Edge lt L k
  g : 0 < j → ∀ k, 0 < k → k < n → (k - 1) / 2 = j → ∀ x p, L[k]? = some x → L[(j - 1) / 2]? = some p → ¬ lt x p
theorem UInv.zero (h : UInv lt L n 0) : HeapN lt L n := fun k h0 hk => h.e k h0 hk (by omega)
theorem UInv.stop (h : UInv lt L n j) (hx : L[j]? = some x) (hp : L[(j - 1) / 2]? = some y) (hl : ¬ lt x y) : HeapN lt L n := fun k h0 hk => by
  by_cases e : k = j
  · subst e
    intro a b ha hb
    rw [hx] at ha
    rw [hp] at hb
    obtain rfl := Option.some.inj ha
    obtain rfl := Option.some.inj hb
    exact hl
  · exact h.e k h0 hk e
theorem UInv.step (o : LtO lt) (h : UInv lt L n j) (hj0 : 0 < j) (hjn : j < n) (hn : n ≤ L.length) (hx : L[j]? = some x) (hp : L[(j - 1) / 2]? = some y) (hl : lt x y) : UInv lt (swp L ((j - 1) / 2) j y x) n ((j - 1) / 2) := by
  obtain ⟨i, hi⟩ : ∃ i, i = (j - 1) / 2 := ⟨_, rfl⟩
  rw [← hi] at hp ⊢
  have hjL : j < L.length := by omega
  have hiL : i < L.length := by omega
  have hij : i < j := by omega
  have G : ∀ k, (swp L i j y x)[k]? = if k = j then some y else if k = i then some x else L[k]? := fun k => swp_get hiL hjL
  refine ⟨fun k h0 hk hne a b ha hb => ?_, fun hi0 k h0 hk hki a b ha hb => ?_⟩
  · rw [G] at ha hb
    by_cases e1 : k = j
    · subst e1
      rw [if_pos rfl] at ha
      rw [← hi, if_neg (by omega), if_pos rfl] at hb
      obtain rfl := Option.some.inj ha
      obtain rfl := Option.some.inj hb
      exact o.asym hl
    · rw [if_neg e1, if_neg hne] at ha
      by_cases e2 : (k - 1) / 2 = i
      · rw [if_neg (by omega), if_pos e2] at hb
        obtain rfl := Option.some.inj hb
        have h1 := h.e k h0 hk e1 a y ha (by rw [e2]; exact hp)
        exact o.ntr (o.asym hl) h1
      · by_cases e3 : (k - 1) / 2 = j
        · rw [if_pos e3] at hb
          obtain rfl := Option.some.inj hb
          exact h.g hj0 k h0 hk e3 a y ha (by rw [← hi]; exact hp)
        · rw [if_neg e3, if_neg e2] at hb
          exact h.e k h0 hk e1 a b ha hb
  · rw [G] at ha hb
    rw [if_neg (by omega), if_neg (by omega)] at hb
    have h1 : ¬ lt y b := h.e i hi0 (by omega) (by omega) y b hp hb
    by_cases e1 : k = j
    · subst e1
      rw [if_pos rfl] at ha
      obtain rfl := Option.some.inj ha
      exact h1
    · rw [if_neg e1, if_neg (by omega)] at ha
      exact o.ntr h1 (h.e k h0 hk e1 a y ha (by rw [hki]; exact hp))
/-- A heap but for the way down from a place (and up, if nothing has moved yet). -/
structure DInv (lt : α → α → Prop) (L : List α) (n i : Nat) (mv : Prop) : Prop where
  e : ∀ k, 0 < k → k < n → (k - 1) / 2 ≠ i → (k ≠ i ∨ mv) → Edge lt L k
  g : 0 < i → ∀ k, 0 < k → k < n → (k - 1) / 2 = i → ∀ x p, L[k]? = some x → L[(i - 1) / 2]? = some p → ¬ lt x p
/-- The least child. -/
structure MinC (lt : α → α → Prop) (L : List α) (n i j : Nat) (y : α) : Prop where
  par : (j - 1) / 2 = i
  pos : 0 < j
  jn : j < n
  at_ : L[j]? = some y
  least : ∀ k, 0 < k → k < n → (k - 1) / 2 = i → ∀ z, L[k]? = some z → ¬ lt z y
theorem DInv.step {mv : Prop} (o : LtO lt) (h : DInv lt L n i mv) (hn : n ≤ L.length) (hx : L[i]? = some x) (hm : MinC lt L n i j y) (hl : lt y x) : DInv lt (swp L i j x y) n j True := by
  obtain ⟨hpar, hpos, hjn, hy, hle⟩ := hm
  have hjL : j < L.length := by omega
  have hiL : i < L.length := by omega
  have hij : i < j := by omega
  have G : ∀ k, (swp L i j x y)[k]? = if k = j then some x else if k = i then some y else L[k]? := fun k => swp_get hiL hjL
  refine ⟨fun k h0 hk hpk _ a b ha hb => ?_, fun _ k h0 hk hkj a b ha hb => ?_⟩
  · rw [G] at ha hb
    rw [if_neg hpk] at hb
    by_cases e1 : k = j
    · subst e1
      rw [if_pos rfl] at ha
      rw [if_pos hpar] at hb
      obtain rfl := Option.some.inj ha
      obtain rfl := Option.some.inj hb
      exact o.asym hl
    · rw [if_neg e1] at ha
      by_cases e2 : k = i
      · subst e2
        rw [if_pos rfl] at ha
        rw [if_neg (by omega)] at hb
        obtain rfl := Option.some.inj ha
        exact h.g h0 j hpos hjn hpar y b hy hb
      · rw [if_neg e2] at ha
        by_cases e3 : (k - 1) / 2 = i
        · rw [if_pos e3] at hb
          obtain rfl := Option.some.inj hb
          exact hle k h0 hk e3 a ha
        · rw [if_neg e3] at hb
          exact h.e k h0 hk e3 (.inl e2) a b ha hb
  · rw [G] at ha hb
    rw [if_neg (by omega), if_neg (by omega)] at ha
    rw [hpar, if_neg (by omega), if_pos rfl] at hb
    obtain rfl := Option.some.inj hb
    exact h.e k h0 hk (by omega) (.inl (by omega)) a y ha (by rw [hkj]; exact hy)
theorem DInv.stop {mv : Prop} (h : DInv lt L n i mv) (hx : L[i]? = some x) (hc : ∀ k, 0 < k → k < n → (k - 1) / 2 = i → ∀ z, L[k]? = some z → ¬ lt z x) : ∀ k, 0 < k → k < n → (k ≠ i ∨ mv) → Edge lt L k := fun k h0 hk hm => by
  by_cases e : (k - 1) / 2 = i
  · intro a b ha hb
    rw [e, hx] at hb
    obtain rfl := Option.some.inj hb
    exact hc k h0 hk e a ha
  · exact h.e k h0 hk e hm
theorem MinC.no (o : LtO lt) (hm : MinC lt L n i j y) (hl : ¬ lt y x) : ∀ k, 0 < k → k < n → (k - 1) / 2 = i → ∀ z, L[k]? = some z → ¬ lt z x := fun k h0 hk e z hz => o.ntr hl (hm.least k h0 hk e z hz)
theorem MinC.left (hn : n ≤ L.length) (hj : 2 * i + 1 < n) (hy : L[2 * i + 1]? = some y) (h2 : ∀ z, 2 * i + 2 < n → L[2 * i + 2]? = some z → ¬ lt z y) (hir : ¬ lt y y) : MinC lt L n i (2 * i + 1) y :=
  ⟨by omega, by omega, hj, hy, fun k h0 hk e z hz => by
    rcases (by omega : k = 2 * i + 1 ∨ k = 2 * i + 2) with rfl | rfl
    · rw [hy] at hz; obtain rfl := Option.some.inj hz; exact hir
    · exact h2 z hk hz⟩
theorem MinC.right (hn : n ≤ L.length) (hj : 2 * i + 2 < n) {z : α} (hy : L[2 * i + 2]? = some y) (hz : L[2 * i + 1]? = some z) (h1 : ¬ lt z y) (hir : ¬ lt y y) : MinC lt L n i (2 * i + 2) y :=
  ⟨by omega, by omega, hj, hy, fun k h0 hk e u hu => by
    rcases (by omega : k = 2 * i + 1 ∨ k = 2 * i + 2) with rfl | rfl
    · rw [hz] at hu; obtain rfl := Option.some.inj hu; exact h1
    · rw [hy] at hu; obtain rfl := Option.some.inj hu; exact hir⟩
theorem LtO.irr (o : LtO lt) (x : α) : ¬ lt x x := fun h => o.asym h h
/-- The root is least. -/
theorem HeapN.root (o : LtO lt) (h : HeapN lt L n) (hn : n ≤ L.length) (h0 : L[0]? = some x) : ∀ k, k < n → ∀ z, L[k]? = some z → ¬ lt z x := fun k => by
  induction k using Nat.strongRecOn with
  | _ k ih =>
    intro hk z hz
    by_cases e : k = 0
    · subst e
      rw [h0] at hz
      obtain rfl := Option.some.inj hz
      exact o.irr _
    · obtain ⟨p, hp⟩ : ∃ p, L[(k - 1) / 2]? = some p := ⟨L[(k - 1) / 2], List.getElem?_eq_getElem (by omega)⟩
      exact o.ntr (ih ((k - 1) / 2) (by omega) (by omega) p hp) (h k (by omega) hk z p hz hp)
theorem HeapN.mono {m : Nat} (h : HeapN lt L n) (hm : m ≤ n) : HeapN lt L m := fun k h0 hk => h k h0 (by omega)
theorem HeapN.of_eq {L' : List α} (h : HeapN lt L n) (he : ∀ k, k < n → L'[k]? = L[k]?) : HeapN lt L' n := fun k h0 hk x p hx hp => h k h0 hk x p (by rw [← he k hk]; exact hx) (by rw [← he _ (by omega)]; exact hp)
/-- After a change at one place. -/
theorem HeapN.at_one {L' : List α} (o : LtO lt) (h : HeapN lt L n) (he : ∀ k, k < n → k ≠ i → L'[k]? = L[k]?) (hin : i < n) (hn : n ≤ L.length) : DInv lt L' n i False ∧ (∀ k, 0 < k → k < n → (k - 1) / 2 ≠ i → k ≠ i → Edge lt L' k) := by
  have h1 : ∀ k, 0 < k → k < n → (k - 1) / 2 ≠ i → k ≠ i → Edge lt L' k := fun k h0 hk hp hki a b ha hb => h k h0 hk a b (by rw [← he k hk hki]; exact ha) (by rw [← he _ (by omega) hp]; exact hb)
  refine ⟨⟨fun k h0 hk hp hm => h1 k h0 hk hp (hm.resolve_right id), fun hi0 k h0 hk hki a b ha hb => ?_⟩, h1⟩
  rw [he k hk (by omega)] at ha
  rw [he _ (by omega) (by omega)] at hb
  obtain ⟨x, hx⟩ : ∃ x, L[i]? = some x := ⟨L[i], List.getElem?_eq_getElem (by omega)⟩
  exact o.ntr (h i hi0 hin x b hx hb) (h k h0 hk a x ha (by rw [hki]; exact hx))
end
end Go.Proofs.YtokhfkbbhdaghaaGreat.Hp
