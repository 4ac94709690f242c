/- Sorting in place, plain: what is left to do. -/
import Derived.Test.YteajefmnbalofaaPq3
namespace Go.Proofs.Yteajefmnbalofaa.Pq
open Hp
set_option linter.unusedVariables false
set_option linter.unusedSimpArgs false
section
variable {α : Type} {lt : α → α → Prop} {L L1 L' L'' : List α} {a b c d i j k m n : Nat} {x y p : α}
/-- Whatever sorts a part now, sorts the whole. -/
def Rest (lt : α → α → Prop) (c d a b : Nat) (L : List α) : Prop := ∀ L', Seg a b L L' → SortedIn lt a b L' → SortedIn lt c d L'
theorem Rest.start : Rest lt a b a b L := fun _ _ h => h
theorem Rest.done (h : Rest lt c d a b L) (g : Seg a b L L') (hs : SortedIn lt a b L') : SortedIn lt c d L' := h L' g hs
theorem Rest.turn (h : Rest lt c d a b L) (g : Seg a b L L1) : Rest lt c d a b L1 := fun L' g' hs => h L' (g.trans g') hs
/-- What is parted keeps its sides. -/
theorem Parted.left (h : Parted lt a b m p L) (ham : a ≤ m) (g : Seg a m L L') : Parted lt a b m p L' := ⟨by rw [g.out m (.inr (Nat.le_refl _))]; exact h.at', g.all ham (P := fun z => lt z p) h.lo, fun k z h1 h2 h3 => by
  rw [g.out k (.inr (by omega))] at h3
  exact h.hi k z h1 h2 h3⟩
theorem Parted.right (h : Parted lt a b m p L) (hmb : m + 1 ≤ b) (g : Seg (m + 1) b L L') : Parted lt a b m p L' := ⟨by rw [g.out m (.inl (by omega))]; exact h.at', fun k z h1 h2 h3 => by
  rw [g.out k (.inl (by omega))] at h3
  exact h.lo k z h1 h2 h3, fun k z h1 h2 h3 => g.all hmb (P := fun z => ¬ lt z p) (fun k z h1 h2 h3 => h.hi k z (by omega) h2 h3) k z (by omega) h2 h3⟩
theorem Parted.join (o : LtO lt) (h : Parted lt a b m p L) (h1 : SortedIn lt a m L) (h2 : SortedIn lt (m + 1) b L) : SortedIn lt a b L :=
  SortedIn.join o h.at' h1 h2 (fun i x i1 i2 i3 => o.asym (h.lo i x i1 i2 i3)) (fun i x i1 i2 i3 => h.hi i x i1 i2 i3)
/-- The left side is sorted: the right one is left. -/
theorem Rest.goRight (o : LtO lt) (h : Rest lt c d a b L) (hp : Parted lt a b m p L) (ham : a ≤ m) (hmb : m + 1 ≤ b) (g : Seg a m L L1) (hs : SortedIn lt a m L1) : Rest lt c d (m + 1) b L1 := fun L' g' hs' => by
  refine h L' ((g.wide (Nat.le_refl _) (by omega)).trans (g'.wide (by omega) (Nat.le_refl _))) ?_
  exact ((hp.left ham g).right hmb g').join o (hs.out g' (.inl (by omega))) hs'
/-- The right side is sorted: the left one is left. -/
theorem Rest.goLeft (o : LtO lt) (h : Rest lt c d a b L) (hp : Parted lt a b m p L) (ham : a ≤ m) (hmb : m + 1 ≤ b) (g : Seg (m + 1) b L L1) (hs : SortedIn lt (m + 1) b L1) : Rest lt c d a m L1 := fun L' g' hs' => by
  refine h L' ((g.wide (by omega) (Nat.le_refl _)).trans (g'.wide (Nat.le_refl _) (by omega))) ?_
  exact ((hp.right hmb g).left ham g').join o hs' (hs.out g' (.inr (by omega)))
/-- Those equal to the least one lie ahead: what is above is left. -/
theorem Rest.goEq (o : LtO lt) (h : Rest lt c d a b L) (he : EInv lt a b p i j L) (hj : j + 1 = i) (hmin : ∀ k x, a ≤ k → k < b → L[k]? = some x → ¬ lt x p) (hai : a ≤ i) (hib : i ≤ b) : Rest lt c d i b L := fun L' g hs =>
  h L' (g.wide hai (Nat.le_refl _)) (he.done o hj hmin hib hs g)
/-- What lies ahead of a part is not above it. -/
def Pre (lt : α → α → Prop) (a b : Nat) (L : List α) : Prop := ∀ z, 0 < a → L[a - 1]? = some z → ∀ k x, a ≤ k → k < b → L[k]? = some x → ¬ lt x z
theorem Pre.turn (h : Pre lt a b L) (hab : a ≤ b) (g : Seg a b L L') : Pre lt a b L' := fun z h0 hz k x h1 h2 h3 => by
  rw [g.out (a - 1) (.inl (by omega))] at hz
  exact g.all hab (P := fun x => ¬ lt x z) (fun k x k1 k2 k3 => h z h0 hz k x k1 k2 k3) k x h1 h2 h3
theorem Pre.left (h : Pre lt a b L) (hmb : m ≤ b) : Pre lt a m L := fun z h0 hz k x h1 h2 h3 => h z h0 hz k x h1 (by omega) h3
theorem Pre.right (hp : Parted lt a b m p L) : Pre lt (m + 1) b L := fun z h0 hz k x h1 h2 h3 => by
  rw [Nat.add_sub_cancel, hp.at'] at hz
  obtain rfl := Option.some.inj hz
  exact hp.hi k x (by omega) h2 h3
theorem EInv.pre (o : LtO lt) (h : EInv lt a b p i j L) (hj : j + 1 = i) (hai : a < i) : Pre lt i b L := fun z h0 hz k x h1 h2 h3 => by
  have hx := o.asym (h.hi k x (by omega) h2 h3)
  by_cases e : i - 1 = a
  · rw [e, h.at'] at hz
    obtain rfl := Option.some.inj hz
    exact hx
  · exact o.ntr (h.lo (i - 1) z (by omega) (by omega) hz) hx
theorem Pre.zero : Pre lt 0 b L := fun z h0 => absurd h0 (Nat.lt_irrefl 0)
end
end Go.Proofs.Yteajefmnbalofaa.Pq

