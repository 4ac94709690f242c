/- Words for an object in a block of its own: what it holds, and that nothing else that was there has changed. -/
import Derived.Test.YtgpfedmfbkhhcaaMem
import Derived.Deep.OwnRows
namespace Go.Proofs.Ytgpfedmfbkhhcaa.Mem
open Go.RowKit
set_option linter.unusedVariables false
set_option linter.unusedSimpArgs false

/-- From w to w' only block g has changed, and there may be new ones. -/
def Tch (w w' : World) (g : Nat) : Prop := w.grownBy w' (some g)
theorem Tch.refl (w : World) (g : Nat) : Tch w w g := World.grownBy.refl w _
theorem Tch.drew {w0 w : World} {g : Nat} (h : Tch w0 w g) : Tch w0 w.drew g := ⟨h.os, h.tape, h.output, h.size, h.block⟩
theorem Tch.drewN {w0 w : World} {g : Nat} (h : Tch w0 w g) (n : Nat) : Tch w0 (w.drewN n) g := ⟨h.os, h.tape, h.output, h.size, h.block⟩
theorem Tch.alloc {w0 w : World} {g : Nat} (h : Tch w0 w g) (o : Obj) : Tch w0 (w.alloc o) g :=
  ⟨h.os, h.tape, h.output, Nat.le_trans h.size (by simp), fun i hi hne => (Below.heap_alloc w o i (Nat.lt_of_lt_of_le hi h.size)).trans (h.block i hi hne)⟩
theorem Tch.set {w0 w : World} {g : Nat} (h : Tch w0 w g) (i : Nat) (u : Value) : Tch w0 (w.setCell ⟨g, i, none⟩ u) g :=
  ⟨h.os, h.tape, h.output, by simpa [World.setCell] using h.size, fun j hj hne => (Below.heap_setCell w ⟨g, i, none⟩ u j (by
    rintro rfl; exact hne rfl)).trans (h.block j hj hne)⟩
theorem Tch.below {w0 w w' : World} {g : Nat} (h : Tch w0 w g) (hb : Below w.heap.size w w') : Tch w0 w' g :=
  ⟨hb.os.trans h.os, hb.tape.trans h.tape, hb.output.trans h.output, Nat.le_trans h.size hb.size, fun i hi hne => (hb.block i (Nat.lt_of_lt_of_le hi h.size)).trans (h.block i hi hne)⟩
theorem Tch.trans {a b c : World} {g : Nat} (h : Tch a b g) (k : Tch b c g) : Tch a c g :=
  ⟨k.os.trans h.os, k.tape.trans h.tape, k.output.trans h.output, Nat.le_trans h.size k.size, fun i hi hne => (k.block i (Nat.lt_of_lt_of_le hi h.size) hne).trans (h.block i hi hne)⟩
theorem Tch.of_below {w w' : World} (g : Nat) (hb : Below w.heap.size w w') : Tch w w' g := (Tch.refl w g).below hb
/-- Where the object is one of the call's own, what was there at its start is as it was. -/
theorem bel_tch {W w w' : World} {g : Nat} (hb : Below W.heap.size W w) (h : Tch w w' g) (hg : W.heap.size ≤ g) : Below W.heap.size W w' :=
  hb.grown h hb.size fun k hk => by injection hk with hk; omega
theorem row_tch {w w' : World} {g g' : Nat} {t : TypeId} {n : Nat} {f : Nat → Value} (h : w.rowIs g' t n f) (k : Tch w w' g) (hne : g' ≠ g) : w'.rowIs g' t n f :=
  h.of_block (k.block g' h.lt (by intro e; injection e with e; exact hne e))
theorem row_below {w w' : World} {g : Nat} {t : TypeId} {n : Nat} {f : Nat → Value} (h : w.rowIs g t n f) (hb : Below w.heap.size w w') : w'.rowIs g t n f :=
  h.of_block (hb.block g h.lt)
theorem row_drewN {w : World} {g : Nat} {t : TypeId} {n : Nat} {f : Nat → Value} (h : w.rowIs g t n f) (k : Nat) : (w.drewN k).rowIs g t n f := h
/-- Cells of a block, written one behind the other. -/
def setCells (w : World) (g : Nat) : Nat → List Value → World
  | _, [] => w
  | i, v :: vs => setCells (w.setCell ⟨g, i, none⟩ v) g (i + 1) vs
theorem row_sets {g : Nat} {t : TypeId} {n : Nat} : ∀ (vs : List Value) (i : Nat) {w : World} {f : Nat → Value}, w.rowIs g t n f → (setCells w g i vs).rowIs g t n (fun j => if i ≤ j ∧ j < i + vs.length then vs.getD (j - i) undef else f j)
  | [], i, w, f, h => h.congr fun j hj => by simp; omega
  | v :: vs, i, w, f, h => (row_sets vs (i + 1) (h.set i v)).congr fun j hj => by
    simp only [List.length_cons]
    by_cases h1 : j = i
    · subst h1
      rw [if_neg (by omega), if_pos rfl, if_pos ⟨by omega, by omega⟩]; simp
    · by_cases h2 : i + 1 ≤ j ∧ j < i + 1 + vs.length
      · rw [if_pos h2, if_pos ⟨by omega, by omega⟩, show j - i = (j - (i + 1)) + 1 by omega]; rfl
      · rw [if_neg h2, if_neg h1, if_neg (by omega)]
theorem tch_sets {w0 : World} {g : Nat} : ∀ {w : World}, Tch w0 w g → ∀ (vs : List Value) (i : Nat), Tch w0 (setCells w g i vs) g
  | w, h, [], i => h
  | w, h, v :: vs, i => tch_sets (h.set i v) vs (i + 1)
/-- What the call owns stays, behind a change of another block. -/
theorem own_tch {w w' : World} {base : Nat} {e : TypeId} {sz : Nat} {v : Value} {n : Nat} {F : Nat → Nat → Value} {g : Nat} (h : Own w base e sz v n F) (k : Tch w w' g) (hne : v.ownBlock ≠ some g) : Own w' base e sz v n F :=
  World.ownsRow.kept h (row := some g) k (.inr hne)
theorem tch_own {w w' : World} {g : Nat} {v : Value} (h : w.grownBy w' v.ownBlock) (hg : ∀ k, v.ownBlock = some k → k = g) : Tch w w' g :=
  ⟨h.os, h.tape, h.output, h.size, fun i hi hne => h.block i hi (by intro e; exact hne (by rw [hg i e.symm]))⟩
theorem arr_tch {w w' : World} {A : Option Addr} {n sz : Nat} {F : Nat → Nat → Value} {g : Nat} (h : Arr w A n sz F) (k : Tch w w' g) (hne : ∀ a, A = some a → a.block ≠ g) : Arr w' A n sz F := by
  intro hn
  obtain ⟨b, off, e, hc⟩ := h hn
  refine ⟨b, off, e, fun i hi j hj => ?_⟩
  have h1 := hc i hi j hj
  rw [World.cell?_of_block (k.block b (lt_of_cell h1) (by intro e'; injection e' with e'; exact hne _ e e'))]
  exact h1
end Go.Proofs.Ytgpfedmfbkhhcaa.Mem

