/- A walk by steps that are reckoned: the frame as a list of slots, the memory as a list of facts; no simplifier looks at the goal. First part: frames, facts, what an operation yields. -/
import Derived.Test.YtkdphoacniigjaaSl
import Derived.Orders
import Derived.OrdersHeld
namespace Go.Proofs.Ytkdphoacniigjaa.Gx
open Go.RowKit Mem
set_option linter.unusedVariables false
set_option linter.unusedSimpArgs false

/-! ### the frame -/
abbrev Fr := List (Nat × Value)
def fget : Fr → Nat → Option Value
  | [], _ => none
  | (d, v) :: r, t => bif Nat.beq d t then some v else fget r t
def fput (f : Fr) : Option Nat → Value → Fr
  | some d, v => (d, v) :: f
  | none, _ => f
structure Rel (n : Nat) (a : Act) (f : Fr) : Prop where
  size : a.tmps.size = n
  defers : a.defers = []
  at_ : ∀ t v, t < n → fget f t = some v → a.tmps[t]? = some v
theorem Rel.put {n : Nat} {a : Act} {f : Fr} (h : Rel n a f) (d : Option Nat) (v : Value) : Rel n (a.put d v) (fput f d v) := by
  cases d with
  | none => exact h
  | some d =>
    refine ⟨by simp [Act.put, h.size], h.defers, fun t u ht hu => ?_⟩
    by_cases e : d = t
    · subst e
      simp [fput, fget] at hu
      subst hu
      simp [Act.put, h.size, ht]
    · have e' : Nat.beq d t = false := by
        cases hb : Nat.beq d t with
        | false => rfl
        | true => exact absurd (Nat.eq_of_beq_eq_true hb) e
      simp [fput, fget, e'] at hu
      simpa [Act.put, Array.getElem?_setIfInBounds_ne e] using h.at_ t u ht hu
theorem Rel.put1 {n : Nat} {a : Act} {f : Fr} (h : Rel n a f) {x : Option Nat} {d : Nat} (hd : x = some d) (v : Value) : Rel n (a.put x v) ((d, v) :: f) := by
  subst hd; exact h.put (some d) v
theorem Rel.put0 {n : Nat} {a : Act} {f : Fr} (h : Rel n a f) {x : Option Nat} (hd : x = none) (v : Value) : Rel n (a.put x v) f := by
  subst hd; exact h.put none v
def look (n : Nat) (f : Fr) : Operand → Option Value
  | .tmp t => bif Nat.blt t n then fget f t else none
  | .const v => some v
  | .global g => some (.pointer (some ⟨g, 0, none⟩))
  | .func k => some (.func (.func k) #[] #[])
theorem Rel.look {n : Nat} {a : Act} {f : Fr} (h : Rel n a f) {x : Operand} {v : Value} (hx : look n f x = some v) : a.eval x = v := by
  cases x with
  | tmp t =>
    replace hx : (bif Nat.blt t n then fget f t else none) = some v := hx
    cases hb : Nat.blt t n with
    | false => rw [hb] at hx; cases hx
    | true =>
      rw [hb] at hx
      have ht : t < n := Nat.le_of_ble_eq_true hb
      have := h.at_ t v ht hx
      show a.tmps.getD t undef = v
      simp [this]
  | const u => injection hx
  | global g => injection hx
  | func k => injection hx
/-- What is left of a frame: of the slots that a list names. -/
def FSub (n : Nat) (f : Fr) : Fr → Prop
  | [] => True
  | (t, v) :: r => (Gx.look n f (.tmp t) = some v) ∧ FSub n f r
theorem fsub_get {n : Nat} {f : Fr} : ∀ {g : Fr}, FSub n f g → ∀ t v, t < n → fget g t = some v → fget f t = some v
  | [], _, t, v, _, h => by cases h
  | (d, u) :: r, hs, t, v, ht, h => by
    unfold fget at h
    by_cases e : Nat.beq d t = true
    · rw [e] at h
      have e' := Nat.eq_of_beq_eq_true e
      subst e'
      injection h with h
      subst h
      have h1 : (bif Nat.blt d n then fget f d else none) = some u := hs.1
      have hb : Nat.blt d n = true := Nat.ble_eq_true_of_le ht
      rw [hb] at h1
      exact h1
    · have e' : Nat.beq d t = false := (Bool.eq_false_iff).2 e
      rw [e'] at h
      exact fsub_get hs.2 t v ht h
theorem Rel.sub {n : Nat} {a : Act} {f g : Fr} (h : Rel n a f) (hs : FSub n f g) : Rel n a g := ⟨h.size, h.defers, fun t v ht hg => h.at_ t v ht (fsub_get hs t v ht hg)⟩

/-! ### facts on the memory -/
structure Fact where
  S : Nat → Prop
  p : World → Prop
  loc : ∀ w w' : World, (∀ b, S b → w'.heap[b]? = w.heap[b]?) → p w → p w'
/-- A block that is known whole. -/
def blk (g : Nat) (cs : List Value) (T : TypeId) : Fact := ⟨fun b => b = g, fun w => w.heap[g]? = some (.cells cs.toArray T (0, 0)), fun w w' h hp => (h g rfl).trans hp⟩
def sblk : Option Addr → Nat → Prop := fun A b => ∃ a, A = some a ∧ a.block = b
/-- A slice's elements. -/
def sl {α : Type} [Inhabited α] (A : Option Addr) (sz : Nat) (enc : α → Nat → Value) (L : List α) : Fact :=
  ⟨fun b => 0 < L.length ∧ sblk A b, fun w => Sl w A sz enc L, fun w w' h hp hn => by
    obtain ⟨b, off, e, hc⟩ := hp hn
    exact ⟨b, off, e, fun i hi j hj => by
      rw [← hc i hi j hj]
      exact World.cell?_of_block (h b ⟨hn, _, e, rfl⟩)⟩⟩
/-- Cells side by side. -/
def row (b o : Nat) (cs : List Value) : Fact := ⟨fun k => k = b, fun w => ∀ i v, cs[i]? = some v → w.cell? ⟨b, o + i, none⟩ = some v, fun w w' h hp i v hv => by
  rw [← hp i v hv]; exact World.cell?_of_block (h b rfl)⟩
/-- A slice of the call's own. -/
def own {α : Type} [Inhabited α] (base : Nat) (e : TypeId) (sz : Nat) (v : Value) (enc : α → Nat → Value) (L : List α) : Fact :=
  ⟨fun b => v.ownBlock = some b, fun w => OwnL w base e sz v enc L, fun w w' h hp => by
    unfold OwnL Own at *
    refine ⟨hp.1, ?_⟩
    rcases hp.2 with h1 | ⟨g, cap, cur, h1, h2, h3, h4⟩
    · exact .inl h1
    · exact .inr ⟨g, cap, cur, h1, h2, (h g (by rw [h1]; rfl)).trans h3, h4⟩⟩

structure Kn (E : List Nat) (w0 w : World) (O R : List Fact) : Prop where
  os : w.os = w0.os
  tape : w.tape = w0.tape
  output : w.output = w0.output
  size : w0.heap.size ≤ w.heap.size
  block : ∀ k, k < w0.heap.size → k ∉ E → w.heap[k]? = w0.heap[k]?
  ownS : ∀ φ ∈ O, ∀ b, φ.S b → w0.heap.size ≤ b ∨ b ∈ E
  ltO : ∀ φ ∈ O, ∀ b, φ.S b → b < w.heap.size
  ltR : ∀ φ ∈ R, ∀ b, φ.S b → b < w.heap.size
  pO : ∀ φ ∈ O, φ.p w
  pR : ∀ φ ∈ R, φ.p w
  disO : O.Pairwise fun φ ψ => ∀ b, φ.S b → ¬ ψ.S b
  disR : ∀ φ ∈ O, ∀ ψ ∈ R, ∀ b, φ.S b → ¬ ψ.S b
theorem Kn.start (w0 : World) : Kn [] w0 w0 [] [] := ⟨rfl, rfl, rfl, Nat.le_refl _, fun _ _ _ => rfl, fun _ h => (by cases h), fun _ h => (by cases h), fun _ h => (by cases h), fun _ h => (by cases h), fun _ h => (by cases h), .nil, fun _ h => (by cases h)⟩
section
variable {E : List Nat} {w0 w w' : World} {O R : List Fact}
theorem Kn.toBelow (h : Kn [] w0 w O R) : Below w0.heap.size w0 w := ⟨h.os, h.tape, h.output, h.size, fun k hk => h.block k hk (by simp)⟩
/-- A call, or anything else, that leaves alone what there was; new facts of its own. -/
theorem Kn.fresh (h : Kn E w0 w O R) (hb : Below w.heap.size w w') (N : List Fact) (hN : ∀ φ ∈ N, φ.p w' ∧ ∀ b, φ.S b → w.heap.size ≤ b ∧ b < w'.heap.size) (hd : N.Pairwise fun φ ψ => ∀ b, φ.S b → ¬ ψ.S b) : Kn E w0 w' (N ++ O) R where
  os := hb.os.trans h.os
  tape := hb.tape.trans h.tape
  output := hb.output.trans h.output
  size := Nat.le_trans h.size hb.size
  block k hk hE := (hb.block k (Nat.lt_of_lt_of_le hk h.size)).trans (h.block k hk hE)
  ownS φ hφ b hS := by
    rcases List.mem_append.1 hφ with h1 | h1
    · exact .inl (Nat.le_trans h.size ((hN φ h1).2 b hS).1)
    · exact h.ownS φ h1 b hS
  ltO φ hφ b hS := by
    rcases List.mem_append.1 hφ with h1 | h1
    · exact ((hN φ h1).2 b hS).2
    · exact Nat.lt_of_lt_of_le (h.ltO φ h1 b hS) hb.size
  ltR φ hφ b hS := Nat.lt_of_lt_of_le (h.ltR φ hφ b hS) hb.size
  pO φ hφ := by
    rcases List.mem_append.1 hφ with h1 | h1
    · exact (hN φ h1).1
    · exact φ.loc w w' (fun b hS => hb.block b (h.ltO φ h1 b hS)) (h.pO φ h1)
  pR φ hφ := φ.loc w w' (fun b hS => hb.block b (h.ltR φ hφ b hS)) (h.pR φ hφ)
  disO := by
    rw [List.pairwise_append]
    exact ⟨hd, h.disO, fun φ hφ ψ hψ b h1 h2 => by have := ((hN φ hφ).2 b h1).1; have := h.ltO ψ hψ b h2; omega⟩
  disR φ hφ ψ hψ b h1 h2 := by
    rcases List.mem_append.1 hφ with h3 | h3
    · have := ((hN φ h3).2 b h1).1; have := h.ltR ψ hψ b h2; omega
    · exact h.disR φ h3 ψ hψ b h1 h2
theorem Kn.below (h : Kn E w0 w O R) (hb : Below w.heap.size w w') : Kn E w0 w' O R := h.fresh hb [] (fun _ h => by cases h) .nil
/-- Shared facts more. -/
theorem Kn.addR (h : Kn E w0 w O R) (ψ : Fact) (hp : ψ.p w) (hlt : ∀ b, ψ.S b → b < w.heap.size) (hd : ∀ φ ∈ O, ∀ b, φ.S b → ¬ ψ.S b) : Kn E w0 w O (ψ :: R) where
  os := h.os
  tape := h.tape
  output := h.output
  size := h.size
  block := h.block
  ownS := h.ownS
  ltO := h.ltO
  ltR φ hφ b hS := by
    rcases List.mem_cons.1 hφ with rfl | h1
    · exact hlt b hS
    · exact h.ltR φ h1 b hS
  pO := h.pO
  pR φ hφ := by
    rcases List.mem_cons.1 hφ with rfl | h1
    · exact hp
    · exact h.pR φ h1
  disO := h.disO
  disR φ hφ χ hχ b h1 h2 := by
    rcases List.mem_cons.1 hχ with rfl | h3
    · exact hd φ hφ b h1 h2
    · exact h.disR φ hφ χ h3 b h1 h2
theorem Kn.weak {O' R' : List Fact} (h : Kn E w0 w O R) (hO : O'.Sublist O) (hR : R' ⊆ R) : Kn E w0 w O' R' where
  os := h.os
  tape := h.tape
  output := h.output
  size := h.size
  block := h.block
  ownS φ hφ := h.ownS φ (hO.subset hφ)
  ltO φ hφ := h.ltO φ (hO.subset hφ)
  ltR φ hφ := h.ltR φ (hR hφ)
  pO φ hφ := h.pO φ (hO.subset hφ)
  pR φ hφ := h.pR φ (hR hφ)
  disO := h.disO.sublist hO
  disR φ hφ ψ hψ := h.disR φ (hO.subset hφ) ψ (hR hψ)
/-- One fact of one's own instead of another one. -/
inductive Upd (φ ψ : Fact) : List Fact → List Fact → Prop
  | here (O : List Fact) : Upd φ ψ (φ :: O) (ψ :: O)
  | there (χ : Fact) {O O' : List Fact} (h : Upd φ ψ O O') : Upd φ ψ (χ :: O) (χ :: O')
theorem Upd.mem {φ ψ : Fact} {O O' : List Fact} (h : Upd φ ψ O O') : φ ∈ O := by
  induction h with
  | here O => exact .head _
  | there χ h ih => exact .tail _ ih
theorem Upd.mem' {φ ψ : Fact} {O O' : List Fact} (h : Upd φ ψ O O') {χ : Fact} (hχ : χ ∈ O') : χ = ψ ∨ χ ∈ O := by
  induction h with
  | here O => rcases List.mem_cons.1 hχ with e | e
              · exact .inl e
              · exact .inr (.tail _ e)
  | there ζ h ih => rcases List.mem_cons.1 hχ with e | e
                    · exact .inr (e ▸ .head _)
                    · exact (ih e).imp id (.tail _)
theorem Upd.cases {φ ψ : Fact} {O O' : List Fact} {D : Fact → Fact → Prop} (hs : ∀ x y, D x y → D y x) (h : Upd φ ψ O O') (hp : O.Pairwise D) (hψ : ∀ χ, D φ χ → χ ∈ O → D ψ χ) :
    O'.Pairwise D ∧ (∀ χ ∈ O', χ = ψ ∨ (χ ∈ O ∧ D φ χ)) := by
  induction h with
  | here O =>
    rw [List.pairwise_cons] at hp
    exact ⟨List.pairwise_cons.2 ⟨fun χ hχ => hψ χ (hp.1 χ hχ) (.tail _ hχ), hp.2⟩, fun χ hχ => by
      rcases List.mem_cons.1 hχ with e | e
      · exact .inl e
      · exact .inr ⟨.tail _ e, hp.1 χ e⟩⟩
  | there ζ h ih =>
    rw [List.pairwise_cons] at hp
    obtain ⟨i1, i2⟩ := ih hp.2 (fun χ h1 h2 => hψ χ h1 (.tail _ h2))
    have hz : D φ ζ := hs _ _ (hp.1 φ h.mem)
    refine ⟨List.pairwise_cons.2 ⟨fun χ hχ => ?_, i1⟩, fun χ hχ => ?_⟩
    · rcases i2 χ hχ with e | ⟨e, _⟩
      · rw [e]; exact hs _ _ (hψ ζ hz (.head _))
      · exact hp.1 χ e
    · rcases List.mem_cons.1 hχ with e | e
      · rw [e]; exact .inr ⟨.head _, hz⟩
      · exact (i2 χ e).imp id fun ⟨a, b⟩ => ⟨.tail _ a, b⟩
/-- Something has changed in one fact's blocks alone. -/
theorem Kn.upd {φ ψ : Fact} {O' : List Fact} (h : Kn E w0 w O R) (hu : Upd φ ψ O O') (hos : w'.os = w.os) (ht : w'.tape = w.tape) (ho : w'.output = w.output) (hsz : w.heap.size ≤ w'.heap.size)
    (hbl : ∀ b, b < w.heap.size → ¬ φ.S b → w'.heap[b]? = w.heap[b]?) (hp : ψ.p w') (hS : ∀ b, ψ.S b → (φ.S b ∨ w.heap.size ≤ b) ∧ b < w'.heap.size) : Kn E w0 w' O' R := by
  have hc := hu.cases (D := fun φ ψ => ∀ b, φ.S b → ¬ ψ.S b) (fun x y hd b h1 h2 => hd b h2 h1) h.disO (fun χ hd hχ b h1 h2 => by
    rcases (hS b h1).1 with h3 | h3
    · exact hd b h3 h2
    · have := h.ltO χ hχ b h2; omega)
  exact {
    os := hos.trans h.os
    tape := ht.trans h.tape
    output := ho.trans h.output
    size := Nat.le_trans h.size hsz
    block := fun k hk hE => by
      refine (hbl k (Nat.lt_of_lt_of_le hk h.size) fun hk' => ?_).trans (h.block k hk hE)
      rcases h.ownS φ hu.mem k hk' with h1 | h1
      · omega
      · exact hE h1
    ownS := fun χ hχ b hb => by
      rcases hc.2 χ hχ with e | ⟨e, _⟩
      · subst e
        rcases (hS b hb).1 with h1 | h1
        · exact h.ownS φ hu.mem b h1
        · exact .inl (Nat.le_trans h.size h1)
      · exact h.ownS χ e b hb
    ltO := fun χ hχ b hb => by
      rcases hc.2 χ hχ with e | ⟨e, _⟩
      · subst e; exact (hS b hb).2
      · exact Nat.lt_of_lt_of_le (h.ltO χ e b hb) hsz
    ltR := fun χ hχ b hb => Nat.lt_of_lt_of_le (h.ltR χ hχ b hb) hsz
    pO := fun χ hχ => by
      rcases hc.2 χ hχ with e | ⟨e, hd⟩
      · subst e; exact hp
      · exact χ.loc w w' (fun b hb => hbl b (h.ltO χ e b hb) (fun h1 => hd b h1 hb)) (h.pO χ e)
    pR := fun χ hχ => χ.loc w w' (fun b hb => hbl b (h.ltR χ hχ b hb) (fun h1 => h.disR φ hu.mem χ hχ b h1 hb)) (h.pR χ hχ)
    disO := hc.1
    disR := fun χ hχ ζ hζ b h1 h2 => by
      rcases hc.2 χ hχ with e | ⟨e, _⟩
      · subst e
        rcases (hS b h1).1 with h3 | h3
        · exact h.disR φ hu.mem ζ hζ b h3 h2
        · have := h.ltR ζ hζ b h2; omega
      · exact h.disR χ e ζ hζ b h1 h2 }
/-- A new block. -/
theorem Kn.alloc (h : Kn E w0 w O R) (cs : List Value) (T : TypeId) : Kn E w0 (w.alloc (.cells cs.toArray T)) (blk w.heap.size cs T :: O) R :=
  h.fresh (bel_alloc (Below.refl _ _) _) [_] (fun φ hφ => by
    rcases List.mem_cons.1 hφ with rfl | hφ
    · exact ⟨heap_alloc_new w _, fun b hb => by
        have : b = w.heap.size := hb
        subst this
        exact ⟨Nat.le_refl _, by simp⟩⟩
    · cases hφ) (List.pairwise_singleton _ _)
theorem Kn.store {g i : Nat} {cs : List Value} {T : TypeId} {O' : List Fact} (h : Kn E w0 w O R) (v : Value) (hu : Upd (blk g cs T) (blk g (cs.set i v) T) O O') : Kn E w0 (w.setCell ⟨g, i, none⟩ v) O' R := by
  have hb : w.heap[g]? = some (.cells cs.toArray T (0, 0)) := h.pO _ hu.mem
  refine h.upd hu rfl rfl rfl (by simp [World.setCell]) (fun b hb hne => heap_setCell_other w ⟨g, i, none⟩ b v hne) ?_ (fun b hb => ⟨.inl hb, ?_⟩)
  · show (w.setCell ⟨g, i, none⟩ v).heap[g]? = some (.cells (cs.set i v).toArray T (0, 0))
    rw [heap_setCell_same w g i cs.toArray T v hb]
    simp
  · have : b = g := hb
    subst this
    have := h.ltO _ hu.mem b rfl
    simpa [World.setCell] using this
end
end Go.Proofs.Ytkdphoacniigjaa.Gx
