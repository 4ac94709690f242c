/- A walk by steps that are reckoned: the frame as a list of slots, the memory as a list of facts; no simplifier looks at the goal. -/
import Derived.Test.YtaghmffgoomebaaGreatFlat3
import Derived.Orders
import Derived.OrdersHeld
import Derived.Laws.StructEq
import Derived.Laws.MakeOwn
import Derived.RangeFuncNested
import Derived.RangeFuncLeaves
import Derived.LoopNIn
import Derived.TacticsIn
import Derived.OrdersIn
set_option linter.unusedVariables false
set_option linter.unusedSimpArgs false
namespace Go.Proofs.YtaghmffgoomebaaGreat.Gx
open Go.RowKit Mem
abbrev Fr := List (Nat × Value)
def fget : Fr → Nat → Option Value
 | [], _ => none
 | (d, v) :: r, t => bif Nat.beq d t then some v else fget r t
def fput (f : Fr) : Option Nat → Value → Fr
 | some d, v => (d, v) :: f
 | none, _ => f
structure Rel (n : Nat) (ds : List Deferred) (a : Act) (f : Fr) : Prop where
 size : a.tmps.size = n
 defers : a.defers = ds
 at_ : ∀ t v, t < n → fget f t = some v → a.tmps[t]? = some v
theorem Rel.put {n : Nat} {ds : List Deferred} {a : Act} {f : Fr} (h : Rel n ds a f) (d : Option Nat) (v : Value) : Rel n ds (a.put d v) (fput f d v) := by
 cases d with
 | none => exact h
 | some d =>
   refine ⟨by simp [Act.put, h.size], h.defers, fun t u ht hu => ?_⟩
   by_cases e : d = t
   ·subst e
    simp [fput, fget] at hu
    subst hu
    simp [Act.put, h.size, ht]
   ·have e' : Nat.beq d t = false := by
     cases hb : Nat.beq d t with
     | false => rfl
     | true => exact absurd (Nat.eq_of_beq_eq_true hb) e
    simp [fput, fget, e'] at hu
    simpa [Act.put, Array.getElem?_setIfInBounds_ne e] using h.at_ t u ht hu
theorem Rel.put1 {n : Nat} {ds : List Deferred} {a : Act} {f : Fr} (h : Rel n ds a f) {x : Option Nat} {d : Nat} (hd : x = some d) (v : Value) : Rel n ds (a.put x v) ((d, v) :: f) := by
 subst hd; exact h.put (some d) v
theorem Rel.put0 {n : Nat} {ds : List Deferred} {a : Act} {f : Fr} (h : Rel n ds a f) {x : Option Nat} (hd : x = none) (v : Value) : Rel n ds (a.put x v) f := by
 subst hd; exact h.put none v
def look (n : Nat) (f : Fr) : Operand → Option Value
 | .tmp t => bif Nat.blt t n then fget f t else none
 | .const v => some v
 | .global g => some (.pointer (some ⟨g, 0, none⟩))
 | .func k => some (.func (.func k) #[] #[])
theorem Rel.look {n : Nat} {ds : List Deferred} {a : Act} {f : Fr} (h : Rel n ds a f) {x : Operand} {v : Value} (hx : look n f x = some v) : a.eval x = v := by
 cases x with
 | tmp t =>
   replace hx : (bif Nat.blt t n then fget f t else none) = some v := hx
   cases hb : Nat.blt t n with
   | false => rw [hb] at hx; cases hx
   | true =>
     rw [hb] at hx
     have ht : t < n := Nat.le_of_ble_eq_true hb
     have := h.at_ t v ht hx
     show a.tmps.getD t undef = v
     simp [this]
 | const u => injection hx
 | global g => injection hx
 | func k => injection hx
def FSub (n : Nat) (f : Fr) : Fr → Prop
 | [] => True
 | (t, v) :: r => (Gx.look n f (.tmp t) = some v) ∧ FSub n f r
theorem zjo {n : Nat} {f : Fr} : ∀ {g : Fr}, FSub n f g → ∀ t v, t < n → fget g t = some v → fget f t = some v
 | [], _, t, v, _, h => by cases h
 | (d, u) :: r, hs, t, v, ht, h => by
   unfold fget at h
   by_cases e : Nat.beq d t = true
   ·rw [e] at h
    have e' := Nat.eq_of_beq_eq_true e
    subst e'
    injection h with h
    subst h
    have h1 : (bif Nat.blt d n then fget f d else none) = some u := hs.1
    have hb : Nat.blt d n = true := Nat.ble_eq_true_of_le ht
    rw [hb] at h1
    exact h1
   ·have e' : Nat.beq d t = false := (Bool.eq_false_iff).2 e
    rw [e'] at h
    exact zjo hs.2 t v ht h
theorem Rel.sub {n : Nat} {ds : List Deferred} {a : Act} {f g : Fr} (h : Rel n ds a f) (hs : FSub n f g) : Rel n ds a g := ⟨h.size, h.defers, fun t v ht hg => h.at_ t v ht (zjo hs t v ht hg)⟩
structure Fact where
 S : Nat → Prop
 p : World → Prop
 loc : ∀ w w' : World, (∀ b, S b → w'.heap[b]? = w.heap[b]?) → p w → p w'
def blk (g : Nat) (cs : List Value) (T : TypeId) : Fact := ⟨fun b => b = g, fun w => w.heap[g]? = some (.cells cs.toArray T (0, 0)), fun w w' h hp => (h g rfl).trans hp⟩
def sblk : Option Addr → Nat → Prop := fun A b => ∃ a, A = some a ∧ a.block = b
def sl {α : Type} [Inhabited α] (A : Option Addr) (sz : Nat) (enc : α → Nat → Value) (L : List α) : Fact :=
 ⟨fun b => 0 < L.length ∧ sblk A b, fun w => Sl w A sz enc L, fun w w' h hp hn => by
  obtain ⟨b, off, e, hc⟩ := hp hn
  exact ⟨b, off, e, fun i hi j hj => by
   rw [← hc i hi j hj]
   exact World.cell?_of_block (h b ⟨hn, _, e, rfl⟩)⟩⟩
def row (b o : Nat) (cs : List Value) : Fact := ⟨fun k => k = b, fun w => ∀ i v, cs[i]? = some v → w.cell? ⟨b, o + i, none⟩ = some v, fun w w' h hp i v hv => by
 rw [← hp i v hv]; exact World.cell?_of_block (h b rfl)⟩
def own {α : Type} [Inhabited α] (base : Nat) (e : TypeId) (sz : Nat) (v : Value) (enc : α → Nat → Value) (L : List α) : Fact :=
 ⟨fun b => v.ownBlock = some b, fun w => OwnL w base e sz v enc L, fun w w' h hp => by
  unfold OwnL Mem.Own at *
  refine ⟨hp.1, ?_⟩
  rcases hp.2 with h1 | ⟨g, cap, cur, h1, h2, h3, h4⟩
  ·exact .inl h1
  ·exact .inr ⟨g, cap, cur, h1, h2, (h g (by rw [h1]; rfl)).trans h3, h4⟩⟩
structure Kn (E : List Nat) (w0 w : World) (O R : List Fact) : Prop where
 os : w.os = w0.os
 tape : w.tape = w0.tape
 output : w.output = w0.output
 size : w0.heap.size ≤ w.heap.size
 block : ∀ k, k < w0.heap.size → k ∉ E → w.heap[k]? = w0.heap[k]?
 ownS : ∀ φ ∈ O, ∀ b, φ.S b → w0.heap.size ≤ b ∨ b ∈ E
 ltO : ∀ φ ∈ O, ∀ b, φ.S b → b < w.heap.size
 ltR : ∀ φ ∈ R, ∀ b, φ.S b → b < w.heap.size
 pO : ∀ φ ∈ O, φ.p w
 pR : ∀ φ ∈ R, φ.p w
 disO : O.Pairwise fun φ ψ => ∀ b, φ.S b → ¬ ψ.S b
 disR : ∀ φ ∈ O, ∀ ψ ∈ R, ∀ b, φ.S b → ¬ ψ.S b
theorem Kn.start (w0 : World) : Kn [] w0 w0 [] [] := ⟨rfl, rfl, rfl, Nat.le_refl _, fun _ _ _ => rfl, fun _ h => (by cases h), fun _ h => (by cases h), fun _ h => (by cases h), fun _ h => (by cases h), fun _ h => (by cases h), .nil, fun _ h => (by cases h)⟩
section
variable {E : List Nat} {w0 w w' : World} {O R : List Fact}
theorem Kn.toBelow (h : Kn [] w0 w O R) : Below w0.heap.size w0 w := ⟨h.os, h.tape, h.output, h.size, fun k hk => h.block k hk (by simp)⟩
theorem Kn.fresh (h : Kn E w0 w O R) (hb : Below w.heap.size w w') (N : List Fact) (hN : ∀ φ ∈ N, φ.p w' ∧ ∀ b, φ.S b → w.heap.size ≤ b ∧ b < w'.heap.size) (hd : N.Pairwise fun φ ψ => ∀ b, φ.S b → ¬ ψ.S b) : Kn E w0 w' (N ++ O) R where
 os := hb.os.trans h.os
 tape := hb.tape.trans h.tape
 output := hb.output.trans h.output
 size := Nat.le_trans h.size hb.size
 block k hk hE := (hb.block k (Nat.lt_of_lt_of_le hk h.size)).trans (h.block k hk hE)
 ownS φ hφ b hS := by
  rcases List.mem_append.1 hφ with h1 | h1
  ·exact .inl (Nat.le_trans h.size ((hN φ h1).2 b hS).1)
  ·exact h.ownS φ h1 b hS
 ltO φ hφ b hS := by
  rcases List.mem_append.1 hφ with h1 | h1
  ·exact ((hN φ h1).2 b hS).2
  ·exact Nat.lt_of_lt_of_le (h.ltO φ h1 b hS) hb.size
 ltR φ hφ b hS := Nat.lt_of_lt_of_le (h.ltR φ hφ b hS) hb.size
 pO φ hφ := by
  rcases List.mem_append.1 hφ with h1 | h1
  ·exact (hN φ h1).1
  ·exact φ.loc w w' (fun b hS => hb.block b (h.ltO φ h1 b hS)) (h.pO φ h1)
 pR φ hφ := φ.loc w w' (fun b hS => hb.block b (h.ltR φ hφ b hS)) (h.pR φ hφ)
 disO := by
  rw [List.pairwise_append]
  exact ⟨hd, h.disO, fun φ hφ ψ hψ b h1 h2 => by have := ((hN φ hφ).2 b h1).1; have := h.ltO ψ hψ b h2; omega⟩
 disR φ hφ ψ hψ b h1 h2 := by
  rcases List.mem_append.1 hφ with h3 | h3
  ·have := ((hN φ h3).2 b h1).1; have := h.ltR ψ hψ b h2; omega
  ·exact h.disR φ h3 ψ hψ b h1 h2
theorem Kn.below (h : Kn E w0 w O R) (hb : Below w.heap.size w w') : Kn E w0 w' O R := h.fresh hb [] (fun _ h => by cases h) .nil
theorem Kn.addR (h : Kn E w0 w O R) (ψ : Fact) (hp : ψ.p w) (hlt : ∀ b, ψ.S b → b < w.heap.size) (hd : ∀ φ ∈ O, ∀ b, φ.S b → ¬ ψ.S b) : Kn E w0 w O (ψ :: R) where
 os := h.os
 tape := h.tape
 output := h.output
 size := h.size
 block := h.block
 ownS := h.ownS
 ltO := h.ltO
 ltR φ hφ b hS := by
  rcases List.mem_cons.1 hφ with rfl | h1
  ·exact hlt b hS
  ·exact h.ltR φ h1 b hS
 pO := h.pO
 pR φ hφ := by
  rcases List.mem_cons.1 hφ with rfl | h1
  ·exact hp
  ·exact h.pR φ h1
 disO := h.disO
 disR φ hφ χ hχ b h1 h2 := by
  rcases List.mem_cons.1 hχ with rfl | h3
  ·exact hd φ hφ b h1 h2
  ·exact h.disR φ hφ χ h3 b h1 h2
theorem Kn.weak {O' R' : List Fact} (h : Kn E w0 w O R) (hO : O'.Sublist O) (hR : R' ⊆ R) : Kn E w0 w O' R' where
 os := h.os
 tape := h.tape
 output := h.output
 size := h.size
 block := h.block
 ownS φ hφ := h.ownS φ (hO.subset hφ)
 ltO φ hφ := h.ltO φ (hO.subset hφ)
 ltR φ hφ := h.ltR φ (hR hφ)
 pO φ hφ := h.pO φ (hO.subset hφ)
 pR φ hφ := h.pR φ (hR hφ)
 disO := h.disO.sublist hO
 disR φ hφ ψ hψ := h.disR φ (hO.subset hφ) ψ (hR hψ)
inductive Upd (φ ψ : Fact) : List Fact → List Fact → Prop
 | here (O : List Fact) : Upd φ ψ (φ :: O) (ψ :: O)
 | there (χ : Fact) {O O' : List Fact} (h : Upd φ ψ O O') : Upd φ ψ (χ :: O) (χ :: O')
theorem Upd.mem {φ ψ : Fact} {O O' : List Fact} (h : Upd φ ψ O O') : φ ∈ O := by
 induction h with
 | here O => exact .head _
 | there χ h ih => exact .tail _ ih
theorem Upd.mem' {φ ψ : Fact} {O O' : List Fact} (h : Upd φ ψ O O') {χ : Fact} (hχ : χ ∈ O') : χ = ψ ∨ χ ∈ O := by
 induction h with
 | here O => rcases List.mem_cons.1 hχ with e | e
             ·exact .inl e
             ·exact .inr (.tail _ e)
 | there ζ h ih => rcases List.mem_cons.1 hχ with e | e
                   ·exact .inr (e ▸ .head _)
                   ·exact (ih e).imp id (.tail _)
theorem Upd.cases {φ ψ : Fact} {O O' : List Fact} {D : Fact → Fact → Prop} (hs : ∀ x y, D x y → D y x) (h : Upd φ ψ O O') (hp : O.Pairwise D) (hψ : ∀ χ, D φ χ → χ ∈ O → D ψ χ) :
 O'.Pairwise D ∧ (∀ χ ∈ O', χ = ψ ∨ (χ ∈ O ∧ D φ χ)) := by
 induction h with
 | here O =>
   rw [List.pairwise_cons] at hp
   exact ⟨List.pairwise_cons.2 ⟨fun χ hχ => hψ χ (hp.1 χ hχ) (.tail _ hχ), hp.2⟩, fun χ hχ => by
    rcases List.mem_cons.1 hχ with e | e
    ·exact .inl e
    ·exact .inr ⟨.tail _ e, hp.1 χ e⟩⟩
 | there ζ h ih =>
   rw [List.pairwise_cons] at hp
   obtain ⟨i1, i2⟩ := ih hp.2 (fun χ h1 h2 => hψ χ h1 (.tail _ h2))
   have hz : D φ ζ := hs _ _ (hp.1 φ h.mem)
   refine ⟨List.pairwise_cons.2 ⟨fun χ hχ => ?_, i1⟩, fun χ hχ => ?_⟩
   ·rcases i2 χ hχ with e | ⟨e, _⟩
    ·rw [e]; exact hs _ _ (hψ ζ hz (.head _))
    ·exact hp.1 χ e
   ·rcases List.mem_cons.1 hχ with e | e
    ·rw [e]; exact .inr ⟨.head _, hz⟩
    ·exact (i2 χ e).imp id fun ⟨a, b⟩ => ⟨.tail _ a, b⟩
theorem Kn.upd {φ ψ : Fact} {O' : List Fact} (h : Kn E w0 w O R) (hu : Upd φ ψ O O') (hos : w'.os = w.os) (ht : w'.tape = w.tape) (ho : w'.output = w.output) (hsz : w.heap.size ≤ w'.heap.size)
 (hbl : ∀ b, b < w.heap.size → ¬ φ.S b → w'.heap[b]? = w.heap[b]?) (hp : ψ.p w') (hS : ∀ b, ψ.S b → (φ.S b ∨ w.heap.size ≤ b) ∧ b < w'.heap.size) : Kn E w0 w' O' R := by
 have hc := hu.cases (D := fun φ ψ => ∀ b, φ.S b → ¬ ψ.S b) (fun x y hd b h1 h2 => hd b h2 h1) h.disO (fun χ hd hχ b h1 h2 => by
  rcases (hS b h1).1 with h3 | h3
  ·exact hd b h3 h2
  ·have := h.ltO χ hχ b h2; omega)
 exact {
  os := hos.trans h.os
  tape := ht.trans h.tape
  output := ho.trans h.output
  size := Nat.le_trans h.size hsz
  block := fun k hk hE => by
   refine (hbl k (Nat.lt_of_lt_of_le hk h.size) fun hk' => ?_).trans (h.block k hk hE)
   rcases h.ownS φ hu.mem k hk' with h1 | h1
   ·omega
   ·exact hE h1
  ownS := fun χ hχ b hb => by
   rcases hc.2 χ hχ with e | ⟨e, _⟩
   ·subst e
    rcases (hS b hb).1 with h1 | h1
    ·exact h.ownS φ hu.mem b h1
    ·exact .inl (Nat.le_trans h.size h1)
   ·exact h.ownS χ e b hb
  ltO := fun χ hχ b hb => by
   rcases hc.2 χ hχ with e | ⟨e, _⟩
   ·subst e; exact (hS b hb).2
   ·exact Nat.lt_of_lt_of_le (h.ltO χ e b hb) hsz
  ltR := fun χ hχ b hb => Nat.lt_of_lt_of_le (h.ltR χ hχ b hb) hsz
  pO := fun χ hχ => by
   rcases hc.2 χ hχ with e | ⟨e, hd⟩
   ·subst e; exact hp
   ·exact χ.loc w w' (fun b hb => hbl b (h.ltO χ e b hb) (fun h1 => hd b h1 hb)) (h.pO χ e)
  pR := fun χ hχ => χ.loc w w' (fun b hb => hbl b (h.ltR χ hχ b hb) (fun h1 => h.disR φ hu.mem χ hχ b h1 hb)) (h.pR χ hχ)
  disO := hc.1
  disR := fun χ hχ ζ hζ b h1 h2 => by
   rcases hc.2 χ hχ with e | ⟨e, _⟩
   ·subst e
    rcases (hS b h1).1 with h3 | h3
    ·exact h.disR φ hu.mem ζ hζ b h3 h2
    ·have := h.ltR ζ hζ b h2; omega
   ·exact h.disR χ e ζ hζ b h1 h2 }
theorem Kn.alloc (h : Kn E w0 w O R) (cs : List Value) (T : TypeId) : Kn E w0 (w.alloc (.cells cs.toArray T)) (blk w.heap.size cs T :: O) R :=
 h.fresh (zaF (Below.refl _ _) _) [_] (fun φ hφ => by
  rcases List.mem_cons.1 hφ with rfl | hφ
  ·exact ⟨heap_alloc_new w _, fun b hb => by
    have : b = w.heap.size := hb
    subst this
    exact ⟨Nat.le_refl _, by simp⟩⟩
  ·cases hφ) (List.pairwise_singleton _ _)
theorem Kn.store {g i : Nat} {cs : List Value} {T : TypeId} {O' : List Fact} (h : Kn E w0 w O R) (v : Value) (hu : Upd (blk g cs T) (blk g (cs.set i v) T) O O') : Kn E w0 (w.setCell ⟨g, i, none⟩ v) O' R := by
 have hb : w.heap[g]? = some (.cells cs.toArray T (0, 0)) := h.pO _ hu.mem
 refine h.upd hu rfl rfl rfl (by simp [World.setCell]) (fun b hb hne => heap_setCell_other w ⟨g, i, none⟩ b v hne) ?_ (fun b hb => ⟨.inl hb, ?_⟩)
 ·show (w.setCell ⟨g, i, none⟩ v).heap[g]? = some (.cells (cs.set i v).toArray T (0, 0))
  rw [heap_setCell_same w g i cs.toArray T v hb]
  simp
 ·have : b = g := hb
  subst this
  have := h.ltO _ hu.mem b rfl
  simpa [World.setCell] using this
end
end Go.Proofs.YtaghmffgoomebaaGreat.Gx
namespace Go.Proofs.YtaghmffgoomebaaGreat.Gx
open Go.RowKit Mem
def kc : IntKind → Nat
 | .i8 => 0 | .i16 => 1 | .i32 => 2 | .i64 => 3 | .u8 => 4 | .u16 => 5 | .u32 => 6 | .u64 => 7
theorem zlD {k k' : IntKind} (h : Nat.beq (kc k) (kc k') = true) : k = k' := by
 cases k <;> cases k' <;> first | rfl | (exact absurd h (by decide))
inductive TD where
 | int (k : IntKind) | bool | str | map | iface | func
 | ptr (esz : Nat)
 | struct (offs : List (Nat × Nat × Bool))      -- of each field: where, how many cells, whether it is a struct or an array
 | slice (e esz : Nat)
 | array (n e esz : Nat)
structure Ty where
 t : Nat
 d : TD
 sz : Nat
 z : List Value
abbrev Tab := List Ty
def tfind : Tab → Nat → Option Ty
 | [], _ => none
 | ty :: r, t => bif Nat.beq ty.t t then some ty else tfind r t
def szIs (P : Program) (t n : Nat) : Bool := match P.info? t with | some i => Nat.beq i.size n | none => false
def aggT (P : Program) (t : Nat) : Bool := match P.underlying t with | some (.struct _) => true | some (.array _ _) => true | _ => false
def hasU (P : Program) (t : Nat) : Bool := match P.underlying t with | some _ => true | none => false
def beqB : Bool → Bool → Bool | true, true => true | false, false => true | _, _ => false
def offOk (P : Program) : List (Nat × Nat × Bool) → List Field → Bool
 | [], [] => true
 | [], _ :: _ => false
 | _ :: _, [] => false
 | (o, n, g) :: os, f :: fs => Nat.beq f.offset o && (szIs P f.type n && !(Nat.beq n 0)) && (beqB (aggT P f.type) g && hasU P f.type) && offOk P os fs
def chkD (P : Program) (t : Nat) (d : TD) : Bool :=
 match d, P.underlying t with
 | .int k, some (.int k') => Nat.beq (kc k) (kc k')
 | .bool, some .bool => true
 | .str, some .string => true
 | .map, some (.map _ _) => true
 | .iface, some (.interface _) => true
 | .func, some (.func _ _ _) => true
 | .ptr n, some (.pointer e) => szIs P e n
 | .struct os, some (.struct fs) => offOk P os fs.toList
 | .slice e n, some (.slice e') => Nat.beq e e' && szIs P e n
 | .array m e n, some (.array m' e') => Nat.beq m m' && Nat.beq e e' && szIs P e n
 | _, _ => false
structure TOk (P : Program) (ty : Ty) : Prop where
 d : chkD P ty.t ty.d = true
 sz : szIs P ty.t ty.sz = true
 z : ((P.info? ty.t).bind (·.zero)).map (fun v => v.cells) = some ty.z.toArray
def TabOk (P : Program) : Tab → Prop
 | [] => True
 | ty :: r => TOk P ty ∧ TabOk P r
theorem zal {P : Program} {t : Nat} {ty : Ty} : ∀ {T : Tab}, TabOk P T → tfind T t = some ty → ty.t = t ∧ TOk P ty
 | [], _, h => by cases h
 | u :: r, hT, h => by
   unfold tfind at h
   cases e : Nat.beq u.t t with
   | true =>
     rw [e] at h
     injection h with h
     subst h
     exact ⟨Nat.eq_of_beq_eq_true e, hT.1⟩
   | false =>
     rw [e] at h
     exact zal hT.2 h
section
variable {P : Program} {t : Nat}
theorem zcq {n : Nat} (h : szIs P t n = true) : ∃ i, P.info? t = some i ∧ i.size = n := by
 unfold szIs at h
 split at h
 ·rename_i i hi; exact ⟨i, hi, Nat.eq_of_beq_eq_true h⟩
 ·cases h
theorem run_sizeOf {n : Nat} (h : szIs P t n = true) (w : World) : (sizeOf t).run P w = .ok n w := by
 obtain ⟨i, h1, h2⟩ := zcq h
 simp [sizeOf, typeInfo, h1, h2]
theorem zmD {k : IntKind} (h : chkD P t (.int k) = true) : P.underlying t = some (.int k) := by
 cases hu : P.underlying t with
 | none => simp [chkD, hu] at h
 | some d => cases d <;> simp only [chkD, hu] at h <;> first | (cases h; done) | rw [zlD h]
theorem zgC (h : chkD P t .bool = true) : P.underlying t = some .bool := by
 cases hu : P.underlying t with
 | none => simp [chkD, hu] at h
 | some d => cases d <;> simp only [chkD, hu] at h <;> first | (cases h; done) | rfl
theorem zgB (h : chkD P t .str = true) : P.underlying t = some .string := by
 cases hu : P.underlying t with
 | none => simp [chkD, hu] at h
 | some d => cases d <;> simp only [chkD, hu] at h <;> first | (cases h; done) | rfl
theorem zmC (h : chkD P t .map = true) : ∃ k e, P.underlying t = some (.map k e) := by
 cases hu : P.underlying t with
 | none => simp [chkD, hu] at h
 | some d => cases d <;> simp only [chkD, hu] at h <;> first | (cases h; done) | exact ⟨_, _, rfl⟩
theorem ze8 {n : Nat} (h : chkD P t (.ptr n) = true) : ∃ e, P.underlying t = some (.pointer e) ∧ szIs P e n = true := by
 cases hu : P.underlying t with
 | none => simp [chkD, hu] at h
 | some d => cases d <;> simp only [chkD, hu] at h <;> first | (cases h; done) | exact ⟨_, rfl, h⟩
theorem zc4 {os : List (Nat × Nat × Bool)} (h : chkD P t (.struct os) = true) : ∃ fs, P.underlying t = some (.struct fs) ∧ offOk P os fs.toList = true := by
 cases hu : P.underlying t with
 | none => simp [chkD, hu] at h
 | some d => cases d <;> simp only [chkD, hu] at h <;> first | (cases h; done) | exact ⟨_, rfl, h⟩
theorem za7 {e n : Nat} (h : chkD P t (.slice e n) = true) : P.underlying t = some (.slice e) ∧ szIs P e n = true := by
 cases hu : P.underlying t with
 | none => simp [chkD, hu] at h
 | some d =>
   cases d <;> simp only [chkD, hu] at h <;> first | (cases h; done) | skip
   rw [Bool.and_eq_true] at h
   rw [Nat.eq_of_beq_eq_true h.1] at *
   exact ⟨rfl, h.2⟩
theorem zdQ {m e n : Nat} (h : chkD P t (.array m e n) = true) : P.underlying t = some (.array m e) ∧ szIs P e n = true := by
 cases hu : P.underlying t with
 | none => simp [chkD, hu] at h
 | some d =>
   cases d <;> simp only [chkD, hu] at h <;> first | (cases h; done) | skip
   rw [Bool.and_eq_true, Bool.and_eq_true] at h
   rw [Nat.eq_of_beq_eq_true h.1.1, Nat.eq_of_beq_eq_true h.1.2] at *
   exact ⟨rfl, h.2⟩
theorem zp7 {a b : Bool} (h : beqB a b = true) : a = b := by cases a <;> cases b <;> first | rfl | cases h
theorem zdT (h : hasU P t = true) (w : World) : (isAgg t).run P w = .ok (aggT P t) w := by
 unfold hasU at h
 cases hu : P.underlying t with
 | none => rw [hu] at h; cases h
 | some d => unfold isAgg aggT; cases d <;> simp [run_underlying hu, hu]
theorem zcK {P : Program} : ∀ {os : List (Nat × Nat × Bool)} {fs : List Field}, offOk P os fs = true → ∀ {i o n : Nat} {g : Bool}, os[i]? = some (o, n, g) → ∃ f, fs[i]? = some f ∧ f.offset = o ∧ szIs P f.type n = true ∧ n ≠ 0 ∧ aggT P f.type = g ∧ hasU P f.type = true
 | [], _, _, i, o, n, g, h => by simp at h
 | _ :: _, [], h, _, _, _, _, _ => by simp [offOk] at h
 | (a, m, q) :: os, f :: fs, h, i, o, n, g, hi => by
   unfold offOk at h
   rw [Bool.and_eq_true, Bool.and_eq_true, Bool.and_eq_true, Bool.and_eq_true, Bool.and_eq_true] at h
   obtain ⟨⟨⟨h1, h2, h3⟩, h4, h5⟩, h6⟩ := h
   cases i with
   | zero =>
     simp at hi
     obtain ⟨rfl, rfl, rfl⟩ := hi
     exact ⟨f, rfl, Nat.eq_of_beq_eq_true h1, h2, (fun e => by rw [e] at h3; simp at h3), zp7 h4, h5⟩
   | succ i => exact zcK h6 (by simpa using hi)
def agg? : TD → Bool
 | .struct _ | .array _ _ _ => true
 | _ => false
theorem zkM {d : TD} (h : chkD P t d = true) (w : World) : (isAgg t).run P w = .ok (agg? d) w := by
 unfold isAgg
 cases d with
 | int k => simp [run_underlying (zmD h), agg?]
 | bool => simp [run_underlying (zgC h), agg?]
 | str => simp [run_underlying (zgB h), agg?]
 | map => obtain ⟨_, _, h⟩ := zmC h; simp [run_underlying h, agg?]
 | ptr n => obtain ⟨_, h, _⟩ := ze8 h; simp [run_underlying h, agg?]
 | struct os => obtain ⟨_, h, _⟩ := zc4 h; simp [run_underlying h, agg?]
 | slice e n => simp [run_underlying (za7 h).1, agg?]
 | array m e n => simp [run_underlying (zdQ h).1, agg?]
 | iface =>
   cases hu : P.underlying t with
   | none => simp [chkD, hu] at h
   | some d => cases d <;> simp only [chkD, hu] at h <;> first | (cases h; done) | simp [run_underlying hu, agg?]
 | func =>
   cases hu : P.underlying t with
   | none => simp [chkD, hu] at h
   | some d => cases d <;> simp only [chkD, hu] at h <;> first | (cases h; done) | simp [run_underlying hu, agg?]
def inR (k : IntKind) (x : Int) : Prop :=
 match k with
 | .i8 => -128 ≤ x ∧ x ≤ 127 | .i16 => -32768 ≤ x ∧ x ≤ 32767 | .i32 => -2147483648 ≤ x ∧ x ≤ 2147483647 | .i64 => -9223372036854775808 ≤ x ∧ x ≤ 9223372036854775807
 | .u8 => 0 ≤ x ∧ x ≤ 255 | .u16 => 0 ≤ x ∧ x ≤ 65535 | .u32 => 0 ≤ x ∧ x ≤ 4294967295 | .u64 => 0 ≤ x ∧ x ≤ 18446744073709551615
theorem ziw {k : IntKind} {x : Int} (h : inR k x) : k.wrap x = x := by
 cases k <;> simp only [inR] at h <;> simp only [IntKind.wrap, IntKind.bits, IntKind.signed] <;> simp <;> omega
def ari (nw : Bool) (k : IntKind) (x : Int) : Value × Prop := bif nw then (.int k x, inR k x) else (.int k (k.wrap x), True)
theorem zfc {nw : Bool} {k : IntKind} {x : Int} (h : (ari nw k x).2) : (ari nw k x).1 = .int k (k.wrap x) := by
 cases nw with
 | false => rfl
 | true => show Value.int k x = _; rw [ziw h]
noncomputable def tB (p : Prop) : Bool := @decide p (Classical.propDecidable p)
theorem zed (p : Prop) [h : Decidable p] : tB p = decide p := by
 unfold tB
 by_cases hp : p <;> simp [hp]
theorem zan {p : Prop} (h : p) : tB p = true := by unfold tB; simp [h]
theorem zaj {p : Prop} (h : ¬ p) : tB p = false := by unfold tB; simp [h]
theorem zaQ {p : Prop} : tB p = true ↔ p := by unfold tB; simp
theorem zbU {p q : Prop} (h : p ↔ q) : tB p = tB q := by rw [propext h]
theorem zlb {p : Prop} : (!tB p) = tB (¬ p) := by
 by_cases h : p
 ·rw [zan h, zaj (fun h' => h' h)]; rfl
 ·rw [zaj h, zan h]; rfl
theorem zcW {a b : Bool} (h : a = true ↔ b = true) : Ending.returned (.bool a) = .returned (.bool b) := by rw [Bool.eq_iff_iff.2 h]
noncomputable def evInt (nw : Bool) (op : BinOp) (k : IntKind) (a b : Int) : Option (Value × Prop) :=
 match op with
 | .add => some (ari nw k (a + b))
 | .sub => some (ari nw k (a - b))
 | .mul => some (ari nw k (a * b))
 | .eql => some (.bool (tB (a = b)), True)
 | .neq => some (.bool (tB (¬ a = b)), True)
 | .lss => some (.bool (tB (a < b)), True)
 | .leq => some (.bool (tB (a ≤ b)), True)
 | .gtr => some (.bool (tB (b < a)), True)
 | .geq => some (.bool (tB (b ≤ a)), True)
 | .quo => bif nw then some (.int k (a / b), 0 ≤ a ∧ 0 < b ∧ inR k (a / b)) else some (.int k (k.wrap (a.tdiv b)), b ≠ 0)
 | .rem => bif nw then some (.int k (a % b), 0 ≤ a ∧ 0 < b) else some (.int k (a.tmod b), b ≠ 0)
 | _ => none
theorem zif {nw : Bool} {op : BinOp} {k : IntKind} {a b : Int} {v : Value} {p : Prop} (h : evInt nw op k a b = some (v, p)) (hp : p) (t : TypeId) (w : World) : (binOp op t (.int k a) (.int k b)).run P w = .ok v w := by
 cases op <;> simp only [evInt] at h <;> first | (cases h; done) | skip
 case add =>
  have e := Option.some.inj h
  obtain ⟨rfl, rfl⟩ : v = (ari nw k (a + b)).1 ∧ p = (ari nw k (a + b)).2 := by rw [e]; exact ⟨rfl, rfl⟩
  rw [zfc hp]
  simp [binOp, Op.intArith]
 case sub =>
  have e := Option.some.inj h
  obtain ⟨rfl, rfl⟩ : v = (ari nw k (a - b)).1 ∧ p = (ari nw k (a - b)).2 := by rw [e]; exact ⟨rfl, rfl⟩
  rw [zfc hp]
  simp [binOp, Op.intArith]
 case mul =>
  have e := Option.some.inj h
  obtain ⟨rfl, rfl⟩ : v = (ari nw k (a * b)).1 ∧ p = (ari nw k (a * b)).2 := by rw [e]; exact ⟨rfl, rfl⟩
  rw [zfc hp]
  simp [binOp, Op.intArith]
 case quo =>
  cases nw with
  | true =>
    simp at h
    obtain ⟨h1, h2⟩ := h
    rw [← h2] at hp
    obtain ⟨p1, p2, p3⟩ := hp
    rw [← h1]
    have : b ≠ 0 := by omega
    simp [binOp, Op.intDiv, this]
    rw [Int.tdiv_eq_ediv_of_nonneg p1, ziw p3]
  | false =>
    simp at h
    obtain ⟨h1, h2⟩ := h
    rw [← h2] at hp
    rw [← h1]
    simp [binOp, Op.intDiv, hp]
 case rem =>
  cases nw with
  | true =>
    simp at h
    obtain ⟨h1, h2⟩ := h
    rw [← h2] at hp
    obtain ⟨p1, p2⟩ := hp
    rw [← h1]
    have : b ≠ 0 := by omega
    simp [binOp, Op.intDiv, this]
    rw [Int.tmod_eq_emod_of_nonneg p1]
  | false =>
    simp at h
    obtain ⟨h1, h2⟩ := h
    rw [← h2] at hp
    rw [← h1]
    simp [binOp, Op.intDiv, hp]
 all_goals (injection h with h; injection h with h1 h2; subst h1; rw [zed]; simp [binOp, Op.intCmp]; try rfl)
theorem zfF (hu : P.underlying t = some .bool) (a b : Bool) (w : World) : (Op.equal t (.bool a) (.bool b)).run P w = .ok (a == b) w := by
 show (Op.equalIn (9999 + 1) t (.bool a) (.bool b)).run P w = _
 generalize 9999 = d
 unfold Op.equalIn
 simp only [Sem.run_bind, run_underlying hu, Result.andThen_ok]
 rfl
theorem zfE {e : TypeId} (hu : P.underlying t = some (.pointer e)) (a : Addr) (w : World) : (Op.equal t (.pointer (some a)) (.pointer none)).run P w = .ok false w := by
 show (Op.equalIn (9999 + 1) t (.pointer (some a)) (.pointer none)).run P w = _
 generalize 9999 = d
 unfold Op.equalIn
 simp only [Sem.run_bind, run_underlying hu, Result.andThen_ok]
 rfl
theorem zfD {e : TypeId} (hu : P.underlying t = some (.pointer e)) (w : World) : (Op.equal t (.pointer none) (.pointer none)).run P w = .ok true w := by
 show (Op.equalIn (9999 + 1) t (.pointer none) (.pointer none)).run P w = _
 generalize 9999 = d
 unfold Op.equalIn
 simp only [Sem.run_bind, run_underlying hu, Result.andThen_ok]
 rfl
theorem zgE {x y : Value} {b : Bool} (w : World) (he : binOp .eql t x y = do pure (.bool (← Op.equal t x y))) (h : (Op.equal t x y).run P w = .ok b w) : (binOp .eql t x y).run P w = .ok (.bool b) w := by
 rw [he, Sem.run_bind, h]; rfl
theorem zir {x y : Value} {b : Bool} (w : World) (he : binOp .neq t x y = do pure (.bool (!(← Op.equal t x y)))) (h : (Op.equal t x y).run P w = .ok b w) : (binOp .neq t x y).run P w = .ok (.bool (!b)) w := by
 rw [he, Sem.run_bind, h]; rfl
noncomputable def evBin (T : Tab) (nw : Bool) (op : BinOp) (t : Nat) (x y : Value) : Option (Value × Prop) :=
 match x, y with
 | .int k a, .int k' b =>
   match op with
   | .shl => some ((ari nw k (a * 2 ^ (min b.toNat k.bits))).1, 0 ≤ b ∧ (ari nw k (a * 2 ^ (min b.toNat k.bits))).2)
   | .shr => some (.int k (a.fdiv (2 ^ (min b.toNat k.bits))), 0 ≤ b)
   | _ => bif Nat.beq (kc k) (kc k') then evInt nw op k a b else none
 | .bool a, .bool b =>
   match op, tfind T t with
   | .eql, some ⟨_, .bool, _, _⟩ => some (.bool (tB (a = b)), True)
   | .neq, some ⟨_, .bool, _, _⟩ => some (.bool (tB (¬ a = b)), True)
   | _, _ => none
 | .pointer (some _), .pointer none =>
   match op, tfind T t with
   | .eql, some ⟨_, .ptr _, _, _⟩ => some (.bool false, True)
   | .neq, some ⟨_, .ptr _, _, _⟩ => some (.bool true, True)
   | _, _ => none
 | .pointer none, .pointer none =>
   match op, tfind T t with
   | .eql, some ⟨_, .ptr _, _, _⟩ => some (.bool true, True)
   | .neq, some ⟨_, .ptr _, _, _⟩ => some (.bool false, True)
   | _, _ => none
 | _, _ => none
theorem zig {T : Tab} (hT : TabOk P T) {nw : Bool} {op : BinOp} {x y : Value} {v : Value} {p : Prop} (h : evBin T nw op t x y = some (v, p)) (hp : p) (xo yo : Operand) (w : World) :
 (do eqGuard op t xo yo x y; binOp op t x y : Sem Value).run P w = .ok v w := by
 unfold evBin at h
 split at h
 ·rename_i k a k' b
  have hg : (eqGuard op t xo yo (.int k a) (.int k' b)).run P w = .ok () w := by
   unfold eqGuard
   split <;> rfl
  rw [Sem.run_bind, hg]
  split at h
  ·have e := Option.some.inj h
   injection e with e1 e2
   rw [← e2] at hp
   rw [← e1, zfc hp.2]
   have hb : ¬ b < 0 := by omega
   simp [binOp, Op.shift, hb]
  ·have e := Option.some.inj h
   injection e with e1 e2
   rw [← e2] at hp
   rw [← e1]
   have hb : ¬ b < 0 := by omega
   simp [binOp, Op.shift, hb]
  ·cases hk : Nat.beq (kc k) (kc k') with
   | false => rw [hk] at h; cases h
   | true =>
     rw [hk] at h
     rw [← zlD hk]
     exact zif h hp t w
 ·rename_i a b
  have hg : (eqGuard op t xo yo (.bool a) (.bool b)).run P w = .ok () w := by
   unfold eqGuard
   split <;> rfl
  rw [Sem.run_bind, hg]
  split at h
  ·rename_i tt s z hf
   have hu := zgC (zal hT hf).2.d
   rw [(zal hT hf).1] at hu
   have e := Option.some.inj h
   injection e with e1 e2
   subst e1
   rw [zed]
   exact zgE w rfl (zfF hu a b w)
  ·rename_i tt s z hf
   have hu := zgC (zal hT hf).2.d
   rw [(zal hT hf).1] at hu
   have e := Option.some.inj h
   injection e with e1 e2
   subst e1
   rw [← zlb, zed]
   exact zir w rfl (zfF hu a b w)
  ·cases h
 ·rename_i a
  have hg : (eqGuard op t xo yo (.pointer (some a)) (.pointer none)).run P w = .ok () w := by
   unfold eqGuard
   split <;> rfl
  rw [Sem.run_bind, hg]
  split at h
  ·rename_i tt n s z hf
   obtain ⟨e, hu, _⟩ := ze8 (zal hT hf).2.d
   rw [(zal hT hf).1] at hu
   have e := Option.some.inj h
   injection e with e1 e2
   subst e1
   exact zgE w rfl (zfE hu a w)
  ·rename_i tt n s z hf
   obtain ⟨e, hu, _⟩ := ze8 (zal hT hf).2.d
   rw [(zal hT hf).1] at hu
   have e := Option.some.inj h
   injection e with e1 e2
   subst e1
   exact zir w rfl (zfE hu a w)
  ·cases h
 ·have hg : (eqGuard op t xo yo (.pointer none) (.pointer none)).run P w = .ok () w := by
   unfold eqGuard
   split <;> rfl
  rw [Sem.run_bind, hg]
  split at h
  ·rename_i tt n s z hf
   obtain ⟨e, hu, _⟩ := ze8 (zal hT hf).2.d
   rw [(zal hT hf).1] at hu
   have e := Option.some.inj h
   injection e with e1 e2
   subst e1
   exact zgE w rfl (zfD hu w)
  ·rename_i tt n s z hf
   obtain ⟨e, hu, _⟩ := ze8 (zal hT hf).2.d
   rw [(zal hT hf).1] at hu
   have e := Option.some.inj h
   injection e with e1 e2
   subst e1
   exact zir w rfl (zfD hu w)
  ·cases h
 ·cases h
def lenV (T : Tab) (t : Nat) (x : Value) : Option Value :=
 match tfind T t, x with
 | some ⟨_, .slice _ _, _, _⟩, .slice _ n _ => some (.int .i64 n)
 | some ⟨_, .str, _, _⟩, .string s => some (.int .i64 s.size)
 | some ⟨_, .array n _ _, _, _⟩, _ => some (.int .i64 n)
 | some ⟨_, .map, _, _⟩, .map none => some (.int .i64 0)
 | _, _ => none
theorem zj4 {T : Tab} (hT : TabOk P T) {x v : Value} (h : lenV T t x = some v) (ty : TypeId) (w : World) : (Builtin.len_ #[t] ty #[x]).run P w = .ok v w := by
 unfold lenV at h
 split at h
 ·rename_i tt e n s z a l c hf
  have hu := (za7 (zal hT hf).2.d).1
  rw [(zal hT hf).1] at hu
  have e := Option.some.inj h
  subst e
  simp [Builtin.len_, run_underlying hu, goInt]
 ·rename_i tt s z st hf
  have hu := zgB (zal hT hf).2.d
  rw [(zal hT hf).1] at hu
  have e := Option.some.inj h
  subst e
  simp [Builtin.len_, run_underlying hu, goInt]
 ·rename_i tt n e es s z hf
  have hu := (zdQ (zal hT hf).2.d).1
  rw [(zal hT hf).1] at hu
  have e := Option.some.inj h
  subst e
  simp [Builtin.len_, run_underlying hu, goInt]
 ·rename_i tt s z hf
  obtain ⟨a, b, hu⟩ := zmC (zal hT hf).2.d
  rw [(zal hT hf).1] at hu
  have e := Option.some.inj h
  subst e
  simp [Builtin.len_, run_underlying hu, goInt]
 ·cases h
theorem add_lit (g o n : Nat) : (⟨g, o, none⟩ : Addr).add n = ⟨g, o + n, none⟩ := by
 unfold Addr.add; split <;> simp_all
def fieldV (T : Tab) (t : Nat) (x : Value) (i : Nat) : Option Value :=
 match tfind T t, x with
 | some ⟨_, .struct os, _, _⟩, .pointer (some ⟨g, o, none⟩) => match os[i]? with | some (d, _, _) => some (.pointer (some ⟨g, o + d, none⟩)) | none => none
 | _, _ => none
theorem zhw {T : Tab} (hT : TabOk P T) {x v : Value} {i : Nat} (h : fieldV T t x i = some v) (w : World) : (Instr.fieldAt t x i).run P w = .ok v w := by
 unfold fieldV at h
 split at h
 ·rename_i tt os s z g o hf
  obtain ⟨fs, hu, hofs⟩ := zc4 (zal hT hf).2.d
  rw [(zal hT hf).1] at hu
  split at h
  ·rename_i d n q hd
   obtain ⟨f, h1, h2, h3, h4, _, _⟩ := zcK hofs hd
   have e := Option.some.inj h
   subst e
   have h1' : fs[i]? = some f := by simpa using h1
   simp [Instr.fieldAt, run_underlying hu, h1', Instr.sureAddr, fieldPlace, run_sizeOf h3, h4, add_lit, h2]
  ·cases h
 ·cases h
def indexV (T : Tab) (t : Nat) (x i : Value) : Option (Value × Prop) :=
 match tfind T t, x, i with
 | some ⟨_, .slice _ es, _, _⟩, .slice (some ⟨b, o, none⟩) n _, .int _ k => some (.pointer (some ⟨b, o + k.toNat * es, none⟩), 0 ≤ k ∧ k < (n : Int))
 | some ⟨_, .array n _ es, _, _⟩, .pointer (some ⟨b, o, none⟩), .int _ k => some (.pointer (some ⟨b, o + k.toNat * es, none⟩), 0 ≤ k ∧ k < (n : Int))
 | _, _, _ => none
theorem zho {T : Tab} (hT : TabOk P T) {x i v : Value} {p : Prop} (h : indexV T t x i = some (v, p)) (hp : p) (w : World) : (Instr.indexAt t x i).run P w = .ok v w := by
 unfold indexV at h
 split at h
 ·rename_i tt e es s z b o n c k j hf
  obtain ⟨hu, hs⟩ := za7 (zal hT hf).2.d
  rw [(zal hT hf).1] at hu
  have e := Option.some.inj h
  injection e with e1 e2
  rw [← e2] at hp
  subst e1
  obtain ⟨inf, hi, hsz⟩ := zcq hs
  simp [Instr.indexAt, asIntOf, run_underlying hu, hp, sizeOf, typeInfo, hi, hsz, add_lit]
 ·rename_i tt n e es s z b o k j hf
  obtain ⟨hu, hs⟩ := zdQ (zal hT hf).2.d
  rw [(zal hT hf).1] at hu
  have e := Option.some.inj h
  injection e with e1 e2
  rw [← e2] at hp
  subst e1
  obtain ⟨inf, hi, hsz⟩ := zcq hs
  simp [Instr.indexAt, Instr.sureAddr, asIntOf, run_underlying hu, hp, sizeOf, typeInfo, hi, hsz, add_lit]
 ·cases h
def convV (T : Tab) (nw : Bool) (s d : Nat) (x : Value) : Option (Value × Prop) :=
 match tfind T s, tfind T d, x with
 | some _, some ⟨_, .int k, _, _⟩, .int _ n => some (ari nw k n)
 | some _, some ⟨_, .str, _, _⟩, .string b => some (.string b, True)
 | _, _, _ => none
theorem ziy {d : TD} (h : chkD P t d = true) : ∃ u, P.underlying t = some u := by
 cases hu : P.underlying t with
 | none => cases d <;> simp [chkD, hu] at h
 | some u => exact ⟨u, rfl⟩
theorem zim {T : Tab} (hT : TabOk P T) {nw : Bool} {s d : Nat} {x v : Value} {p : Prop} (h : convV T nw s d x = some (v, p)) (hp : p) (w : World) : (convert s d x).run P w = .ok v w := by
 unfold convV at h
 split at h
 ·rename_i us td k sz z k' n hs hd
  obtain ⟨u, hus⟩ := ziy (zal hT hs).2.d
  rw [(zal hT hs).1] at hus
  have hu := zmD (zal hT hd).2.d
  rw [(zal hT hd).1] at hu
  have e := Option.some.inj h
  obtain ⟨rfl, rfl⟩ : v = (ari nw k n).1 ∧ p = (ari nw k n).2 := by rw [e]; exact ⟨rfl, rfl⟩
  rw [zfc hp]
  cases u <;> simp [convert, run_underlying hus, run_underlying hu, Conv.intToInt]
 ·rename_i us td sz z b hs hd
  obtain ⟨u, hus⟩ := ziy (zal hT hs).2.d
  rw [(zal hT hs).1] at hus
  have hu := zgB (zal hT hd).2.d
  rw [(zal hT hd).1] at hu
  have e := Option.some.inj h
  injection e with e1 e2
  subst e1
  cases u <;> simp [convert, run_underlying hus, run_underlying hu]
 ·cases h
end
end Go.Proofs.YtaghmffgoomebaaGreat.Gx
namespace Go.Proofs.YtaghmffgoomebaaGreat.Gx
open Go.RowKit Mem
def takeO {α : Type} : Nat → List α → Option (List α)
 | 0, _ => some []
 | _ + 1, [] => none
 | n + 1, x :: r => match takeO n r with | some l => some (x :: l) | none => none
def dropO {α : Type} : Nat → List α → Option (List α)
 | 0, l => some l
 | _ + 1, [] => none
 | n + 1, _ :: r => dropO n r
def setO : List Value → Nat → Value → Option (List Value)
 | [], _, _ => none
 | _ :: r, 0, v => some (v :: r)
 | x :: r, n + 1, v => match setO r n v with | some l => some (x :: l) | none => none
def setsO : List Value → Nat → List Value → Option (List Value)
 | z, _, [] => some z
 | z, o, c :: r => match setO z o c with | some z' => setsO z' (o + 1) r | none => none
theorem zfP {α : Type} : ∀ {n : Nat} {l m : List α}, takeO n l = some m → m = l.take n ∧ n ≤ l.length
 | 0, l, m, h => by injection h with h; subst h; simp
 | n + 1, [], m, h => by cases h
 | n + 1, x :: r, m, h => by
   unfold takeO at h
   split at h
   ·rename_i l hl
    injection h with h
    obtain ⟨h1, h2⟩ := zfP hl
    subst h
    simp [h1, h2]
   ·cases h
theorem zgx {α : Type} : ∀ {n : Nat} {l m : List α}, dropO n l = some m → m = l.drop n ∧ n ≤ l.length
 | 0, l, m, h => by injection h with h; subst h; simp
 | n + 1, [], m, h => by cases h
 | n + 1, x :: r, m, h => by
   obtain ⟨h1, h2⟩ := zgx (n := n) (l := r) (m := m) h
   simp [h1, h2]
theorem zfW : ∀ {l : List Value} {n : Nat} {v : Value} {m : List Value}, setO l n v = some m → m = l.set n v ∧ n < l.length
 | [], _, _, m, h => by cases h
 | x :: r, 0, v, m, h => by injection h with h; subst h; simp
 | x :: r, n + 1, v, m, h => by
   unfold setO at h
   split at h
   ·rename_i l hl
    injection h with h
    obtain ⟨h1, h2⟩ := zfW hl
    subst h
    simp [h1, h2]
   ·cases h
def cellsN (v : Value) (n : Nat) (g : Bool) : Option (List Value) :=
 match v with
 | .agg ⟨l⟩ => bif g && Nat.beq l.length n then some l else none
 | .tuple _ => none
 | v => bif !g && Nat.beq n 1 then some [v] else none
theorem ze9 {v : Value} {n : Nat} {g : Bool} {l : List Value} (h : cellsN v n g = some l) : v.cells.toList = l ∧ l.length = n ∧ (g = true → v = .agg l.toArray) ∧ (g = false → l = [v] ∧ (∀ cs, v ≠ .agg cs) ∧ (∀ cs, v ≠ .tuple cs)) := by
 unfold cellsN at h
 split at h
 ·rename_i cs
  cases hb : (g && Nat.beq cs.length n) with
  | false => rw [hb] at h; cases h
  | true =>
    rw [hb] at h
    rw [Bool.and_eq_true] at hb
    injection h with h
    subst h
    exact ⟨rfl, Nat.eq_of_beq_eq_true hb.2, fun _ => rfl, fun e => by rw [e] at hb; cases hb.1⟩
 ·cases h
 ·rename_i h1 h2
  cases hb : (!g && Nat.beq n 1) with
  | false => rw [hb] at h; cases h
  | true =>
    rw [hb] at h
    rw [Bool.and_eq_true] at hb
    injection h with h
    subst h
    have hn : n = 1 := Nat.eq_of_beq_eq_true hb.2
    refine ⟨?_, by simp [hn], (fun e => by rw [e] at hb; cases hb.1), fun _ => ⟨rfl, fun cs => (by cases cs; exact h1 _), h2⟩⟩
    cases v <;> first | rfl | exact absurd rfl (h2 _) | (rename_i cs; cases cs; exact absurd rfl (h1 _))
def fillL (fs : List (Nat × Nat × Bool)) : List Value → List (Nat × Value) → Option (List Value)
 | z, [] => some z
 | z, (i, v) :: r =>
   match fs[i]? with
   | some (o, n, g) => (match cellsN v n g with
     | some cs => (match setsO z o cs with | some z' => fillL fs z' r | none => none)
     | none => none)
   | none => none
theorem zgR : ∀ (cs : List Value) (k o : Nat) (A : Array Value) (z : List Value), setsO A.toList (o + k) cs = some z → (cs.zipIdx k).foldl (fun a (p : Value × Nat) => a.setIfInBounds (o + p.2) p.1) A = z.toArray ∧ o + k + cs.length ≤ max A.size (o + k)
 | [], k, o, A, z, h => by injection h with h; subst h; simp; omega
 | c :: r, k, o, A, z, h => by
   unfold setsO at h
   split at h
   ·rename_i z' hz
    obtain ⟨h1, h2⟩ := zfW hz
    have e : (A.setIfInBounds (o + k) c).toList = z' := by rw [h1]; simp
    rw [← e, Nat.add_assoc] at h
    obtain ⟨i1, i2⟩ := zgR r (k + 1) o _ z h
    refine ⟨by simpa [List.zipIdx_cons] using i1, ?_⟩
    simp at i2 h2 ⊢
    omega
   ·cases h
theorem zgS : ∀ {cs : List Value} {z z' : List Value} {o : Nat}, setsO z o cs = some z' → z'.length = z.length ∧ (cs ≠ [] → o + cs.length ≤ z.length)
 | [], z, z', o, h => by injection h with h; subst h; simp
 | c :: r, z, z', o, h => by
   unfold setsO at h
   split at h
   ·rename_i y hy
    obtain ⟨h1, h2⟩ := zfW hy
    obtain ⟨h3, h4⟩ := zgS h
    have hl : y.length = z.length := by rw [h1]; simp
    refine ⟨by omega, fun _ => ?_⟩
    cases r with
    | nil => simp; omega
    | cons a r => have := h4 (by simp); simp at this ⊢; omega
   ·cases h
theorem fill_eq {P : Program} {fs : List (Nat × Nat × Bool)} {place : Nat → Option (Nat × Nat)} (hp : ∀ i o n g, fs[i]? = some (o, n, g) → place i = some (o, n) ∧ n ≠ 0) : ∀ {l : List (Nat × Value)} {z z' : List Value}, fillL fs z l = some z' → Instr.fill place z.toArray l = some z'.toArray
 | [], z, z', h => by injection h with h; subst h; rfl
 | (i, v) :: r, z, z', h => by
   unfold fillL at h
   split at h
   ·rename_i o n g hf
    split at h
    ·rename_i cs hc
     split at h
     ·rename_i y hy
      obtain ⟨h1, h2, _⟩ := ze9 hc
      obtain ⟨h3, hn⟩ := hp i o n g hf
      obtain ⟨h4, h5⟩ := zgS hy
      have hcs : cs ≠ [] := fun e => by rw [e] at h2; exact hn h2.symm
      have h5 := h5 hcs
      have hsz : v.cells.size = n := by rw [← Array.length_toList, h1, h2]
      have hfold := (zgR cs 0 o z.toArray y (by simpa using hy)).1
      unfold Instr.fill
      simp only [h3]
      have hno : ¬ (v.cells.size ≠ n ∨ o + v.cells.size > z.toArray.size) := by
       rw [hsz]; simp; omega
      have e : v.cells.zipIdx.foldl (fun cs (x : Value × Nat) => cs.setIfInBounds (o + x.2) x.1) z.toArray = y.toArray := by
       rw [← hfold, ← h1, ← Array.foldl_toList]
       simp
      simp only [Bool.or_eq_true, decide_eq_true_eq] at *
      rw [if_neg hno]
      exact (congrArg (fun a => Instr.fill place a r) e).trans (fill_eq (P := P) hp h)
     ·cases h
    ·cases h
   ·cases h
def lookAll (n : Nat) (f : Fr) : List (Nat × Operand) → Option (List (Nat × Value))
 | [] => some []
 | (i, x) :: r => match look n f x, lookAll n f r with | some v, some l => some ((i, v) :: l) | _, _ => none
theorem zci {n : Nat} {ds : List Deferred} {a : Act} {f : Fr} (hr : Rel n ds a f) : ∀ {l : List (Nat × Operand)} {m : List (Nat × Value)}, lookAll n f l = some m → l.map (fun p => (p.1, a.eval p.2)) = m
 | [], m, h => by injection h
 | (i, x) :: r, m, h => by
   unfold lookAll at h
   split at h
   ·rename_i v l hv hl
    injection h with h
    subst h
    rw [List.map_cons, zci hr hl, hr.look hv]
   ·cases h
def lookL (n : Nat) (f : Fr) : List Operand → Option (List Value)
 | [] => some []
 | x :: r => match look n f x, lookL n f r with | some v, some l => some (v :: l) | _, _ => none
theorem zaR {n : Nat} {ds : List Deferred} {a : Act} {f : Fr} (hr : Rel n ds a f) : ∀ {l : List Operand} {m : List Value}, lookL n f l = some m → l.map a.eval = m
 | [], m, h => by injection h
 | x :: r, m, h => by
   unfold lookL at h
   split at h
   ·rename_i v l hv hl
    injection h with h
    subst h
    rw [List.map_cons, zaR hr hl, hr.look hv]
   ·cases h
theorem run_places {P : Program} : ∀ {os : List (Nat × Nat × Bool)} {fs : List Field}, offOk P os fs = true → ∀ w : World, (fs.mapM fun f => (do pure (f.offset, ← sizeOf f.type) : Sem (Nat × Nat))).run P w = .ok (os.map fun p => (p.1, p.2.1)) w
 | [], [], _, w => rfl
 | [], _ :: _, h, w => by simp [offOk] at h
 | _ :: _, [], h, w => by simp [offOk] at h
 | (o, n, g) :: os, f :: fs, h, w => by
   unfold offOk at h
   rw [Bool.and_eq_true, Bool.and_eq_true, Bool.and_eq_true, Bool.and_eq_true, Bool.and_eq_true] at h
   obtain ⟨⟨⟨h1, h2, h3⟩, h4⟩, h5⟩ := h
   have ih := run_places h5 w
   rw [List.mapM_cons]
   simp only [Sem.run_bind, run_sizeOf h2, Result.andThen_ok, Sem.run_pure, ih]
   rw [Nat.eq_of_beq_eq_true h1]
   rfl
section
variable {P : Program} {T : Tab} (hT : TabOk P T)
def buildV (T : Tab) (t : Nat) (l : List (Nat × Value)) : Option Value :=
 match tfind T t with
 | some ⟨_, .struct fs, _, z⟩ => (match fillL fs z l with | some cs => some (.agg cs.toArray) | none => none)
 | _ => none
include hT in
theorem zhC {t : Nat} {l : Array (Nat × Value)} {v : Value} (h : buildV T t l.toList = some v) (w : World) : (Instr.build t l).run P w = .ok v w := by
 unfold buildV at h
 split at h
 ·rename_i tt fs s z hf
  obtain ⟨ht, hk⟩ := zal hT hf
  simp only at ht
  subst ht
  obtain ⟨fields, hu, hofs⟩ := zc4 hk.d
  split at h
  ·rename_i cs hcs
   have e := Option.some.inj h
   subst e
   have hz := hk.z
   cases hi : P.info? tt with
   | none => simp [hi] at hz
   | some inf =>
     cases hz0 : inf.zero with
     | none => simp [hi, hz0] at hz
     | some zv =>
       simp only [hi, hz0, Option.bind_some, Option.map_some] at hz
       have hz' : zv.cells = z.toArray := by injection hz
       have hzv : (zeroValue tt).run P w = .ok zv w := by simp [zeroValue, typeInfo, hi, hz0]
       have hpl : (fields.mapM fun f => (do pure (f.offset, ← sizeOf f.type) : Sem (Nat × Nat))).run P w = .ok (fs.map fun p => (p.1, p.2.1)).toArray w := by
        rw [Array.mapM_eq_mapM_toList, Sem.run_map, run_places hofs w]
        rfl
       have hfill := fill_eq (P := P) (place := fun i => ((fs.map fun p => (p.1, p.2.1)).toArray)[i]?) (fun i o n g h => by
        obtain ⟨f, _, _, _, h4, _⟩ := zcK hofs h
        exact ⟨by simp [h], h4⟩) hcs
       unfold Instr.build
       simp only [Sem.run_bind, hzv, Result.andThen_ok, run_underlying hu, hpl, hz', hfill, Sem.run_pure]
  ·cases h
 ·cases h
def partV (T : Tab) (t : Nat) (x : Value) (i : Nat) : Option Value :=
 match tfind T t, x with
 | some ⟨_, .struct os, _, _⟩, .agg cs => (match os[i]? with
   | some (o, n, true) => (match dropO o cs.toList with | some d => (match takeO n d with | some l => some (.agg l.toArray) | none => none) | none => none)
   | some (o, _, false) => cs.toList[o]?
   | none => none)
 | _, _ => none
include hT in
theorem zhO {t : Nat} {x v : Value} {i : Nat} (h : partV T t x i = some v) (w : World) : (Instr.field t x i).run P w = .ok v w := by
 unfold partV at h
 split at h
 ·rename_i tt os s z cs hf
  obtain ⟨ht, hk⟩ := zal hT hf
  simp only at ht
  subst ht
  obtain ⟨fs, hu, hofs⟩ := zc4 hk.d
  split at h
  ·rename_i o n hd
   obtain ⟨f, h1, h2, h3, h4, h5, h6⟩ := zcK hofs hd
   have h1' : fs[i]? = some f := by simpa using h1
   split at h
   ·rename_i d hdd
    split at h
    ·rename_i l hl
     have e := Option.some.inj h
     subst e
     obtain ⟨e1, e2⟩ := zgx hdd
     obtain ⟨e3, e4⟩ := zfP hl
     have hx : cs.extract o (o + n) = l.toArray := by
      apply Array.ext'
      rw [e3, e1]
      simp [List.extract_eq_take_drop]
     simp [Instr.field, run_underlying hu, h1', asAgg, part, zdT h6, h5, run_sizeOf h3, h2, hx]
    ·cases h
   ·cases h
  ·rename_i o n hd
   obtain ⟨f, h1, h2, h3, h4, h5, h6⟩ := zcK hofs hd
   have h1' : fs[i]? = some f := by simpa using h1
   have h' : cs[o]? = some v := by simpa using h
   simp [Instr.field, run_underlying hu, h1', asAgg, part, zdT h6, h5, h2, h']
  ·cases h
 ·cases h
noncomputable def ev (T : Tab) (nw : Bool) (n : Nat) (f : Fr) (op : Op) : Option (Value × Prop) :=
 match op with
 | .move x => (match look n f x with | some v => some (v, True) | none => none)
 | .assign x => (match look n f x with | some v => some (v, True) | none => none)
 | .pick c a b => (match look n f c with
   | some (.bool true) => (match look n f a with | some v => some (v, True) | none => none)
   | some (.bool false) => (match look n f b with | some v => some (v, True) | none => none)
   | _ => none)
 | .binOp op t x y _ => (match look n f x, look n f y with | some a, some b => evBin T nw op t a b | _, _ => none)
 | .unOp .not _ x => (match look n f x with | some (.bool b) => some (.bool (!b), True) | _ => none)
 | .convert s d x => (match look n f x with | some v => convV T nw s d v | none => none)
 | .fieldAddr t x i => (match look n f x with | some v => (match fieldV T t v i with | some u => some (u, True) | none => none) | none => none)
 | .field t x i => (match look n f x with | some v => (match partV T t v i with | some u => some (u, True) | none => none) | none => none)
 | .indexAddr t x i => (match look n f x, look n f i with | some v, some k => indexV T t v k | _, _ => none)
 | .extract x i => (match look n f x with | some (.tuple vs) => (match vs.toList[i]? with | some v => some (v, True) | none => none) | _ => none)
 | .build t ps => (match lookAll n f ps.toList with | some l => (match buildV T t l with | some v => some (v, True) | none => none) | none => none)
 | .nilCheck x => (match look n f x with | some (.pointer (some a)) => some (.pointer (some a), True) | _ => none)
 | .call c => (match c.callee, lookL n f c.args.toList, c.argTypes.toList with
   | .builtin .len, some [x], [t] => (match lenV T t x with | some v => some (v, True) | none => none)
   | _, _, _ => none)
 | _ => none
include hT in
theorem zjq {nw : Bool} {n : Nat} {ds : List Deferred} {a : Act} {f : Fr} (hr : Rel n ds a f) {o : Oper} {v : Value} {p : Prop} (h : ev T nw n f o.op = some (v, p)) (hp : p) (w : World) : (execOp a.eval o).run P w = .ok (.value v) w := by
 obtain ⟨dst, op, type, pos, after, guard⟩ := o
 simp only at h
 unfold ev at h
 split at h
 ·split at h
  ·rename_i x u hx; injection h with h; injection h with h1 h2; subst h1
   simp [execOp, hr.look hx]
  ·cases h
 ·split at h
  ·rename_i x u hx; injection h with h; injection h with h1 h2; subst h1
   simp [execOp, hr.look hx]
  ·cases h
 ·split at h
  ·rename_i c x y hc
   split at h
   ·rename_i u hx; injection h with h; injection h with h1 h2; subst h1
    simp [execOp, hr.look hc, hr.look hx, asBool]
   ·cases h
  ·rename_i c x y hc
   split at h
   ·rename_i u hx; injection h with h; injection h with h1 h2; subst h1
    simp [execOp, hr.look hc, hr.look hx, asBool]
   ·cases h
  ·cases h
 ·split at h
  ·rename_i b t x y yt _ _ u u' hx hy
   have := zig hT h hp x y w
   simp only [execOp, hr.look hx, hr.look hy, Sem.run_bind, Sem.run_pure] at this ⊢
   rw [this]
   rfl
  ·cases h
 ·split at h
  ·rename_i t x b hx; injection h with h; injection h with h1 h2; subst h1
   simp [execOp, hr.look hx, Op.unary]
  ·cases h
 ·split at h
  ·rename_i s d x u hx
   have := zim hT h hp w
   simp [execOp, hr.look hx, this]
  ·cases h
 ·split at h
  ·rename_i t x i u hx
   split at h
   ·rename_i q hq; injection h with h; injection h with h1 h2; subst h1
    have := zhw hT hq w
    simp [execOp, hr.look hx, this]
   ·cases h
  ·cases h
 ·split at h
  ·rename_i t x i u hx
   split at h
   ·rename_i q hq; injection h with h; injection h with h1 h2; subst h1
    have := zhO hT hq w
    simp [execOp, hr.look hx, this]
   ·cases h
  ·cases h
 ·split at h
  ·rename_i t x i u k hx hi
   have := zho hT h hp w
   simp [execOp, hr.look hx, hr.look hi, this]
  ·cases h
 ·split at h
  ·rename_i x i _ vs hx
   split at h
   ·rename_i q hq; injection h with h; injection h with h1 h2; subst h1
    have hq' : vs[i]? = some q := by simpa using hq
    simp [execOp, hr.look hx, Instr.extract, hq']
   ·cases h
  ·cases h
 ·split at h
  ·rename_i t ps _ l hl
   split at h
   ·rename_i q hq; injection h with h; injection h with h1 h2; subst h1
    have e : (ps.map fun x => (x.1, a.eval x.2)).toList = l := by rw [← zci hr hl]; simp
    have := zhC (P := P) hT (l := ps.map fun x => (x.1, a.eval x.2)) (by rw [e]; exact hq) w
    simp [execOp, this]
   ·cases h
  ·cases h
 ·split at h
  ·rename_i x q hx; injection h with h; injection h with h1 h2; subst h1
   simp [execOp, hr.look hx]
  ·cases h
 ·split at h
  ·rename_i c _ _ _ x t hc hl ht
   split at h
   ·rename_i q hq; injection h with h; injection h with h1 h2; subst h1
    have := fun ty => zj4 hT hq ty w
    have e1 : c.args.map a.eval = #[x] := by apply Array.ext'; simpa using zaR hr hl
    have e2 : c.argTypes = #[t] := by apply Array.ext'; simpa using ht
    simp [execOp, resolve, hc, e1, e2, invoke, builtin, this]
   ·cases h
  ·cases h
 ·cases h
end
end Go.Proofs.YtaghmffgoomebaaGreat.Gx
namespace Go.Proofs.YtaghmffgoomebaaGreat.Gx
open Go.RowKit Mem
structure Cx where
 P : Program
 T : Tab
 fn : Func
 n : Nat
 E : List Nat
 w0 : World
 Post : Ending → World → Prop
 ds : List Deferred
 rd : Option (Nat × (Exit → Act → World → Prop))
def fenceR : Option Nat → Fence
 | none => Fence.wide
 | some l => Fence.wide.inRound l
theorem zcn (r : Option Nat) (f : FuncId) : (fenceR r).fn f := by cases r <;> trivial
theorem zeb (r : Option Nat) : (fenceR r).depth = none := by cases r <;> rfl
theorem zhx {r : Option Nat} {n : Nat} {P : Program} {f : FuncId} {args : Array Value} {w : World} {R : Ending → World → Prop} (h : Calls P f args w R) : CallsIn (fenceR r) n P f args w R := by
 cases r with
 | none => exact callsIn_wide.2 h
 | some l => exact CallsIn.inRound l (callsIn_wide.2 h)
theorem zie {r : Option Nat} {n : Nat} {P : Program} {row : String} {args : Array Value} {w : World} {R : Value → World → Prop} (h : Rows P row args w R) : RowsIn (fenceR r) n P row args w R := fun c cs _ => by
 obtain ⟨v, w', h1, h2⟩ := h c cs
 refine ⟨v, w', h1, ?_⟩
 have : Machine.fenced P (fenceR r) = Machine.fenced P Fence.wide := by cases r <;> rfl
 rw [this]
 exact stepsIn_wide.2 h2
def Cx.rn (X : Cx) : Option Nat := X.rd.map (·.1)
inductive KI where
 | code (c : Code)
 | blk (id : Nat)
 | inv (I : Act → World → Prop)
def wpK (F : Fence) (P : Program) (Q : Exit → Act → World → Prop) : List KI → Exit → Act → World → Prop
 | [] => Q
 | .code c :: k => Exit.then (fun a w => c.wpIn F 0 P (wpK F P Q k) a w) (wpK F P Q k)
 | .blk id :: k => Exit.inBlock id (wpK F P Q k)
 | .inv I :: k => Exit.then I (wpK F P Q k)
theorem zfL {F : Fence} {P : Program} {Q : Exit → Act → World → Prop} {a : Act} {w : World} (h : Q .ret a w) : ∀ ks, wpK F P Q ks .ret a w
 | [] => h
 | .code c :: k => zfL (F := F) (P := P) h k
 | .blk id :: k => zfL (F := F) (P := P) h k
 | .inv I :: k => zfL (F := F) (P := P) h k
def unwind (id : Nat) : List KI → Option (List KI)
 | [] => none
 | .blk j :: k => bif Nat.beq j id then some k else unwind id k
 | .code _ :: k => unwind id k
 | .inv _ :: k => unwind id k
theorem zb8 {F : Fence} {P : Program} {Q : Exit → Act → World → Prop} {a : Act} {w : World} {id : Nat} : ∀ {ks k' : List KI}, unwind id ks = some k' → wpK F P Q k' .normal a w → wpK F P Q ks (.exit id) a w
 | [], _, h, _ => by cases h
 | .code c :: k, k', h, hw => zb8 (ks := k) h hw
 | .inv I :: k, k', h, hw => zb8 (ks := k) h hw
 | .blk j :: k, k', h, hw => by
   unfold unwind at h
   cases hb : Nat.beq j id with
   | true =>
     rw [hb] at h
     have e := Option.some.inj h
     have hj := Nat.eq_of_beq_eq_true hb
     subst e
     show (if id = j then wpK F P Q k .normal a w else wpK F P Q k (.exit id) a w)
     rw [if_pos hj.symm]
     exact hw
   | false =>
     rw [hb] at h
     show (if id = j then wpK F P Q k .normal a w else wpK F P Q k (.exit id) a w)
     have hj : id ≠ j := fun e => by subst e; rw [Nat.beq_refl] at hb; cases hb
     rw [if_neg hj]
     exact zb8 h hw
theorem zcp {F : Fence} {P : Program} {Q : Exit → Act → World → Prop} {a : Act} {w : World} {id : Nat} : ∀ {ks : List KI}, unwind id ks = none → Q (.exit id) a w → wpK F P Q ks (.exit id) a w
 | [], _, h => h
 | .code c :: k, h, hw => zcp (ks := k) h hw
 | .inv I :: k, h, hw => zcp (ks := k) h hw
 | .blk j :: k, h, hw => by
   unfold unwind at h
   cases hb : Nat.beq j id with
   | true => rw [hb] at h; cases h
   | false =>
     rw [hb] at h
     show (if id = j then wpK F P Q k .normal a w else wpK F P Q k (.exit id) a w)
     have hj : id ≠ j := fun e => by subst e; rw [Nat.beq_refl] at hb; cases hb
     rw [if_neg hj]
     exact zcp h hw
inductive Nx where
 | region (id : Nat) (l : List Oper) (d : Bool) (k : List KI)
 | cond (c : Operand) (x y : Code) (k : List KI)
 | loop (c : Code) (k : List KI)
 | ret
 | fin
 | inv (I : Act → World → Prop)
 | range (g : Operand) (ps : Array Tmp) (x y : Code) (k : List KI)
 | out (id : Nat)
def nx : Nat → List KI → Option Nx
 | 0, _ => none
 | _ + 1, [] => some .fin
 | m + 1, .code c :: k => (match c with
   | .skip => nx m k
   | .seq x y => nx m (.code x :: .code y :: k)
   | .block id c => nx m (.code c :: .blk id :: k)
   | .region id ops d => (match ops with | ⟨l⟩ => some (.region id l d k))
   | .cond c x y => some (.cond c x y k)
   | .loop c => some (.loop c k)
   | .ret => some .ret
   | .exit id => (match unwind id k with | some k' => nx m k' | none => some (.out id))
   | .rangeFunc g ps x y => some (.range g ps x y k)
   | _ => none)
 | m + 1, .blk _ :: k => nx m k
 | _ + 1, .inv I :: _ => some (.inv I)
def Nx.holds (F : Fence) (P : Program) (Q : Exit → Act → World → Prop) : Nx → Act → World → Prop
 | .region id l d k, a, w => (Code.region id l.toArray d).wpIn F 0 P (wpK F P Q k) a w
 | .cond c x y k, a, w => (Code.cond c x y).wpIn F 0 P (wpK F P Q k) a w
 | .loop c k, a, w => (Code.loop c).wpIn F 0 P (wpK F P Q k) a w
 | .ret, a, w => Q .ret a w
 | .fin, a, w => Q .normal a w
 | .inv I, a, w => I a w
 | .range g ps x y k, a, w => (Code.rangeFunc g ps x y).wpIn F 0 P (wpK F P Q k) a w
 | .out id, a, w => Q (.exit id) a w
theorem zaI {F : Fence} {P : Program} {Q : Exit → Act → World → Prop} {a : Act} {w : World} : ∀ {m : Nat} {ks : List KI} {r : Nx}, nx m ks = some r → r.holds F P Q a w → wpK F P Q ks .normal a w
 | 0, _, _, h, _ => by cases h
 | _ + 1, [], _, h, hr => by
   have e := Option.some.inj h
   subst e
   exact hr
 | m + 1, .blk _ :: k, _, h, hr => zaI (m := m) (ks := k) h hr
 | _ + 1, .inv I :: _, _, h, hr => by
   have e := Option.some.inj h
   subst e
   exact hr
 | m + 1, .code c :: k, r, h, hr => by
   show c.wpIn F 0 P (wpK F P Q k) a w
   cases c with
   | skip => exact wpIn_skip (zaI (m := m) (ks := k) h hr)
   | seq x y => exact wpIn_seq (zaI (m := m) (ks := .code x :: .code y :: k) h hr)
   | block id c => exact wpIn_block (zaI (m := m) (ks := .code c :: .blk id :: k) h hr)
   | region id ops d =>
     obtain ⟨l⟩ := ops
     have e := Option.some.inj h
     subst e
     exact hr
   | cond c x y =>
     have e := Option.some.inj h
     subst e
     exact hr
   | loop c =>
     have e := Option.some.inj h
     subst e
     exact hr
   | ret =>
     have e := Option.some.inj h
     subst e
     exact wpIn_ret (zfL hr k)
   | exit id =>
     simp only [nx] at h
     split at h
     ·rename_i k' hk
      exact wpIn_exit (zb8 hk (zaI (m := m) h hr))
     ·rename_i hk
      have e := Option.some.inj h
      subst e
      exact wpIn_exit (zcp hk hr)
   | rangeFunc g ps x y =>
     have e := Option.some.inj h
     subst e
     exact hr
   | _ => cases h
section
variable (X : Cx)
def endPost (P : Program) (fn : Func) (R : Ending → World → Prop) : Exit → Act → World → Prop
 | .normal, a, w => LeavesInM Fence.wide 0 P fn a.tmps R a.defers .returning w
 | .ret, a, w => LeavesInM Fence.wide 0 P fn a.tmps R a.defers .returning w
 | _, _, _ => False
def Cx.F : Fence := fenceR X.rn
def Cx.Q : Exit → Act → World → Prop := match X.rd with
 | none => endPost X.P X.fn X.Post
 | some r => fun e a w => (match e with | .panic _ => False | _ => r.2 e a w)
structure GK (ks : List KI) (f : Fr) (O R : List Fact) : Prop where mk ::
 out : ∀ a w, Rel X.n X.ds a f → Kn X.E X.w0 w O R → wpK X.F X.P X.Q ks .normal a w
structure G (ops l : List Oper) (k : List KI) (f : Fr) (O R : List Fact) : Prop where mk ::
 out : ∀ a w, Rel X.n X.ds a f → Kn X.E X.w0 w O R → wpListIn X.F 0 X.P ops.toArray (wpK X.F X.P X.Q k) l a w
end
section
variable {X : Cx} {f : Fr} {O R : List Fact} {ks k : List KI}
theorem zpR {P : Program} (T : Tab) {f : FuncId} {fn : Func} {c : Code} {args : List Value} {w : World} {Post : Ending → World → Prop} (E : List Nat) (f0 : Fr) (O R : List Fact)
 (hf : P.funcs[f]? = some fn) (hb : fn.body = some c) {n : Nat} (hn : fn.ntmps = n) (hl : Nat.ble args.length n = true)
 (hf0 : ∀ t v, fget f0 t = some v → args[t]? = some v) (hk : Kn E w w O R)
 (h : GK ⟨P, T, fn, n, E, w, Post, [], none⟩ [.code c] f0 O R) : Calls P f args.toArray w Post := by
 refine callsIn_wide (n := 0).1 (callsIn_of_wp_marks hf hb trivial (wpIn_mono (h.out _ w ⟨?_, rfl, fun t v ht hv => ?_⟩ hk) fun e a w hq => ?_))
 rotate_right
 ·cases e <;> first | exact hq | exact hq.elim
 ·have := Nat.le_of_ble_eq_true hl
  simp [hn]; omega
 ·have h1 := hf0 t v hv
  have ht' : t < args.length := by
   rcases Nat.lt_or_ge t args.length with h2 | h2
   ·exact h2
   ·rw [List.getElem?_eq_none h2] at h1; cases h1
  show (args.toArray ++ Array.replicate (fn.ntmps - args.toArray.size) undef)[t]? = some v
  rw [Array.getElem?_append_left (by simpa using ht')]
  simpa using h1
def args0 : Nat → List Value → Fr
 | _, [] => []
 | t, v :: r => (t, v) :: args0 (t + 1) r
theorem zjH : ∀ (l : List Value) (s t : Nat) (v : Value), fget (args0 s l) t = some v → s ≤ t ∧ l[t - s]? = some v
 | [], s, t, v, h => by cases h
 | u :: r, s, t, v, h => by
   unfold args0 fget at h
   cases hb : Nat.beq s t with
   | true =>
     rw [hb] at h
     have e := Nat.eq_of_beq_eq_true hb
     subst e
     refine ⟨Nat.le_refl _, ?_⟩
     rw [Nat.sub_self]
     exact h
   | false =>
     rw [hb] at h
     obtain ⟨h1, h2⟩ := zjH r (s + 1) t v h
     refine ⟨by omega, ?_⟩
     rw [show t - s = (t - (s + 1)) + 1 by omega]
     simpa using h2
theorem zab {P : Program} (T : Tab) {f : FuncId} {fn : Func} {c : Code} {args : List Value} {w : World} {Post : Ending → World → Prop} (E : List Nat) (O R : List Fact)
 (hf : P.funcs[f]? = some fn) (hb : fn.body = some c) {n : Nat} (hn : fn.ntmps = n) (hl : Nat.ble args.length n = true) (hk : Kn E w w O R)
 (h : GK ⟨P, T, fn, n, E, w, Post, [], none⟩ [.code c] (args0 0 args) O R) : Calls P f args.toArray w Post :=
 zpR T E _ O R hf hb hn hl (fun t v hv => by have := (zjH args 0 t v hv).2; simpa using this) hk h
theorem zcl {id : Nat} {l : List Oper} (h : nx 1000 ks = some (.region id l false k)) (hg : G X l l k f O R) : GK X ks f O R := .mk fun a w hr hk =>
 zaI h (wpIn_region_lit (hg.out a w hr hk))
theorem zbb {c : Operand} {x y : Code} (h : nx 1000 ks = some (.cond c x y k)) (hc : look X.n f c = some (.bool true)) (hg : GK X (.code x :: k) f O R) : GK X ks f O R := .mk fun a w hr hk =>
 zaI h (wpIn_cond_true (hr.look hc) (hg.out a w hr hk))
theorem zbc {c : Operand} {x y : Code} (h : nx 1000 ks = some (.cond c x y k)) (hc : look X.n f c = some (.bool false)) (hg : GK X (.code y :: k) f O R) : GK X ks f O R := .mk fun a w hr hk =>
 zaI h (wpIn_cond_false (hr.look hc) (hg.out a w hr hk))
def Tells (b : Bool) (p q : Prop) : Prop := (b = true → p) ∧ (b = false → q)
theorem zaH (p : Prop) : Tells (tB p) p (¬ p) := ⟨fun h => zaQ.1 h, fun h hp => by rw [zan hp] at h; cases h⟩
theorem zgP {b : Bool} {p q : Prop} (h : Tells b p q) : Tells (!b) q p := by
 unfold Tells at *; cases b <;> simp at h ⊢ <;> exact h
theorem zjK (b : Bool) : Tells b (b = true) (b = false) := ⟨id, id⟩
theorem zaJ {c : Operand} {x y : Code} {b : Bool} {p q : Prop} (h : nx 1000 ks = some (.cond c x y k)) (hc : look X.n f c = some (.bool b)) (ht : Tells b p q)
 (h1 : p → GK X (.code x :: k) f O R) (h2 : q → GK X (.code y :: k) f O R) : GK X ks f O R := .mk fun a w hr hk =>
 zaI h (wpIn_cond_split (hr.look hc) (fun e => (h1 (ht.1 e)).out a w hr hk) (fun e => (h2 (ht.2 e)).out a w hr hk))
def wantG (n : Nat) (f : Fr) (ops : List Oper) : Option (Nat × Bool) → Option Bool
 | none => some true
 | some (j, b) => (match ops[j]? with
   | some o => (match o.dst with
     | some t => (match look n f (.tmp t) with
       | some (.bool true) => some b
       | some (.bool false) => some (!b)
       | some (.tuple _) => some false
       | _ => none)
     | none => none)
   | none => none)
theorem zaV {n : Nat} {ds : List Deferred} {a : Act} {f : Fr} (hr : Rel n ds a f) {ops : List Oper} {o : Oper} {b : Bool} (h : wantG n f ops o.guard = some b) : Region.wanted o (yielded ops.toArray a.tmps) = b := by
 unfold Region.wanted
 cases hg : o.guard with
 | none => rw [hg] at h; injection h
 | some jb =>
   obtain ⟨j, c⟩ := jb
   rw [hg] at h
   unfold wantG at h
   simp only at h
   split at h
   ·rename_i oj hj
    split at h
    ·rename_i t ht
     have hy : ∀ v, look n f (.tmp t) = some v → yielded ops.toArray a.tmps j = (match v with | .bool b => some b | _ => none) := fun v hv => by
      have h1 : (bif Nat.blt t n then fget f t else none) = some v := hv
      cases hb : Nat.blt t n with
      | false => rw [hb] at h1; cases h1
      | true =>
        rw [hb] at h1
        have h2 := hr.at_ t v (Nat.le_of_ble_eq_true hb) h1
        unfold yielded
        simp [hj, ht, h2]
        cases v <;> rfl
     split at h
     ·rename_i hv; have e := Option.some.inj h; subst e; simp only [hy _ hv]; cases c <;> rfl
     ·rename_i hv; have e := Option.some.inj h; subst e; simp only [hy _ hv]; cases c <;> rfl
     ·rename_i vs hv; have e := Option.some.inj h; subst e; simp only [hy _ hv]; cases c <;> rfl
     ·cases h
    ·cases h
   ·cases h
variable {ops rest : List Oper} {o : Oper}
def noDefer : Op → Bool
 | .defer _ => false
 | _ => true
theorem zjY {o : Oper} (h : noDefer o.op = true) : ∀ c, o.op ≠ .defer c := fun c e => by rw [e] at h; cases h
theorem zmV {P : Program} {a : Act} {o : Oper} {v : Value} {w w' : World} (h : (execOp a.eval o).run P w = .ok (.value v) w') : ∀ c, o.op ≠ .defer c := fun c e => by
 unfold execOp at h
 rw [e] at h
 simp only [Sem.run_bind] at h
 cases hr : (resolve a.eval c o.type).run P w with
 | ok d w1 => rw [hr] at h; simp at h
 | halt x w1 => rw [hr] at h; simp [Result.andThen] at h
theorem zjU {r : Option Nat} {P : Program} {a : Act} {o : Oper} {v : Value} {w w' : World} {K : Act → World → Prop} {Q : Exit → Act → World → Prop} (h : (execOp a.eval o).run P w = .ok (.value v) w') (hK : K (a.put o.dst v) w') : o.wpIn (fenceR r) 0 P a w K Q := by
 refine ⟨fun f _ => zcn r f, ?_⟩
 rw [Oper.semAt_eq _ _ _ (zmV h), h]
 exact hK
theorem zpl {r : Option Nat} {P : Program} {a : Act} {o : Oper} {w : World} {K : Act → World → Prop} {Q : Exit → Act → World → Prop} (h : o.wp P a w K Q) (hd : noDefer o.op = true) : o.wpIn (fenceR r) 0 P a w K Q := by
 refine ⟨fun f _ => zcn r f, ?_⟩
 rw [Oper.semAt_eq _ _ _ (zjY hd)]
 unfold Oper.wp at h
 have hdp : (fenceR r).depth.isSome = true → 1 ≤ 0 := fun e => by rw [zeb] at e; cases e
 cases hr : (execOp a.eval o).run P w with
 | ok nx w1 =>
   rw [hr] at h
   cases nx with
   | value v => exact h
   | skip => exact h
   | defer d => exact h
   | enter f args => exact ⟨hdp, (zhx h).mono fun e w2 hq => by cases e <;> exact hq⟩
   | row row args => exact ⟨hdp, zie h⟩
   | _ => exact h.elim
 | halt x w1 =>
   rw [hr] at h
   cases x <;> first | exact h | exact h.elim
theorem zke (hg : GK X k f O R) : G X ops [] k f O R := .mk fun a w hr hk => hg.out a w hr hk
theorem zfz {d : Nat} (hw : wantG X.n f ops o.guard = some false) (hd : o.dst = some d) (hg : G X ops rest k ((d, undef) :: f) O R) : G X ops (o :: rest) k f O R := .mk fun a w hr hk => by
 have h1 := zaV hr hw
 unfold wpListIn
 rw [if_neg (by rw [h1]; exact Bool.false_ne_true)]
 exact ⟨fun f _ => zcn _ f, hg.out _ w (hr.put1 hd _) hk⟩
theorem zd2 (hw : wantG X.n f ops o.guard = some false) (hd : o.dst = none) (hg : G X ops rest k f O R) : G X ops (o :: rest) k f O R := .mk fun a w hr hk => by
 have h1 := zaV hr hw
 unfold wpListIn
 rw [if_neg (by rw [h1]; exact Bool.false_ne_true)]
 exact ⟨fun f _ => zcn _ f, hg.out _ w (hr.put0 hd _) hk⟩
def Yd (X : Cx) (f : Fr) (O R : List Fact) (o : Oper) (v : Value) : Prop := ∀ a w, Rel X.n X.ds a f → Kn X.E X.w0 w O R → (execOp a.eval o).run X.P w = .ok (.value v) w
theorem g_yd {v : Value} {d : Nat} (hw : wantG X.n f ops o.guard = some true) (hd : o.dst = some d) (he : Yd X f O R o v) (hg : G X ops rest k ((d, v) :: f) O R) : G X ops (o :: rest) k f O R := .mk fun a w hr hk => by
 have h1 := zaV hr hw
 unfold wpListIn
 rw [if_pos h1]
 exact zjU (he a w hr hk) (hg.out _ w (hr.put1 hd _) hk)
theorem yd_ev (hT : TabOk X.P X.T) {nw : Bool} {v : Value} {p : Prop} (he : ev X.T nw X.n f o.op = some (v, p)) (hp : p) : Yd X f O R o v := fun a w hr _ => zjq hT hr he hp w
theorem zeY (nw : Bool) (hT : TabOk X.P X.T) {v : Value} {p : Prop} {d : Nat} (hw : wantG X.n f ops o.guard = some true) (hd : o.dst = some d) (he : ev X.T nw X.n f o.op = some (v, p)) (hp : p) (hg : G X ops rest k ((d, v) :: f) O R) : G X ops (o :: rest) k f O R :=
 g_yd hw hd (yd_ev hT he hp) hg
theorem Rel.re {n : Nat} {ds : List Deferred} {a : Act} {f : Fr} (h : Rel n ds a f) {t : Nat} {v u : Value} (hl : Gx.look n f (.tmp t) = some v) (e : v = u) : Rel n ds a ((t, u) :: f) := by
 subst e
 refine ⟨h.size, h.defers, fun s x hs hx => ?_⟩
 unfold fget at hx
 cases hb : Nat.beq t s with
 | false => rw [hb] at hx; exact h.at_ s x hs hx
 | true =>
   rw [hb] at hx
   have := Nat.eq_of_beq_eq_true hb
   subst this
   injection hx with hx
   subst hx
   have h1 : (bif Nat.blt t n then fget f t else none) = some v := hl
   cases hb : Nat.blt t n with
   | false => rw [hb] at h1; cases h1
   | true => rw [hb] at h1; exact h.at_ t v hs h1
def gslot (ops : List Oper) : Option (Nat × Bool) → Option Nat
 | none => none
 | some (j, _) => (match ops[j]? with | some o => o.dst | none => none)
theorem zd1 {t : Nat} {b : Bool} {p q : Prop} (hs : gslot ops o.guard = some t) (hl : look X.n f (.tmp t) = some (.bool b)) (ht : Tells b p q)
 (h1 : p → G X ops (o :: rest) k ((t, .bool true) :: f) O R) (h2 : q → G X ops (o :: rest) k ((t, .bool false) :: f) O R) : G X ops (o :: rest) k f O R := .mk fun a w hr hk => by
 cases b with
 | true => exact (h1 (ht.1 rfl)).out a w (hr.re hl rfl) hk
 | false => exact (h2 (ht.2 rfl)).out a w (hr.re hl rfl) hk
theorem zaK {l : List Oper} (t : Nat) {v : Value} (u : Value) (hl : look X.n f (.tmp t) = some v) (e : v = u) (hg : G X ops l k ((t, u) :: f) O R) : G X ops l k f O R := .mk fun a w hr hk => hg.out a w (hr.re hl e) hk
theorem zbs (t : Nat) {v : Value} (u : Value) (hl : look X.n f (.tmp t) = some v) (e : v = u) (hg : GK X ks ((t, u) :: f) O R) : GK X ks f O R := .mk fun a w hr hk => hg.out a w (hr.re hl e) hk
def loadV (g : Bool) (sz : Nat) (cs : List Value) (off : Nat) : Option Value :=
 bif g then (match dropO off cs with | some d => (match takeO sz d with | some l => some (.agg l.toArray) | none => none) | none => none) else cs[off]?
theorem zaS {P : Program} {t : TypeId} {d : TD} {sz : Nat} (hd : chkD P t d = true) (hs : szIs P t sz = true) (w : World) (b o : Nat) (cs : List Value) (hc : ∀ i v, cs[i]? = some v → w.cell? ⟨b, o + i, none⟩ = some v) {off : Nat} {v : Value}
 (h : loadV (agg? d) sz cs off = some v) : (loadVar t ⟨b, o + off, none⟩).run P w = .ok v w := by
 unfold loadVar
 rw [Sem.run_bind, zkM hd w]
 unfold loadV at h
 cases hg : agg? d with
 | false =>
   rw [hg] at h
   simp [load, Sem.run, hc off v h]
 | true =>
   rw [hg] at h
   simp only [cond_true] at h
   split at h
   ·rename_i dd hdd
    split at h
    ·rename_i l hl
     have e := Option.some.inj h
     subst e
     obtain ⟨e1, e2⟩ := zgx hdd
     obtain ⟨e3, e4⟩ := zfP hl
     have hlen : l.length = sz := by rw [e3, List.length_take]; omega
     have hl2 := run_loadCells_list (P := P) w ⟨b, o + off, none⟩ l (fun j v hv => by
      rw [add_lit, Nat.add_assoc]
      refine hc (off + j) v ?_
      rw [e3, e1] at hv
      rw [List.getElem?_take] at hv
      split at hv
      ·rw [List.getElem?_drop] at hv; exact hv
      ·cases hv)
     rw [hlen] at hl2
     simp [run_sizeOf hs w, hl2]
    ·cases h
   ·cases h
theorem zaf (hT : TabOk X.P X.T) {ty : Nat} {x : Operand} {g off : Nat} {cs : List Value} {Tg t sz : Nat} {d : TD} {z : List Value} {v : Value} (ho : o.op = .load ty x) (hx : look X.n f x = some (.pointer (some ⟨g, off, none⟩)))
 (hm : blk g cs Tg ∈ O) (hty : tfind X.T ty = some ⟨t, d, sz, z⟩) (hv : loadV (agg? d) sz cs off = some v) : Yd X f O R o v := fun a w hr hk => by
 have hb := hk.pO _ hm
 have hty' := zal hT hty
 have e1 := hty'.1
 simp only at e1
 subst e1
 have := zaS hty'.2.d hty'.2.sz w g 0 cs (fun i u hu => by rw [Nat.zero_add, cell_of_row w g i cs.toArray Tg (0, 0) hb]; simpa using hu) hv
 rw [Nat.zero_add] at this
 simp [execOp, ho, hr.look hx, Instr.loadAt, Instr.sureAddr, this]
theorem zbu (hT : TabOk X.P X.T) {ty : Nat} {x : Operand} {b o' off : Nat} {cs : List Value} {t sz : Nat} {d : TD} {z : List Value} {v : Value} (ho : o.op = .load ty x) (hx : look X.n f x = some (.pointer (some ⟨b, o' + off, none⟩)))
 (hm : row b o' cs ∈ R) (hty : tfind X.T ty = some ⟨t, d, sz, z⟩) (hv : loadV (agg? d) sz cs off = some v) : Yd X f O R o v := fun a w hr hk => by
 have hb : ∀ i v, cs[i]? = some v → w.cell? ⟨b, o' + i, none⟩ = some v := hk.pR _ hm
 have hty' := zal hT hty
 have e1 := hty'.1
 simp only at e1
 subst e1
 have := zaS hty'.2.d hty'.2.sz w b o' cs hb hv
 simp [execOp, ho, hr.look hx, Instr.loadAt, Instr.sureAddr, this]
theorem zbA (hT : TabOk X.P X.T) {ty : Nat} {x : Operand} {b o' : Nat} {cs : List Value} {t sz : Nat} {d : TD} {z : List Value} {v : Value} (ho : o.op = .load ty x) (hx : look X.n f x = some (.pointer (some ⟨b, o', none⟩)))
 (hm : row b o' cs ∈ R) (hty : tfind X.T ty = some ⟨t, d, sz, z⟩) (hv : loadV (agg? d) sz cs 0 = some v) : Yd X f O R o v :=
 zbu (off := 0) hT ho hx hm hty hv
end
end Go.Proofs.YtaghmffgoomebaaGreat.Gx
namespace Go.Proofs.YtaghmffgoomebaaGreat.Gx
open Go.RowKit Mem
section
variable {X : Cx} {f : Fr} {O R : List Fact} {ks k : List KI} {ops rest : List Oper} {o : Oper}
def Mv (X : Cx) (f : Fr) (O R : List Fact) (o : Oper) (N : Fr → List Fact → List Fact → Prop) : Prop := ∀ a w, Rel X.n X.ds a f → Kn X.E X.w0 w O R → ∀ (K : Act → World → Prop) (Q : Exit → Act → World → Prop),
 (∀ f' O' R' a' w', N f' O' R' → Rel X.n X.ds a' f' → Kn X.E X.w0 w' O' R' → K a' w') → o.wp X.P a w K Q
theorem g_mv (hw : wantG X.n f ops o.guard = some true) (h : Mv X f O R o (fun f' O' R' => G X ops rest k f' O' R')) (hdf : noDefer o.op = true := by rfl) : G X ops (o :: rest) k f O R := .mk fun a w hr hk => by
 have h1 := zaV hr hw
 unfold wpListIn
 rw [if_pos h1]
 exact zpl (h a w hr hk _ _ fun f' O' R' a' w' hN hr' hk' => hN.out a' w' hr' hk') hdf
variable {N : Fr → List Fact → List Fact → Prop}
def cellsL : Value → Option (List Value)
 | .agg ⟨l⟩ => some l
 | v => some [v]
theorem zmF {v : Value} {cs : List Value} (h : cellsL v = some cs) : v.cells = cs.toArray := by
 cases v with
 | agg l => injection h with h; subst h; rfl
 | _ => injection h with h; subst h; rfl
theorem zaT {dd : Nat} (hd : o.dst = some dd) {elem : Nat} {x : Operand} {v : Value} {cs : List Value} (ho : o.op = .box elem x) (hx : look X.n f x = some v) (hc : cellsL v = some cs)
 (hg : ∀ g, N ((dd, (.pointer (some ⟨g, 0, none⟩))) :: f) (blk g cs elem :: O) R) : Mv X f O R o N := fun a w hr hk K Q hK => by
 unfold Oper.wp
 have : (execOp a.eval o).run X.P w = .ok (.value (.pointer (some ⟨w.heap.size, 0, none⟩))) (w.alloc (.cells cs.toArray elem)) := by
  simp only [execOp, ho, hr.look hx, Instr.box, newVar, newRow, newObj, zmF hc]
  rfl
 rw [this]
 exact hK _ _ _ _ _ (hg _) (hr.put1 hd _) (hk.alloc cs elem)
theorem zay {dd : Nat} (hd : o.dst = some dd) (hT : TabOk X.P X.T) {elem t sz : Nat} {d : TD} {z : List Value} (ho : o.op = .alloc elem) (hty : tfind X.T elem = some ⟨t, d, sz, z⟩)
 (hg : ∀ g, N ((dd, (.pointer (some ⟨g, 0, none⟩))) :: f) (blk g z elem :: O) R) : Mv X f O R o N := fun a w hr hk K Q hK => by
 unfold Oper.wp
 have hty' := zal hT hty
 have e1 := hty'.1
 simp only at e1
 subst e1
 have hz := hty'.2.z
 have : (execOp a.eval o).run X.P w = .ok (.value (.pointer (some ⟨w.heap.size, 0, none⟩))) (w.alloc (.cells z.toArray t)) := by
  cases hi : X.P.info? t with
  | none => simp [hi] at hz
  | some inf =>
    cases hz0 : inf.zero with
    | none => simp [hi, hz0] at hz
    | some zv =>
      simp only [hi, hz0, Option.bind_some, Option.map_some] at hz
      have hz' : zv.cells = z.toArray := by injection hz
      simp [execOp, ho, Instr.alloc, zeroValue, typeInfo, hi, hz0, newVar, newRow, newObj, hz', Sem.run]
 rw [this]
 exact hK _ _ _ _ _ (hg _) (hr.put1 hd _) (hk.alloc z t)
inductive StO (g off : Nat) (vs : List Value) : List Fact → List Fact → Prop
 | here {cs cs' : List Value} {T : TypeId} {O : List Fact} (h : setsO cs off vs = some cs') : StO g off vs (blk g cs T :: O) (blk g cs' T :: O)
 | there {χ : Fact} {O O' : List Fact} (h : StO g off vs O O') : StO g off vs (χ :: O) (χ :: O')
theorem StO.upd {g off : Nat} {vs : List Value} {O O' : List Fact} (h : StO g off vs O O') : ∃ cs cs' T, setsO cs off vs = some cs' ∧ Upd (blk g cs T) (blk g cs' T) O O' := by
 induction h with
 | here h => exact ⟨_, _, _, h, .here _⟩
 | there h ih => obtain ⟨cs, cs', T, h1, h2⟩ := ih; exact ⟨cs, cs', T, h1, .there _ h2⟩
def oneB : Value → Bool
 | .agg _ => false
 | .tuple _ => false
 | _ => true
theorem zpm {v : Value} (h : oneB v = true) : v.oneCell' = true := by cases v <;> first | rfl | cases h
theorem zfs {P : Program} {E : List Nat} {w0 : World} {R : List Fact} {g : Nat} {T : TypeId} : ∀ (vs : List Value) (i off : Nat) (cs cs' : List Value) (O O' : List Fact) (w : World), vs.all oneB = true → Kn E w0 w O R → setsO cs (off + i) vs = some cs' → Upd (blk g cs T) (blk g cs' T) O O' →
 ∃ w', (storeCells ⟨g, off, none⟩ vs i).run P w = .ok () w' ∧ Kn E w0 w' O' R
 | [], i, off, cs, cs', O, O', w, _, hk, hs, hu => by
   have e := Option.some.inj hs
   subst e
   have : O' = O := by
    clear hk
    induction hu with
    | here O => rfl
    | there χ h ih => rw [ih]
   subst this
   exact ⟨w, rfl, hk⟩
 | v :: r, i, off, cs, cs', O, O', w, h1, hk, hs, hu => by
   rw [List.all_cons, Bool.and_eq_true] at h1
   unfold setsO at hs
   split at hs
   ·rename_i z hz
    obtain ⟨e1, e2⟩ := zfW hz
    have hu1 : ∃ O1, Upd (blk g cs T) (blk g z T) O O1 ∧ Upd (blk g z T) (blk g cs' T) O1 O' := by
     clear hk
     induction hu with
     | here O => exact ⟨_, .here _, .here _⟩
     | there χ h ih => obtain ⟨O1, a, b⟩ := ih; exact ⟨_, .there _ a, .there _ b⟩
    obtain ⟨O1, u1, u2⟩ := hu1
    have hb : w.heap[g]? = some (.cells cs.toArray T (0, 0)) := hk.pO _ hu.mem
    have hcell : w.cell? ⟨g, off + i, none⟩ = some (cs[off + i]'e2) := by
     rw [cell_of_row w g _ cs.toArray T (0, 0) hb]; simp
    have hfr : w.frozen? ⟨g, off + i, none⟩ = false := frozen_of_row w g _ cs.toArray T hb
    have hk1 := Kn.store hk v (i := off + i) (by rw [← e1]; exact u1)
    obtain ⟨w', r1, r2⟩ := zfs r (i + 1) off z cs' O1 O' _ h1.2 hk1 (by rw [← Nat.add_assoc]; exact hs) u2
    refine ⟨w', ?_, r2⟩
    have hst : ∀ (u : Value), oneB u = true → (store ⟨g, off + i, none⟩ u).run P w = .ok () (w.setCell ⟨g, off + i, none⟩ u) := fun u hu => by
     cases u <;> first | (cases hu; done) | simp [store, Sem.run, hcell, hfr]
    unfold storeCells
    rw [add_lit, Sem.run_bind, hst v h1.1]
    exact r1
   ·cases hs
theorem zat (hT : TabOk X.P X.T) {ty : Nat} {ad vl : Operand} {g off t sz : Nat} {d : TD} {z vs : List Value} {v : Value} {O' : List Fact} (ho : o.op = .store ty ad vl)
 (hx : look X.n f ad = some (.pointer (some ⟨g, off, none⟩))) (hv : look X.n f vl = some v) (hty : tfind X.T ty = some ⟨t, d, sz, z⟩) (hc : cellsN v sz (agg? d) = some vs) (h1 : vs.all oneB = true) (hs : StO g off vs O O')
 (hd : o.dst = none) (hg : N f O' R) : Mv X f O R o N := fun a w hr hk K Q hK => by
 unfold Oper.wp
 have hty' := zal hT hty
 have e1 := hty'.1
 simp only at e1
 subst e1
 obtain ⟨c1, c2, _⟩ := ze9 hc
 obtain ⟨cs, cs', Tg, s1, s2⟩ := hs.upd
 obtain ⟨w', r1, r2⟩ := zfs (P := X.P) vs 0 off cs cs' O O' w h1 hk (by simpa using s1) s2
 have hsz : v.cells.size = sz := by rw [← Array.length_toList, c1, c2]
 have : (execOp a.eval o).run X.P w = .ok .skip w' := by
  simp [execOp, ho, hr.look hx, hr.look hv, Instr.storeAt, Instr.sureAddr, storeVar, run_sizeOf hty'.2.sz w, hsz, c1, r1]
 rw [this]
 exact hK _ _ _ _ _ hg (hr.put0 hd _) r2
def callable (P : Program) (fid : Nat) : Bool := match P.funcs[fid]? with | some fn => fn.body.isSome && fn.name != "runtime.NumGoroutine" | none => false
theorem zni {P : Program} {a : Act} {o : Oper} {c : Call} {fid : Nat} {args : List Value} (ho : o.op = .call c) (hc : a.eval (match c.callee with | .value x => x | _ => .const undef) = .func (.func fid) #[] #[]) (hcv : ∃ x, c.callee = .value x) (ha : c.args.toList.map a.eval = args)
 (hok : callable P fid = true) (w : World) : (execOp a.eval o).run P w = .ok (.enter fid args.toArray) w := by
 obtain ⟨x, hx⟩ := hcv
 rw [hx] at hc
 unfold callable at hok
 split at hok
 ·rename_i fn hfn
  rw [Bool.and_eq_true] at hok
  have hn : (fn.name == "runtime.NumGoroutine") = false := by simpa using hok.2
  have hb : fn.body.isNone = false := by
   cases h : fn.body with
   | none => rw [h] at hok; simp at hok
   | some b => rfl
  have e : c.args.map a.eval = args.toArray := by apply Array.ext'; simpa using ha
  have hn' : ¬ fn.name = "runtime.NumGoroutine" := by simpa using hn
  have hb' : ¬ fn.body = none := fun e => by rw [e] at hb; cases hb
  simp only at hc
  simp [execOp, ho, resolve, hx, hc, Deferred.ofValue, invoke, callFunc, hfn, hn', hb', e]
 ·cases hok
theorem zce {dd : Nat} (hd : o.dst = some dd) {c : Call} {x : Operand} {fid : Nat} {args : List Value} (ho : o.op = .call c) (hc : c.callee = .value x) (hx : look X.n f x = some (.func (.func fid) #[] #[])) (ha : lookL X.n f c.args.toList = some args) (hok : callable X.P fid = true)
 (h : ∀ w, Kn X.E X.w0 w O R → Calls X.P fid args.toArray w fun e w' => ∃ v O' R', e = .returned v ∧ Kn X.E X.w0 w' O' R' ∧ N ((dd, v) :: f) O' R') : Mv X f O R o N := fun a w hr hk K Q hK => by
 unfold Oper.wp
 rw [zni ho (by rw [hc]; exact hr.look hx) ⟨x, hc⟩ (zaR hr ha) hok w]
 refine (h w hk).mono ?_
 rintro e w' ⟨v, O', R', rfl, hk', hg⟩
 exact hK _ _ _ _ _ hg (hr.put1 hd _) hk'
theorem zau {fid : Nat} {args : List Value} {v : Value} (h : ∀ w, Kn X.E X.w0 w O R → Calls X.P fid args.toArray w fun e w' => e = .returned v ∧ Below w.heap.size w w') {dd : Nat} (hd : o.dst = some dd) {c : Call} {x : Operand} (ho : o.op = .call c) (hc : c.callee = .value x) (hx : look X.n f x = some (.func (.func fid) #[] #[])) (ha : lookL X.n f c.args.toList = some args) (hok : callable X.P fid = true)
 (hg : N ((dd, v) :: f) O R) : Mv X f O R o N :=
 zce hd ho hc hx ha hok fun w hk => (h w hk).mono fun e w' ⟨he, hw⟩ => ⟨v, O, R, he, hk.below hw, hg⟩
theorem exists_least {p : Nat → Prop} : ∀ (m : Nat), p m → ∃ j, p j ∧ ∀ i, p i → j ≤ i := fun m => by
 induction m using Nat.strongRecOn with
 | _ m ih =>
   intro hm
   by_cases h : ∃ i, i < m ∧ p i
   ·obtain ⟨i, h1, h2⟩ := h; exact ih i h1 h2
   ·exact ⟨m, hm, fun i hi => Nat.le_of_not_lt fun hlt => h ⟨i, hlt, hi⟩⟩
def LInv (X : Cx) {σ : Type} (I : σ → Prop) (F : σ → Fr) (OO RR : σ → List Fact) (μ : σ → Nat) (m : Nat) (a : Act) (w : World) : Prop := ∃ s, I s ∧ μ s < m ∧ Rel X.n X.ds a (F s) ∧ Kn X.E X.w0 w (OO s) (RR s)
theorem zlT {σ : Type} (I : σ → Prop) (F : σ → Fr) (OO RR : σ → List Fact) (μ : σ → Nat) (s0 : σ) {c : Code} (h : nx 1000 ks = some (.loop c k)) (h0 : I s0) (hf : FSub X.n f (F s0)) (hO : (OO s0).Sublist O) (hR : RR s0 ⊆ R)
 (step : ∀ s, I s → GK X (.code c :: .inv (LInv X I F OO RR μ (μ s)) :: k) (F s) (OO s) (RR s)) : GK X ks f O R := .mk fun a w hr hk => by
 refine zaI h ?_
 let p : Act → World → Nat → Prop := fun a w m => ∃ s, I s ∧ μ s = m ∧ Rel X.n X.ds a (F s) ∧ Kn X.E X.w0 w (OO s) (RR s)
 let ν : Act → World → Nat := fun a w => open Classical in if h : ∃ m, p a w m then Classical.choose (exists_least h.choose h.choose_spec) else 0
 have hν : ∀ a w m, p a w m → p a w (ν a w) ∧ ν a w ≤ m := fun a w m hm => by
  have hex : ∃ m, p a w m := ⟨m, hm⟩
  have e : ν a w = Classical.choose (exists_least hex.choose hex.choose_spec) := by
   show (open Classical in if h : ∃ m, p a w m then Classical.choose (exists_least h.choose h.choose_spec) else 0) = _
   rw [dif_pos hex]
  have hs := Classical.choose_spec (exists_least hex.choose hex.choose_spec)
  rw [e]
  exact ⟨hs.1, hs.2 m hm⟩
 refine wpIn_loop (fun a w => ∃ m, p a w m) ν ⟨μ s0, s0, h0, rfl, hr.sub hf, hk.weak hO hR⟩ fun a w ⟨m, hm⟩ => ?_
 obtain ⟨⟨s, h1, h2, h3, h4⟩, _⟩ := hν a w m hm
 have := (step s h1).out a w h3 h4
 refine Code.wpIn_mono ?_ this
 intro e a' w' hq
 cases e with
 | normal =>
   obtain ⟨s', i1, i2, i3, i4⟩ := hq
   have hp : p a' w' (μ s') := ⟨s', i1, rfl, i3, i4⟩
   exact ⟨⟨_, hp⟩, Nat.lt_of_le_of_lt (hν a' w' _ hp).2 (by rw [← h2]; exact i2)⟩
 | _ => exact hq
theorem znS {σ : Type} {I : σ → Prop} {F : σ → Fr} {OO RR : σ → List Fact} {μ : σ → Nat} {m : Nat} (h : nx 1000 ks = some (.inv (LInv X I F OO RR μ m))) (s' : σ) (hi : I s') (hm : μ s' < m) (hf : FSub X.n f (F s')) (hO : (OO s').Sublist O) (hR : RR s' ⊆ R) : GK X ks f O R := .mk fun a w hr hk =>
 zaI h ⟨s', hi, hm, hr.sub hf, hk.weak hO hR⟩
inductive ResOk (X : Cx) (f : Fr) (O : List Fact) : List ResultVar → List Value → Prop
 | nil : ResOk X f O [] []
 | tmp {t : Nat} {v : Value} {rs : List ResultVar} {vs : List Value} (h : look X.n f (.tmp t) = some v) (hr : ResOk X f O rs vs) : ResOk X f O (.tmp t :: rs) (v :: vs)
 | cell {t ty g Tg tt sz : Nat} {d : TD} {z cs : List Value} {v : Value} {rs : List ResultVar} {vs : List Value} (h : look X.n f (.tmp t) = some (.pointer (some ⟨g, 0, none⟩))) (hm : blk g cs Tg ∈ O) (hty : tfind X.T ty = some ⟨tt, d, sz, z⟩) (hv : loadV (agg? d) sz cs 0 = some v) (hr : ResOk X f O rs vs) : ResOk X f O (.cell t ty :: rs) (v :: vs)
def resVal : List Value → Value
 | [v] => v
 | vs => .tuple vs.toArray
def resOne (tmps : Array Value) : ResultVar → Sem Value
 | .tmp t => pure (tmps.getD t undef)
 | .cell b t => do loadVar t (← asAddr (tmps.getD b undef))
theorem znh (hT : TabOk X.P X.T) {a : Act} {w : World} (hr : Rel X.n X.ds a f) (hk : Kn X.E X.w0 w O R) : ∀ {rs : List ResultVar} {vs : List Value}, ResOk X f O rs vs →
 (rs.mapM (resOne a.tmps)).run X.P w = .ok vs w := by
 intro rs vs h
 induction h with
 | nil => rfl
 | tmp h _ ih =>
   have e := hr.look h
   rw [List.mapM_cons]
   have e' : a.tmps.getD _ undef = _ := e
   simp only [resOne, Sem.run_bind, Sem.run_pure, Result.andThen_ok, e']
   rw [ih]
   rfl
 | cell h hm hty hv _ ih =>
   have e := hr.look h
   have hb := hk.pO _ hm
   have hty' := zal hT hty
   have e1 := hty'.1
   simp only at e1
   subst e1
   have hl := zaS hty'.2.d hty'.2.sz w _ 0 _ (fun i u hu => by rw [Nat.zero_add, cell_of_row w _ i _ _ (0, 0) hb]; simpa using hu) hv
   rw [List.mapM_cons]
   have e' : a.tmps.getD _ undef = _ := e
   simp only [resOne, Sem.run_bind, Sem.run_pure, Result.andThen_ok, e', asAddr, hl]
   rw [ih]
   rfl
theorem zct (hT : TabOk X.P X.T) {a : Act} {w : World} (hr : Rel X.n X.ds a f) (hk : Kn X.E X.w0 w O R) {rs : List ResultVar} {vs : List Value} (hrs : X.fn.results = rs.toArray) (h : ResOk X f O rs vs) : (results X.fn a.tmps).run X.P w = .ok (resVal vs) w := by
 have h1 := znh hT hr hk h
 have h2 : results X.fn a.tmps = (do
  let vs ← X.fn.results.mapM (resOne a.tmps)
  pure (if h : vs.size = 1 then vs[0] else .tuple vs)) := by
  unfold results
  congr 1
 rw [h2, hrs]
 simp only [List.mapM_toArray, Sem.run_bind, Sem.run_map, h1, Result.andThen_ok, Sem.run_pure]
 congr 1
 match vs with
 | [] => rfl
 | [v] => rfl
 | v :: u :: r => simp [resVal]
def dfr (D : Nat) : Fact := ⟨fun b => b = D, fun w => w.heap[D]? = some (.deferred (some [])), fun w w' h hp => (h D rfl).trans hp⟩
def markD (D : Nat) : Deferred := { target := .collected D, args := #[] }
theorem zcj {P : Program} {fn : Func} {tmps : Array Value} {R : Ending → World → Prop} {w : World} {v : Value} (h : (results fn tmps).run P w = .ok v w) (hp : R (.returned v) w) : LeavesInM Fence.wide 0 P fn tmps R [] .returning w := ⟨v, h, hp⟩
theorem zad (hT : TabOk X.P X.T) {rs : List ResultVar} {vs : List Value} (h : nx 1000 ks = some .ret) (hrs : X.fn.results = rs.toArray) (hv : ResOk X f O rs vs) (hp : ∀ w, Kn X.E X.w0 w O R → X.Post (.returned (resVal vs)) w) (hds : X.ds = [] := by rfl) (hrd : X.rd = none := by rfl) : GK X ks f O R := .mk fun a w hr hk => by
 refine zaI h ?_
 show X.Q .ret a w
 unfold Cx.Q
 rw [hrd]
 show LeavesInM Fence.wide 0 X.P X.fn a.tmps X.Post a.defers .returning w
 rw [hr.defers, hds]
 exact zcj (zct hT hr hk hrs hv) (hp w hk)
theorem zdG (hT : TabOk X.P X.T) {rs : List ResultVar} {vs : List Value} (h : nx 1000 ks = some .fin) (hrs : X.fn.results = rs.toArray) (hv : ResOk X f O rs vs) (hp : ∀ w, Kn X.E X.w0 w O R → X.Post (.returned (resVal vs)) w) (hds : X.ds = [] := by rfl) (hrd : X.rd = none := by rfl) : GK X ks f O R := .mk fun a w hr hk => by
 refine zaI h ?_
 show X.Q .normal a w
 unfold Cx.Q
 rw [hrd]
 show LeavesInM Fence.wide 0 X.P X.fn a.tmps X.Post a.defers .returning w
 rw [hr.defers, hds]
 exact zcj (zct hT hr hk hrs hv) (hp w hk)
end
end Go.Proofs.YtaghmffgoomebaaGreat.Gx
namespace Go.Proofs.YtaghmffgoomebaaGreat.Gx
open Go.RowKit Mem
section
variable {E : List Nat} {w0 w w' : World} {O R O' : List Fact}
theorem Kn.addO (h : Kn E w0 w O R) (ψ : Fact) (hp : ψ.p w) (hn : ∀ b, ¬ ψ.S b) : Kn E w0 w (ψ :: O) R where
 os := h.os
 tape := h.tape
 output := h.output
 size := h.size
 block := h.block
 ownS φ hφ b hS := by
  rcases List.mem_cons.1 hφ with rfl | h1
  ·exact absurd hS (hn b)
  ·exact h.ownS φ h1 b hS
 ltO φ hφ b hS := by
  rcases List.mem_cons.1 hφ with rfl | h1
  ·exact absurd hS (hn b)
  ·exact h.ltO φ h1 b hS
 ltR := h.ltR
 pO φ hφ := by
  rcases List.mem_cons.1 hφ with rfl | h1
  ·exact hp
  ·exact h.pO φ h1
 pR := h.pR
 disO := List.pairwise_cons.2 ⟨fun χ _ b hb => absurd hb (hn b), h.disO⟩
 disR φ hφ ψ' hψ b h1 h2 := by
  rcases List.mem_cons.1 hφ with rfl | h3
  ·exact absurd h1 (hn b)
  ·exact h.disR φ h3 ψ' hψ b h1 h2
theorem Kn.grew {α β : Type} [Inhabited α] [Inhabited β] {base base' : Nat} {e e' : TypeId} {sz sz' : Nat} {v v' : Value} {enc : α → Nat → Value} {L : List α} {enc' : β → Nat → Value} {L' : List β} (h : Kn E w0 w O R) (hg : Grew w w' v v') (ho : OwnL w' base' e' sz' v' enc' L')
 (hu : Upd (own base e sz v enc L) (own base' e' sz' v' enc' L') O O') : Kn E w0 w' O' R :=
 h.upd hu hg.1.os hg.1.tape hg.1.output hg.1.size (fun b hb hne => hg.1.block b hb (fun e => hne e.symm)) ho (fun b hb => by
  have hb' : v'.ownBlock = some b := hb
  refine ⟨?_, (OwnL.lt' ho b hb').2⟩
  rcases hg.2 with h1 | ⟨k, h1, h2⟩
  ·exact .inl (by rw [h1] at hb'; exact hb')
  ·rw [h1] at hb'
   injection hb' with hb'
   subst hb'
   exact .inr h2)
theorem Kn.argR {α : Type} [Inhabited α] {A : Option Addr} {sz : Nat} {enc : α → Nat → Value} {L : List α} (h : Kn E w0 w0 O R) (hs : Sl w0 A sz enc L) (hsz : 0 < sz) (hO : ∀ φ ∈ O, ∀ b, φ.S b → ¬ (sl A sz enc L).S b) : Kn E w0 w0 O (sl A sz enc L :: R) :=
 h.addR _ hs (fun b hb => by
  obtain ⟨hn, a, ha, hab⟩ := hb
  obtain ⟨b', off, e1, hc⟩ := hs hn
  rw [e1] at ha
  injection ha with ha
  have := lt_of_cell (hc 0 hn 0 hsz)
  rw [← hab, ← ha]
  exact this) hO
end
section
variable {X : Cx} {f : Fr} {O R : List Fact} {ks k : List KI} {ops rest : List Oper} {o : Oper} {N : Fr → List Fact → List Fact → Prop}
def encF {α : Type} (enc : α → Nat → Value) (y : α) : Nat → Nat → List Value
 | _, 0 => []
 | j, n + 1 => enc y j :: encF enc y (j + 1) n
theorem zeq {α : Type} (enc : α → Nat → Value) (y : α) : ∀ (n j i : Nat) (v : Value), (encF enc y j n)[i]? = some v → i < n ∧ v = enc y (j + i)
 | 0, j, i, v, h => by simp [encF] at h
 | n + 1, j, 0, v, h => by simp [encF] at h; exact ⟨by omega, h.symm⟩
 | n + 1, j, i + 1, v, h => by
   simp [encF] at h
   obtain ⟨h1, h2⟩ := zeq enc y n (j + 1) i v h
   exact ⟨by omega, by rw [h2, Nat.add_assoc, Nat.add_comm 1 i]⟩
def rep : Nat → List Value → List Value
 | 0, _ => []
 | n + 1, z => rep n z ++ z
def segs (sz : Nat) (g : Bool) : Nat → Nat → List (Nat × Nat × Bool)
 | _, 0 => []
 | o, n + 1 => (o, sz, g) :: segs sz g (o + sz) n
theorem zfX (sz : Nat) (g : Bool) : ∀ (n o i a b : Nat) (c : Bool), (segs sz g o n)[i]? = some (a, b, c) → a = o + i * sz ∧ b = sz
 | 0, o, i, a, b, c, h => by simp [segs] at h
 | n + 1, o, 0, a, b, c, h => by simp [segs] at h; simp [h.1, h.2.1]
 | n + 1, o, i + 1, a, b, c, h => by
   simp [segs] at h
   obtain ⟨h1, h2⟩ := zfX sz g n (o + sz) i a b c h
   refine ⟨by rw [h1, Nat.add_mul]; omega, h2⟩
theorem zkR (z : Array Value) (hz : 0 < z.size) : ∀ n, ((List.range (n * z.size)).map fun i => z[i % z.size]!) = rep n z.toList
 | 0 => by simp [rep]
 | n + 1 => by
   rw [Nat.add_mul, Nat.one_mul, List.range_add, List.map_append, zkR z hz n, List.map_map]
   refine congrArg (rep n z.toList ++ ·) (a₂ := z.toList) ?_
   apply List.ext_getElem?
   intro i
   by_cases hi : i < z.size
   ·simp [List.getElem?_range hi, hi, Nat.add_mod, Nat.mul_mod_left, Nat.mod_eq_of_lt hi]
   ·rw [List.getElem?_eq_none (by simp; omega), List.getElem?_eq_none (by simp; omega)]
theorem zaa {dd : Nat} (hd : o.dst = some dd) (hT : TabOk X.P X.T) {ty len e sz t s t' s' : Nat} {z z' cs : List Value} {d : TD} {ps : Array (Nat × Operand)} {l : List (Nat × Value)} (ho : o.op = .buildSlice ty len ps) (hl : lookAll X.n f ps.toList = some l)
 (hty : tfind X.T ty = some ⟨t, .slice e sz, s, z⟩) (hte : tfind X.T e = some ⟨t', d, s', z'⟩) (hn : Nat.ble (len * sz) 1000 = true) (hsz : Nat.blt 0 sz = true) (hzl : Nat.beq z'.length sz = true) (hf : fillL (segs sz (agg? d) 0 len) (rep len z') l = some cs)
 (hg : ∀ g, N ((dd, (.slice (some ⟨g, 0, none⟩) len len)) :: f) (blk g cs e :: O) R) : Mv X f O R o N := fun a w hr hk K Q hK => by
 unfold Oper.wp
 obtain ⟨ht, hk1⟩ := zal hT hty
 obtain ⟨hte1, hk2⟩ := zal hT hte
 simp only at ht hte1
 subst ht
 subst hte1
 obtain ⟨hu, hes⟩ := za7 hk1.d
 have hss : s' = sz := by
  obtain ⟨i1, h2, h3⟩ := zcq hes
  obtain ⟨i2, h4, h5⟩ := zcq hk2.sz
  rw [h2] at h4
  injection h4 with h4
  have h5' : i2.size = s' := h5
  rw [← h5', ← h3, h4]
 subst hss
 have hz := hk2.z
 have hn' := Nat.le_of_ble_eq_true hn
 have hsz' : 0 < s' := Nat.le_of_ble_eq_true hsz
 cases hi : X.P.info? t' with
 | none => simp [hi] at hz
 | some inf =>
   cases hz0 : inf.zero with
   | none => simp [hi, hz0] at hz
   | some zv =>
     simp only [hi, hz0, Option.bind_some, Option.map_some] at hz
     have hz' : zv.cells = z'.toArray := by injection hz
     by_cases hlen : len = 0
     ·subst hlen
      have hcs : cs = [] ∧ l = [] := by
       cases l with
       | nil => injection hf with hf; exact ⟨hf.symm, rfl⟩
       | cons q r => obtain ⟨i, v⟩ := q; simp [fillL, segs] at hf
      have hps : ps = #[] := by
       have := zci hr hl
       rw [hcs.2] at this
       apply Array.ext'
       simpa using this
      have hrun : (execOp a.eval o).run X.P w = .ok (.value (.slice (some ⟨w.heap.size, 0, none⟩) 0 0)) (w.alloc (.cells cs.toArray t')) := by
       simp [execOp, ho, Instr.buildSlice, run_underlying hu, run_sizeOf hes w, hps, Instr.fill, newRow, newObj, Sem.run, hcs.1]
       congr 1
       simp
      rw [hrun]
      exact hK _ _ _ _ _ (hg _) (hr.put1 hd _) (hk.alloc cs t')
     ·have hzs : z'.length = s' := Nat.eq_of_beq_eq_true hzl
      have hrun : (execOp a.eval o).run X.P w = .ok (.value (.slice (some ⟨w.heap.size, 0, none⟩) len len)) (w.alloc (.cells cs.toArray t')) := by
       have e : (ps.map fun x => (x.1, a.eval x.2)).toList = l := by rw [← zci hr hl]; simp
       have hrep := zkR z'.toArray (by simp; omega) len
       have hfill := fill_eq (P := X.P) (place := fun i => some (i * s', s')) (fun i o n g h => by
        obtain ⟨h2, h3⟩ := zfX _ _ _ _ _ _ _ _ h
        rw [h2, h3, Nat.zero_add]
        exact ⟨rfl, by omega⟩) hf
       have hne : ¬ len * s' = 0 := by
        intro e; rcases Nat.mul_eq_zero.1 e with h | h <;> omega
       have hbig : ¬ len * s' > 2 ^ 24 := by omega
       have hz2 : (zeroValue t').run X.P w = .ok zv w := by simp [zeroValue, typeInfo, hi, hz0]
       have harr : ((Array.range (len * s')).map fun i => (z'.toArray)[i % z'.toArray.size]!) = (rep len z').toArray := by
        apply Array.ext'
        rw [Array.toList_map, Array.toList_range]
        simp only [List.size_toArray, hzs] at hrep ⊢
        exact hrep
       simp only [execOp, ho, Instr.buildSlice, Sem.run_bind, run_underlying hu, Result.andThen_ok, run_sizeOf hes w]
       rw [if_neg hbig, if_neg hne]
       simp only [Sem.run_bind, Sem.run_pure, Result.andThen_ok, hz2, hz', harr, e, hfill]
       rfl
      rw [hrun]
      exact hK _ _ _ _ _ (hg _) (hr.put1 hd _) (hk.alloc cs t')
def Src (X : Cx) (O R : List Fact) {α : Type} [Inhabited α] (A : Option Addr) (sz : Nat) (enc : α → Nat → Value) (M : List α) : Prop := ∀ w, Kn X.E X.w0 w O R → Sl w A sz enc M
theorem zcG {α : Type} [Inhabited α] {A : Option Addr} {sz : Nat} {enc : α → Nat → Value} {M : List α} (h : sl A sz enc M ∈ R) : Src X O R A sz enc M := fun w hk => hk.pR _ h
theorem src_O {α : Type} [Inhabited α] {A : Option Addr} {sz : Nat} {enc : α → Nat → Value} {M : List α} (h : sl A sz enc M ∈ O) : Src X O R A sz enc M := fun w hk => hk.pO _ h
def flatF {α : Type} (sz : Nat) (enc : α → Nat → Value) : List α → List Value
 | [] => []
 | y :: r => encF enc y 0 sz ++ flatF sz enc r
theorem zcA {α : Type} (enc : α → Nat → Value) (y : α) : ∀ (n j : Nat), (encF enc y j n).length = n
 | 0, j => rfl
 | n + 1, j => by simp [encF, zcA enc y n (j + 1)]
theorem zbe {α : Type} [Inhabited α] (sz : Nat) (enc : α → Nat → Value) : ∀ (M : List α) (i j : Nat) (y : α), M[i]? = some y → j < sz → (flatF sz enc M)[i * sz + j]? = some (enc y j)
 | [], i, j, y, h, _ => by simp at h
 | x :: r, 0, j, y, h, hj => by
   simp at h
   subst h
   unfold flatF
   rw [Nat.zero_mul, Nat.zero_add, List.getElem?_append_left (by rw [zcA]; exact hj)]
   cases hq : (encF enc x 0 sz)[j]? with
   | none => rw [List.getElem?_eq_none_iff, zcA] at hq; omega
   | some v => rw [(zeq enc x sz 0 j v hq).2, Nat.zero_add]
 | x :: r, i + 1, j, y, h, hj => by
   unfold flatF
   rw [List.getElem?_append_right (by rw [zcA, Nat.add_mul]; omega), zcA, show (i + 1) * sz + j - sz = i * sz + j by rw [Nat.add_mul]; omega]
   exact zbe sz enc r i j y (by simpa using h) hj
theorem zah {α : Type} [Inhabited α] {g T : Nat} {cs : List Value} {sz : Nat} {enc : α → Nat → Value} {M : List α} (h : blk g cs T ∈ O) (he : cs = flatF sz enc M) : Src X O R (some ⟨g, 0, none⟩) sz enc M := fun w hk hn => by
 have hb : w.heap[g]? = some (.cells cs.toArray T (0, 0)) := hk.pO _ h
 refine ⟨g, 0, rfl, fun i hi j hj => ?_⟩
 have hy : M[i]? = some M[i] := List.getElem?_eq_getElem hi
 rw [Nat.zero_add, cell_of_row w g _ cs.toArray T (0, 0) hb, zfg hy, he]
 simpa using zbe sz enc M i j _ hy hj
theorem zac {dd : Nat} (hd : o.dst = some dd) {α : Type} [Inhabited α] {enc : α → Nat → Value} {L : List α} (M : List α) {c : Call} {v : Value} {A : Option Addr} {m cc t e sz bytes base : Nat} {OO : Value → List Fact} (ho : o.op = .call c) (hc : c.callee = .builtin .append) (ha : lookL X.n f c.args.toList = some [v, .slice A m cc]) (hat : c.argTypes.toList = [t, t])
 (hE : Elt X.P t e sz bytes) (hu : ∀ v', Upd (own base e sz v enc L) (own base e sz v' enc (L ++ M)) O (OO v')) (hs : Src X O R A sz enc M) (hm : m = M.length) (h1 : ∀ x j, (enc x j).oneCell' = true) (h63 : L.length + M.length ≤ maxLen) (hbytes : (L.length + M.length) * bytes ≤ 140737488355328) (hbase : base ≤ X.w0.heap.size)
 (hg : ∀ v', N ((dd, v') :: f) (OO v') R) : Mv X f O R o N := fun a w hr hk K Q hK => by
 have hargs := zaR hr ha
 obtain ⟨ca, args, tys⟩ := c
 obtain ⟨args⟩ := args
 obtain ⟨tys⟩ := tys
 simp only at hc hat hargs
 subst hc
 match args, hargs with
 | [s, x], hargs =>
   simp at hargs
   obtain ⟨e1, e2⟩ := hargs
   subst hat
   have hown : OwnL w base e sz v enc L := hk.pO _ (hu v).mem
   exact zcE w s x t ho hE base enc v L e1 hown A m cc M e2 hm (hs w hk) h1 h63 hbytes (Nat.le_trans hbase hk.size) fun v' w' h2 h3 => hK _ _ _ _ _ (hg v') (hr.put1 hd _) (Kn.grew hk h3 h2 (hu v'))
 | [], hargs => simp at hargs
 | [_], hargs => simp at hargs
 | _ :: _ :: _ :: _, hargs => simp at hargs
theorem zbO (base e sz : Nat) {α : Type} [Inhabited α] (enc : α → Nat → Value) (hg : GK X ks f (own base e sz (.slice none 0 0) enc ([] : List α) :: O) R) : GK X ks f O R := .mk fun a w hr hk =>
 hg.out a w hr (hk.addO _ OwnL.nil (fun b hb => by cases hb))
theorem g_own (base e sz : Nat) {α : Type} [Inhabited α] (enc : α → Nat → Value) {l : List Oper} (hg : G X ops l k f (own base e sz (.slice none 0 0) enc ([] : List α) :: O) R) : G X ops l k f O R := .mk fun a w hr hk =>
 hg.out a w hr (hk.addO _ OwnL.nil (fun b hb => by cases hb))
theorem Kn.ownSl {E : List Nat} {w0 w : World} {α : Type} [Inhabited α] {base e sz : Nat} {v : Value} {enc : α → Nat → Value} {L : List α} (hk : Kn E w0 w O R) (h : own base e sz v enc L ∈ O) :
 ∃ A c, v = .slice A L.length c ∧ Sl w A sz enc L ∧ L.length ≤ c ∧ c ≤ maxLen ∧ (A = none → c = 0) ∧ (∀ a, A = some a → base ≤ a.block ∧ a.block < w.heap.size) := OwnL.sl (hk.pO _ h)
end
end Go.Proofs.YtaghmffgoomebaaGreat.Gx
namespace Go.Proofs.YtaghmffgoomebaaGreat.Gx
open Go.RowKit Mem
theorem zdq {F : Fence} {P : Program} {Q : Exit → Act → World → Prop} {c : List PanicEntry} {a : Act} {w : World} : ∀ {ks : List KI}, wpK F P Q ks (.panic c) a w ↔ Q (.panic c) a w
 | [] => Iff.rfl
 | .code _ :: k => zdq (ks := k)
 | .blk _ :: k => zdq (ks := k)
 | .inv _ :: k => zdq (ks := k)
theorem zhM (X : Cx) (ks : List KI) (d : Option Tmp) (v : Value) : ∀ c a w, wpK X.F X.P X.Q ks (.panic c) (a.put d v) w → wpK X.F X.P X.Q ks (.panic c) a w := fun c a w h => by
 rw [zdq] at h
 unfold Cx.Q at h
 cases hx : X.rd with
 | none => rw [hx] at h; exact h.elim
 | some r => rw [hx] at h; exact h.elim
theorem zd7 {F : Fence} {P : Program} {c : Code} {Q : Exit → Act → World → Prop} {a : Act} {w : World} (hF : F = Fence.wide) (h : c.wp P Q a w) : c.wpIn F 0 P Q a w := by subst hF; exact wpIn_wide.2 h
theorem Cx.wide {X : Cx} (h : X.rd = none) : X.F = Fence.wide := by unfold Cx.F Cx.rn; rw [h]; rfl
def firstK (n k : Nat) : Array Bool := ((List.range n).map fun i => Nat.blt i k).toArray
theorem zid (n : Nat) : firstK n 0 = Array.replicate n false := by
 apply Array.ext'
 unfold firstK
 apply List.ext_getElem?
 intro i
 by_cases hi : i < n
 ·have : Nat.blt i 0 = false := rfl
  simp [List.getElem?_range hi, hi]
  rfl
 ·rw [List.getElem?_eq_none (by simp; omega), List.getElem?_eq_none (by simp; omega)]
theorem zdj (n k : Nat) (hk : k < n) : (firstK n k).setIfInBounds k true = firstK n (k + 1) := by
 apply Array.ext'
 unfold firstK
 apply List.ext_getElem?
 intro i
 by_cases hi : i < n
 ·by_cases e : k = i
  ·subst e
   have : Nat.blt k (k + 1) = true := Nat.ble_eq_true_of_le (Nat.le_refl _)
   simp [List.getElem?_range hi, hi, this]
  ·have e1 : Nat.blt i k = Nat.blt i (k + 1) := by
    rcases Nat.lt_or_ge i k with h | h
    ·rw [show Nat.blt i k = true from Nat.ble_eq_true_of_le h, show Nat.blt i (k + 1) = true from Nat.ble_eq_true_of_le (by omega)]
    ·have h1 : Nat.blt i k = false := by
      cases hb : Nat.blt i k with
      | false => rfl
      | true => have := Nat.le_of_ble_eq_true hb; omega
     have h2 : Nat.blt i (k + 1) = false := by
      cases hb : Nat.blt i (k + 1) with
      | false => rfl
      | true => have := Nat.le_of_ble_eq_true hb; omega
     rw [h1, h2]
   rw [Array.toList_setIfInBounds, List.getElem?_set_ne e]
   simp [List.getElem?_range hi, e1]
 ·rw [List.getElem?_eq_none (by simp; omega), List.getElem?_eq_none (by simp; omega)]
section
variable {X : Cx} {f : Fr} {O R : List Fact} {ks k : List KI} {ops rest : List Oper} {o : Oper}
structure GA (X : Cx) (S : List Fact) (ops : List Oper) (i : Nat) (l : List Oper) (k : List KI) (f : Fr) (O R : List Fact) : Prop where mk ::
 out : ops.drop i = l → ∀ a w, Rel X.n X.ds a f → Kn X.E X.w0 w O R → wpAnyH X.P .any ops.toArray (wpK X.F X.P X.Q k) (fun w => ∀ φ ∈ S, φ.p w) l.length (firstK ops.length i) a w
theorem znR (S : List Fact) {id : Nat} {l : List Oper} (h : nx 1000 ks = some (.region id l true k)) (hm : X.P.follows .mixedOrders = true) (hg : GA X S l 0 l k f O R) (hrd : X.rd = none := by rfl) : GK X ks f O R := .mk fun a w hr hk =>
 zaI h (zd7 (Cx.wide hrd) (wp_region_held hm (by
  have := hg.out rfl a _ hr (hk.below (w' := { w with drawn := w.drawn + 1 }) ⟨rfl, rfl, rfl, Nat.le_refl _, fun _ _ => rfl⟩)
  rw [zid] at this
  simpa using this)))
theorem zbC {S : List Fact} {i : Nat} (hr : Region.ready .any ops.toArray (firstK ops.length i) = []) (hg : GK X k f O R) : GA X S ops i [] k f O R := .mk fun _ a w hr' hk =>
 wpAnyH_done hr (hg.out a w hr' hk) _
theorem drop_cons {i : Nat} (h : ops.drop i = o :: rest) : ops[i]? = some o ∧ ops.drop (i + 1) = rest ∧ i < ops.length := by
 have hi : i < ops.length := by
  rcases Nat.lt_or_ge i ops.length with h' | h'
  ·exact h'
  ·rw [List.drop_of_length_le h'] at h; cases h
 rw [List.drop_eq_getElem_cons hi] at h
 injection h with h1 h2
 exact ⟨by rw [List.getElem?_eq_getElem hi, h1], h2, hi⟩
def SubF (S O R : List Fact) : Prop := ∀ φ ∈ S, φ ∈ O ∨ φ ∈ R
theorem zef : SubF [] O R := fun _ h => by cases h
theorem zdt {φ : Fact} {S : List Fact} (h : φ ∈ O ∨ φ ∈ R) (hr : SubF S O R) : SubF (φ :: S) O R := fun ψ hψ => by
 rcases List.mem_cons.1 hψ with rfl | h1
 ·exact h
 ·exact hr ψ h1
def Ys (X : Cx) (S : List Fact) (f : Fr) (o : Oper) (v : Value) : Prop := ∀ a w, Rel X.n X.ds a f → (∀ φ ∈ S, φ.p w) → (execOp a.eval o).run X.P w = .ok (.value v) w
def takeB (ops : List Oper) (i : Nat) : Bool := Region.free .any ops.toArray (firstK ops.length i) i && (Region.ready .any ops.toArray (firstK ops.length i)).contains i && Region.noSelect ops.toArray
theorem zae {S : List Fact} {i : Nat} {v : Value} {d : Nat} (hB : takeB ops i = true) (hw : wantG X.n f ops o.guard = some true) (hdd : o.dst = some d) (hy : Ys X S f o v) (hS : SubF S O R) (hg : GA X S ops (i + 1) rest k ((d, v) :: f) O R) : GA X S ops i (o :: rest) k f O R := .mk fun hd a w hr hk => by
 unfold takeB at hB
 rw [Bool.and_eq_true, Bool.and_eq_true] at hB
 obtain ⟨h1, h2, h3⟩ := drop_cons hd
 have hw' := zaV hr hw
 have hSw : ∀ φ ∈ S, φ.p w := fun φ hφ => by rcases hS φ hφ with h | h; exact hk.pO _ h; exact hk.pR _ h
 refine wpAnyH_take (i := i) (oi := o) (v := v) (by simpa using h1) hB.2 hB.1.1 hB.1.2 (zhM X k _ _) (.inl ⟨hw', fun w hS => hy a w hr hS⟩) hSw ?_
 rw [zdj _ _ h3]
 exact hg.out h2 _ w (hr.put1 hdd _) hk
theorem za5 {S : List Fact} {i : Nat} {d : Nat} (hB : takeB ops i = true) (hw : wantG X.n f ops o.guard = some false) (hdd : o.dst = some d) (hS : SubF S O R) (hg : GA X S ops (i + 1) rest k ((d, undef) :: f) O R) : GA X S ops i (o :: rest) k f O R := .mk fun hd a w hr hk => by
 unfold takeB at hB
 rw [Bool.and_eq_true, Bool.and_eq_true] at hB
 obtain ⟨h1, h2, h3⟩ := drop_cons hd
 have hw' := zaV hr hw
 have hSw : ∀ φ ∈ S, φ.p w := fun φ hφ => by rcases hS φ hφ with h | h; exact hk.pO _ h; exact hk.pR _ h
 refine wpAnyH_take (i := i) (oi := o) (v := undef) (by simpa using h1) hB.2 hB.1.1 hB.1.2 (zhM X k _ _) (.inr ⟨hw', rfl⟩) hSw ?_
 rw [zdj _ _ h3]
 exact hg.out h2 _ w (hr.put1 hdd _) hk
theorem zcm {S : List Fact} {i : Nat} (hB : Region.ready .any ops.toArray (firstK ops.length i) = [i]) (hw : wantG X.n f ops o.guard = some true) (hm : Mv X f O R o (fun f' O' R' => SubF S O' R' ∧ GA X S ops (i + 1) rest k f' O' R')) : GA X S ops i (o :: rest) k f O R := .mk fun hd a w hr hk => by
 obtain ⟨h1, h2, h3⟩ := drop_cons hd
 have hw' := zaV hr hw
 refine wpAnyH_all hB (by simp) fun j hj => ?_
 have hj' : j = i := by simpa using hj
 subst hj'
 unfold wpOp
 have h1' : ops.toArray[j]? = some o := by simpa using h1
 simp only [h1', hw', if_true]
 refine .inl (hm a w hr hk _ _ fun f' O' R' a' w' hN hr' hk' => ⟨fun φ hφ => ?_, ?_⟩)
 ·rcases hN.1 φ hφ with h | h
  ·exact hk'.pO _ h
  ·exact hk'.pR _ h
 ·rw [zdj _ _ h3]
  exact hN.2.out h2 a' w' hr' hk'
theorem zcc (hT : TabOk X.P X.T) {S : List Fact} {nw : Bool} {v : Value} {p : Prop} (he : ev X.T nw X.n f o.op = some (v, p)) (hp : p) : Ys X S f o v := fun a w hr _ => zjq hT hr he hp w
theorem zbp (hT : TabOk X.P X.T) {S : List Fact} {ty : Nat} {x : Operand} {g off : Nat} {cs : List Value} {Tg t sz : Nat} {d : TD} {z : List Value} {v : Value} (ho : o.op = .load ty x) (hx : look X.n f x = some (.pointer (some ⟨g, off, none⟩)))
 (hm : blk g cs Tg ∈ S) (hty : tfind X.T ty = some ⟨t, d, sz, z⟩) (hv : loadV (agg? d) sz cs off = some v) : Ys X S f o v := fun a w hr hS => by
 have hb : w.heap[g]? = some (.cells cs.toArray Tg (0, 0)) := hS _ hm
 have hty' := zal hT hty
 have e1 := hty'.1
 simp only at e1
 subst e1
 have := zaS hty'.2.d hty'.2.sz w g 0 cs (fun i u hu => by rw [Nat.zero_add, cell_of_row w g i cs.toArray Tg (0, 0) hb]; simpa using hu) hv
 rw [Nat.zero_add] at this
 simp [execOp, ho, hr.look hx, Instr.loadAt, Instr.sureAddr, this]
theorem zbn (hT : TabOk X.P X.T) {S : List Fact} {ty : Nat} {x : Operand} {b o' off : Nat} {cs : List Value} {t sz : Nat} {d : TD} {z : List Value} {v : Value} (ho : o.op = .load ty x) (hx : look X.n f x = some (.pointer (some ⟨b, o' + off, none⟩)))
 (hm : row b o' cs ∈ S) (hty : tfind X.T ty = some ⟨t, d, sz, z⟩) (hv : loadV (agg? d) sz cs off = some v) : Ys X S f o v := fun a w hr hS => by
 have hb : ∀ i v, cs[i]? = some v → w.cell? ⟨b, o' + i, none⟩ = some v := hS _ hm
 have hty' := zal hT hty
 have e1 := hty'.1
 simp only at e1
 subst e1
 have := zaS hty'.2.d hty'.2.sz w b o' cs hb hv
 simp [execOp, ho, hr.look hx, Instr.loadAt, Instr.sureAddr, this]
theorem za1 (hT : TabOk X.P X.T) {S : List Fact} {ty : Nat} {x : Operand} {b o' : Nat} {cs : List Value} {t sz : Nat} {d : TD} {z : List Value} {v : Value} (ho : o.op = .load ty x) (hx : look X.n f x = some (.pointer (some ⟨b, o', none⟩)))
 (hm : row b o' cs ∈ S) (hty : tfind X.T ty = some ⟨t, d, sz, z⟩) (hv : loadV (agg? d) sz cs 0 = some v) : Ys X S f o v :=
 zbn (off := 0) hT ho hx hm hty hv
end
end Go.Proofs.YtaghmffgoomebaaGreat.Gx
namespace Go.Proofs.YtaghmffgoomebaaGreat.Gx
open Go.RowKit Mem
section
variable {X : Cx} {f : Fr} {O R : List Fact} {ks k : List KI} {ops rest : List Oper} {o : Oper} {N : Fr → List Fact → List Fact → Prop}
theorem zhr {c : Operand} {x y : Code} {p : Prop} (h : nx 1000 ks = some (.cond c x y k)) (hc : look X.n f c = some (.bool (tB p))) (hp : p) (hg : GK X (.code x :: k) f O R) : GK X ks f O R :=
 zbb h (by rw [hc, zan hp]) hg
theorem zdH {c : Operand} {x y : Code} {p : Prop} (h : nx 1000 ks = some (.cond c x y k)) (hc : look X.n f c = some (.bool (tB p))) (hp : ¬ p) (hg : GK X (.code y :: k) f O R) : GK X ks f O R :=
 zbc h (by rw [hc, zaj hp]) hg
theorem g_dec {t : Nat} {b : Bool} (u : Bool) (hs : gslot ops o.guard = some t) (hl : look X.n f (.tmp t) = some (.bool b)) (hb : b = u) (hg : G X ops (o :: rest) k ((t, .bool u) :: f) O R) : G X ops (o :: rest) k f O R :=
 zaK t (.bool u) hl (by rw [hb]) hg
theorem zjn {S : List Fact} {i t : Nat} {b : Bool} (u : Bool) (hs : gslot ops o.guard = some t) (hl : look X.n f (.tmp t) = some (.bool b)) (hb : b = u) (hg : GA X S ops i (o :: rest) k ((t, .bool u) :: f) O R) : GA X S ops i (o :: rest) k f O R :=
 .mk fun hd a w hr hk => hg.out hd a w (hr.re hl (by rw [hb])) hk
theorem zeW (n : Nat) {c : Code} (h : nx 1000 ks = some (.loop c k)) (hg : GK X (.code c :: .inv (Code.roundsIn X.F 0 X.P c (wpK X.F X.P X.Q k) n) :: k) f O R) : GK X ks f O R := .mk fun a w hr hk =>
 zaI h (wpIn_loop_rounds (n + 1) (by rw [roundsIn_succ]; exact hg.out a w hr hk))
theorem zh9 {n : Nat} {c : Code} {k' : List KI} (h : nx 1000 ks = some (.inv (Code.roundsIn X.F 0 X.P c (wpK X.F X.P X.Q k') (n + 1)))) (hg : GK X (.code c :: .inv (Code.roundsIn X.F 0 X.P c (wpK X.F X.P X.Q k') n) :: k') f O R) : GK X ks f O R := .mk fun a w hr hk =>
 zaI h (show Code.roundsIn X.F 0 X.P c (wpK X.F X.P X.Q k') (n + 1) a w by rw [roundsIn_succ]; exact hg.out a w hr hk)
noncomputable def idxV (T : Tab) (t : Nat) (x i : Value) : Option Value :=
 match tfind T t, x, i with
 | some ⟨_, .str, _, _⟩, .string s, .int _ j => (match s.data.toList[j.toNat]? with | some b => some (.int .u8 (b.toNat : Int)) | none => none)
 | _, _, _ => none
theorem zcR (hT : TabOk X.P X.T) {t : Nat} {x i : Operand} {u j v : Value} {kk : IntKind} {jj : Int} (ho : o.op = .index t x i) (hx : look X.n f x = some u) (hi : look X.n f i = some (.int kk jj)) (hj : 0 ≤ jj) (hv : idxV X.T t u (.int kk jj) = some v) : Yd X f O R o v := fun a w hr hk => by
 unfold idxV at hv
 split at hv
 ·rename_i tt s z st k' q hf hq
  obtain ⟨ht, hk1⟩ := zal hT hf
  simp only at ht
  subst ht
  have hu := zgB hk1.d
  injection hq with e1 e2
  subst e1
  subst e2
  split at hv
  ·rename_i b hb
   injection hv with hv
   subst hv
   have hb' : st[jj.toNat]? = some b := by
    have h1 : jj.toNat < st.data.toList.length := (List.getElem?_eq_some_iff.1 hb).1
    have h2 : jj.toNat < st.size := by simpa using h1
    rw [List.getElem?_eq_getElem h1] at hb
    injection hb with hb
    rw [getElem?_pos st jj.toNat h2]
    congr 1
   simp [execOp, ho, hr.look hx, hr.look hi, Instr.index, asIntOf, run_underlying hu, hj, hb']
  ·cases hv
 ·cases hv
end
end Go.Proofs.YtaghmffgoomebaaGreat.Gx
namespace Go.Proofs.YtaghmffgoomebaaGreat.Gx
open Go.RowKit Mem
def szOf (P : Program) (t : Nat) : Nat := match P.info? t with | some i => i.size | none => 0
def flatQ (P : Program) (p : Nat → Nat → Bool) : List Field → Nat → Nat → Bool
 | [], o, n => Nat.beq o n
 | f :: r, o, n => Nat.beq f.offset o && (f.name != "_") && szIs P f.type (szOf P f.type) && p f.type (szOf P f.type) && flatQ P p r (o + szOf P f.type) n
def flatI (P : Program) : Nat → Nat → Nat → Bool
 | 0, _, _ => false
 | d + 1, t, n => match P.underlying t with
   | some (.int _) => Nat.beq n 1
   | some (.struct fs) => !(P.stoodInHeld t) && flatQ P (flatI P d) fs.toList 0 n
   | _ => false
def pairs : List Value → List Value → Option (List (Int × Int))
 | [], [] => some []
 | .int k a :: r, .int k' b :: s => bif Nat.beq (kc k) (kc k') then (match pairs r s with | some l => some ((a, b) :: l) | none => none) else none
 | _, _ => none
def conjP : List (Int × Int) → Prop
 | [] => True
 | (a, b) :: r => a = b ∧ conjP r
theorem zg4 : ∀ {xs ys : List Value} {l : List (Int × Int)}, pairs xs ys = some l → xs.length = l.length ∧ ys.length = l.length := by
 intro xs
 induction xs with
 | nil =>
   intro ys l h
   cases ys with
   | nil => injection h with h; subst h; exact ⟨rfl, rfl⟩
   | cons y s => cases h
 | cons x r ih =>
   intro ys l h
   cases x <;> cases ys <;> first | (cases h; done) | skip
   rename_i k a y s
   cases y <;> first | (cases h; done) | skip
   rename_i k' b
   unfold pairs at h
   cases hk : Nat.beq (kc k) (kc k') with
   | false => rw [hk] at h; cases h
   | true =>
     rw [hk] at h
     simp only [cond_true] at h
     split at h
     ·rename_i l' hl
      injection h with h
      subst h
      have := ih hl
      simp [this.1, this.2]
     ·cases h
theorem zg5 : ∀ (m : Nat) {xs ys : List Value} {l : List (Int × Int)}, pairs xs ys = some l → pairs (xs.take m) (ys.take m) = some (l.take m) ∧ pairs (xs.drop m) (ys.drop m) = some (l.drop m) := by
 intro m
 induction m with
 | zero => intro xs ys l h; simpa [pairs] using h
 | succ m ih =>
   intro xs ys l h
   cases xs with
   | nil =>
     cases ys with
     | nil => injection h with h; subst h; simp [pairs]
     | cons y s => cases h
   | cons x r =>
     cases x <;> cases ys <;> first | (cases h; done) | skip
     rename_i k a y s
     cases y <;> first | (cases h; done) | skip
     rename_i k' b
     unfold pairs at h
     cases hk : Nat.beq (kc k) (kc k') with
     | false => rw [hk] at h; cases h
     | true =>
       rw [hk] at h
       simp only [cond_true] at h
       split at h
       ·rename_i l' hl
        injection h with h
        subst h
        obtain ⟨h1, h2⟩ := ih hl
        simp [pairs, hk, h1, h2]
       ·cases h
theorem zhA (a b : List (Int × Int)) : conjP (a ++ b) ↔ conjP a ∧ conjP b := by
 induction a with
 | nil => simp [conjP]
 | cons x r ih => obtain ⟨p, q⟩ := x; simp [conjP, ih, and_assoc]
def asV (g : Bool) (l : List Value) : Value := bif g then .agg l.toArray else (match l with | x :: _ => x | [] => undef)
theorem zgw {P : Program} : ∀ (d t n : Nat), flatI P d t n = true → ∀ (xs ys : List Value) (l : List (Int × Int)) (w : World), xs.length = n → pairs xs ys = some l →
 (Op.equalIn d t (asV (aggT P t) xs) (asV (aggT P t) ys)).run P w = .ok (tB (conjP l)) w := by
 intro d
 induction d with
 | zero => intro t n h; cases h
 | succ d ih =>
   intro t n h xs ys l w hn hp
   unfold flatI at h
   split at h
   ·rename_i k hu
    have hn1 : n = 1 := Nat.eq_of_beq_eq_true h
    have ha : aggT P t = false := by simp [aggT, hu]
    obtain ⟨h1, h2⟩ := zg4 hp
    match xs, ys, hn, h1, h2, hp with
    | [x], [y], _, _, _, hp =>
      rw [ha]
      obtain ⟨k1, a, k2, b, rfl, rfl⟩ : ∃ k1 a k2 b, x = .int k1 a ∧ y = .int k2 b := by
       cases x <;> cases y <;> first | (cases hp; done) | exact ⟨_, _, _, _, rfl, rfl⟩
      unfold pairs at hp
      cases hk : Nat.beq (kc k1) (kc k2) with
      | false => rw [hk] at hp; cases hp
      | true =>
        rw [hk] at hp
        simp [pairs] at hp
        subst hp
        rw [← zlD hk]
        show (Op.equalIn (d + 1) t (.int k1 a) (.int k1 b)).run P w = _
        rw [run_equalIn_int w d t k1 k a b hu, zbU (p := conjP [(a, b)]) (q := a = b) (by simp [conjP]), zed]
        rfl
    | [], _, hn, _, _, _ => simp at hn; omega
    | _ :: _ :: _, _, hn, _, _, _ => simp at hn; omega
    | [x], [], _, h1, h2, _ => simp at h1 h2; omega
    | [x], _ :: _ :: _, _, h1, h2, _ => simp at h1 h2; omega
   ·rename_i fs hu
    rw [Bool.and_eq_true] at h
    obtain ⟨hs, hf⟩ := h
    have ha : aggT P t = true := by simp [aggT, hu]
    rw [ha]
    show (Op.equalIn (d + 1) t (.agg xs.toArray) (.agg ys.toArray)).run P w = _
    have hfo : P.fieldsOf t = fs := by simp [Program.fieldsOf, hu]
    rw [run_equalIn_struct w d t _ _ (by rw [hfo]; exact hu) (by simpa using hs), hfo]
    obtain ⟨hl1, hl2⟩ := zg4 hp
    have key : ∀ (fs : List Field) (o : Nat), flatQ P (flatI P d) fs o n = true → o ≤ n → (Op.eqFields d xs.toArray ys.toArray fs).run P w = .ok (tB (conjP (l.drop o))) w := by
     intro fs
     induction fs with
     | nil =>
       intro o hf ho
       have : o = n := Nat.eq_of_beq_eq_true hf
       subst this
       rw [List.drop_of_length_le (by omega)]
       show Result.ok true w = _
       rw [zan (p := conjP []) trivial]
     | cons f r ih2 =>
       intro o hf ho
       unfold flatQ at hf
       rw [Bool.and_eq_true, Bool.and_eq_true, Bool.and_eq_true, Bool.and_eq_true] at hf
       obtain ⟨⟨⟨⟨f1, f2⟩, f3⟩, f4⟩, f5⟩ := hf
       have e1 := Nat.eq_of_beq_eq_true f1
       have hnm : f.name ≠ "_" := by simpa using f2
       generalize hm : szOf P f.type = m at *
       obtain ⟨p1, p2⟩ := zg5 o hp
       obtain ⟨q1, q2⟩ := zg5 m p2
       have hom : o + m ≤ n := by
        clear ih2 q1 q2 p1 p2
        have : ∀ (fs : List Field) (o : Nat), flatQ P (flatI P d) fs o n = true → o ≤ n := by
         intro fs
         induction fs with
         | nil => intro o h; exact Nat.le_of_eq (Nat.eq_of_beq_eq_true h)
         | cons f r ih => intro o h; unfold flatQ at h; rw [Bool.and_eq_true] at h; have := ih _ h.2; omega
        exact this r _ f5
       have hpart : ∀ (zs : List Value), zs.length = n → (part f.type zs.toArray f.offset).run P w = .ok (asV (aggT P f.type) ((zs.drop o).take m)) w := by
        intro zs hz
        have hU : hasU P f.type = true := by
         unfold hasU
         cases hh : P.underlying f.type with
         | some _ => rfl
         | none => cases d <;> simp [flatI, hh] at f4
        unfold part
        rw [Sem.run_bind, zdT hU w]
        cases hg : aggT P f.type with
        | true =>
          have hx : zs.toArray.extract o (o + m) = ((zs.drop o).take m).toArray := by
           apply Array.ext'
           simp [List.extract_eq_take_drop]
          simp [asV, run_sizeOf f3, e1, hx]
        | false =>
          have hm1 : m = 1 := by
           cases d with
           | zero => cases f4
           | succ d =>
             unfold flatI at f4
             split at f4
             ·exact Nat.eq_of_beq_eq_true f4
             ·rename_i hh; simp [aggT, hh] at hg
             ·cases f4
          subst hm1
          have ho' : o < zs.length := by omega
          have e3 : (zs.drop o).take 1 = [zs[o]] := by
           rw [List.drop_eq_getElem_cons ho']; rfl
          simp [asV, e1, e3, ho']
       unfold Op.eqFields
       rw [if_pos hnm]
       simp only [Sem.run_bind, hpart xs hn, hpart ys (by omega), Result.andThen_ok, ih f.type m f4 _ _ _ w (by rw [List.length_take, List.length_drop]; omega) q1]
       have hsplit : l.drop o = (l.drop o).take m ++ (l.drop o).drop m := (List.take_append_drop _ _).symm
       by_cases hc : conjP ((l.drop o).take m)
       ·rw [zan hc]
        simp only [Bool.not_true, Bool.false_eq_true, if_false]
        rw [ih2 (o + m) f5 hom, zbU (q := conjP (l.drop o)) (by
         rw [show l.drop (o + m) = (l.drop o).drop m by rw [List.drop_drop]]
         conv => rhs; rw [hsplit, zhA]
         exact ⟨fun h => ⟨hc, h⟩, fun h => h.2⟩)]
       ·rw [zaj hc]
        simp only [Bool.not_false, if_true, Sem.run_pure]
        rw [zaj (p := conjP (l.drop o)) (fun h => hc (by rw [hsplit, zhA] at h; exact h.1))]
    have := key fs.toList 0 hf (Nat.zero_le _)
    simpa using this
   ·cases h
section
variable {X : Cx} {f : Fr} {O R : List Fact} {ks k : List KI} {ops rest : List Oper} {o : Oper} {N : Fr → List Fact → List Fact → Prop}
def eqOk (P : Program) (t n : Nat) : Bool := flatI P 10000 t n && aggT P t && !(P.eqGuardType P.depth t)
theorem zfq {t n : Nat} {x y : Operand} {yt : TypeId} {xs ys : List Value} {l : List (Int × Int)} (ho : o.op = .binOp .eql t x y yt) (hx : look X.n f x = some (.agg xs.toArray)) (hy : look X.n f y = some (.agg ys.toArray)) (hp : pairs xs ys = some l) (hn : xs.length = n) (hB : eqOk X.P t n = true) : Yd X f O R o (.bool (tB (conjP l))) := fun a w hr hk => by
 unfold eqOk at hB
 rw [Bool.and_eq_true, Bool.and_eq_true] at hB
 have h1 := zgw 10000 t n hB.1.1 xs ys l w hn hp
 rw [hB.1.2] at h1
 have h2 : (eqGuard .eql t x y (.agg xs.toArray) (.agg ys.toArray)).run X.P w = .ok () w := run_eqGuard_agg w _ _ _ _ _ _ (by simpa using hB.2)
 have h3 : (Op.equalIn 10000 t (.agg xs.toArray) (.agg ys.toArray)).run X.P w = .ok (tB (conjP l)) w := h1
 simp only [execOp, ho, hr.look hx, hr.look hy, Sem.run_bind, h2, Result.andThen_ok, run_eql_struct, h3]
 rfl
theorem zfp {t n : Nat} {x y : Operand} {yt : TypeId} {xs ys : List Value} {l : List (Int × Int)} (ho : o.op = .binOp .neq t x y yt) (hx : look X.n f x = some (.agg xs.toArray)) (hy : look X.n f y = some (.agg ys.toArray)) (hp : pairs xs ys = some l) (hn : xs.length = n) (hB : eqOk X.P t n = true) : Yd X f O R o (.bool (tB (¬ conjP l))) := fun a w hr hk => by
 unfold eqOk at hB
 rw [Bool.and_eq_true, Bool.and_eq_true] at hB
 have h1 := zgw 10000 t n hB.1.1 xs ys l w hn hp
 rw [hB.1.2] at h1
 have h2 : (eqGuard .neq t x y (.agg xs.toArray) (.agg ys.toArray)).run X.P w = .ok () w := run_eqGuard_agg w _ _ _ _ _ _ (by simpa using hB.2)
 have h3 : (Op.equalIn 10000 t (.agg xs.toArray) (.agg ys.toArray)).run X.P w = .ok (tB (conjP l)) w := h1
 rw [← zlb]
 simp only [execOp, ho, hr.look hx, hr.look hy, Sem.run_bind, h2, Result.andThen_ok, run_neq_struct, h3]
 rfl
theorem zlj {dd : Nat} (hd : o.dst = some dd) (hT : TabOk X.P X.T) {ty e sz t s t' s' : Nat} {z' : List Value} {d : TD} {x y : Operand} {k1 k2 : IntKind} {j1 j2 : Int} (n : Nat) (bytes : Nat) (ho : o.op = .makeSlice ty x y) (hx : look X.n f x = some (.int k1 j1)) (hy : look X.n f y = some (.int k2 j2)) (e1 : j1 = (n : Int)) (e2 : j2 = (n : Int))
 {z : List Value} (hty : tfind X.T ty = some ⟨t, .slice e sz, s, z⟩) (hte : tfind X.T e = some ⟨t', d, s', z'⟩) (hb : (X.P.info? e).map (·.bytes) = some bytes) (hbn : bytes * n ≤ 140737488355328) (hn : n ≤ 9223372036854775807) (hsz : Nat.blt 0 sz = true) (hzl : Nat.beq z'.length sz = true)
 (hg : ∀ g, N ((dd, .slice (some ⟨g, 0, none⟩) n n) :: f) (blk g (rep n z') e :: O) R) : Mv X f O R o N := fun a w hr hk K Q hK => by
 subst e1
 subst e2
 unfold Oper.wp
 obtain ⟨ht, hk1⟩ := zal hT hty
 obtain ⟨hte1, hk2⟩ := zal hT hte
 simp only at ht hte1
 subst ht
 subst hte1
 obtain ⟨hu, hes⟩ := za7 hk1.d
 have hz := hk2.z
 have hsz' : 0 < sz := Nat.le_of_ble_eq_true hsz
 have hzs : z'.length = sz := Nat.eq_of_beq_eq_true hzl
 cases hi : X.P.info? t' with
 | none => simp [hi] at hz
 | some inf =>
   cases hz0 : inf.zero with
   | none => simp [hi, hz0] at hz
   | some zv =>
     simp only [hi, hz0, Option.bind_some, Option.map_some] at hz hb
     have hz' : zv.cells = z'.toArray := by injection hz
     injection hb with hb
     have hisz : inf.size = sz := by
      obtain ⟨i1, h2, h3⟩ := zcq hes
      rw [hi] at h2; injection h2 with h2; rw [h2, h3]
     have hb2 : ((inf.bytes : Int) * (n : Int)) ≤ 281474976710656 := by
      have h9 : ((bytes * n : Nat) : Int) ≤ 281474976710656 := by omega
      rw [Int.natCast_mul] at h9
      rw [hb]; exact h9
     have hrun := run_make (P := X.P) w t t' inf zv hu hi hz0 k1 k2 n n (by omega) (by omega) hb2 (by omega)
     have harr : madeCells zv.cells ((n : Int).toNat * inf.size) = (rep n z').toArray := by
      apply Array.ext'
      rw [hz', hisz, Int.toNat_natCast]
      have := zkR z'.toArray (by simp; omega) n
      simp only [List.size_toArray, hzs] at this
      rw [← this]
      simp [madeCells, hzs]
     have : (execOp a.eval o).run X.P w = .ok (.value (.slice (some ⟨w.heap.size, 0, none⟩) n n)) (w.alloc (.cells (rep n z').toArray t')) := by
      rw [harr] at hrun
      simp only [Int.toNat_natCast] at hrun
      simp [execOp, ho, hr.look hx, hr.look hy, hrun]
     rw [this]
     exact hK _ _ _ _ _ (hg _) (hr.put1 hd _) (hk.alloc _ t')
def RetSl {α : Type} [Inhabited α] (F : Value → Value) (sz : Nat) (enc : α → Nat → Value) (L : List α) (w : World) (e : Ending) (w' : World) : Prop :=
 ∃ A n c, e = .returned (F (.slice A n c)) ∧ n = L.length ∧ n ≤ c ∧ (A = none → c = 0) ∧ Sl w' A sz enc L ∧ (∀ a, A = some a → w.heap.size ≤ a.block) ∧ Below w.heap.size w w'
theorem RetSl.of {α : Type} [Inhabited α] {F : Value → Value} {sz : Nat} {enc : α → Nat → Value} {L : List α} {P : Program} {fid : FuncId} {args : Array Value} {w : World} {e' : TypeId} (h : Calls P fid args w fun e w' => ∃ v, e = .returned (F v) ∧ OwnL w' w.heap.size e' sz v enc L ∧ Below w.heap.size w w') : Calls P fid args w (RetSl F sz enc L w) :=
 h.mono fun e w' ⟨v, h1, h2, h3⟩ => by
  obtain ⟨A, c, rfl, k1, k2, k3, k4, k5⟩ := OwnL.sl h2
  exact ⟨A, _, c, h1, rfl, k2, k4, k1, fun a ha => (k5 a ha).1, h3⟩
def pickF (O : List Fact) : List Nat → Option (List Fact)
 | [] => some []
 | i :: r => match O[i]?, pickF O r with | some φ, some l => some (φ :: l) | _, _ => none
theorem zaP (is : List Nat) {S : List Fact} (hS : pickF (O ++ R) is = some S) {id : Nat} {l : List Oper} (h : nx 1000 ks = some (.region id l true k)) (hm : X.P.follows .mixedOrders = true) (hg : GA X S l 0 l k f O R) (hrd : X.rd = none := by rfl) : GK X ks f O R := znR S h hm hg hrd
end
end Go.Proofs.YtaghmffgoomebaaGreat.Gx
namespace Go.Proofs.YtaghmffgoomebaaGreat.Gx
open Go.RowKit Mem
section
variable {X : Cx} {f : Fr} {O R : List Fact} {ks k : List KI} {ops rest : List Oper} {o : Oper} {S : List Fact} {C : Fr → List Fact → List Fact → Prop} {m : Nat} {ls : List Bool}
def Qc (X : Cx) (C : Fr → List Fact → List Fact → Prop) (k : List KI) : Exit → Act → World → Prop := Exit.then (fun a w => ∃ f' O' R', C f' O' R' ∧ Rel X.n X.ds a f' ∧ Kn X.E X.w0 w O' R') (wpK X.F X.P X.Q k)
theorem ziO (X : Cx) (C : Fr → List Fact → List Fact → Prop) (ks : List KI) (d : Option Tmp) (v : Value) : ∀ c a w, Qc X C ks (.panic c) (a.put d v) w → Qc X C ks (.panic c) a w := fun c a w h => zhM X ks d v c a w h
structure GB (X : Cx) (S : List Fact) (ops : List Oper) (m : Nat) (ls : List Bool) (C : Fr → List Fact → List Fact → Prop) (k : List KI) (f : Fr) (O R : List Fact) : Prop where mk ::
 out : ∀ a w, Rel X.n X.ds a f → Kn X.E X.w0 w O R → wpAnyH X.P .any ops.toArray (Qc X C k) (fun w => ∀ φ ∈ S, φ.p w) m ls.toArray a w
theorem zas (is : List Nat) (C : Fr → List Fact → List Fact → Prop) {S : List Fact} (hS : pickF (O ++ R) is = some S) {id : Nat} {l : List Oper} (h : nx 1000 ks = some (.region id l true k)) (hm : X.P.follows .mixedOrders = true)
 (hg : GB X S l l.length (List.replicate l.length false) C k f O R) (hC : ∀ f' O' R', C f' O' R' → GK X k f' O' R') (hrd : X.rd = none := by rfl) : GK X ks f O R := .mk fun a w hr hk =>
 zaI h (zd7 (Cx.wide hrd) (Code.wp_mono (Q := Qc X C k) (fun e a w hq => by
  cases e with
  | normal => obtain ⟨f', O', R', h1, h2, h3⟩ := hq; exact (hC f' O' R' h1).out a w h2 h3
  | _ => exact hq) (wp_region_held hm (by
  have := hg.out a _ hr (hk.below (w' := { w with drawn := w.drawn + 1 }) ⟨rfl, rfl, rfl, Nat.le_refl _, fun _ _ => rfl⟩)
  have e : (List.replicate l.length false).toArray = Array.replicate l.toArray.size false := by apply Array.ext'; simp
  rw [e] at this
  simpa using this))))
theorem zak (hr : Region.ready .any ops.toArray ls.toArray = []) (hC : C f O R) : GB X S ops m ls C k f O R := .mk fun a w hr' hk =>
 wpAnyH_done hr ⟨f, O, R, hC, hr', hk⟩ _
def takeC (ops : List Oper) (ls : List Bool) (i : Nat) : Bool := Region.free .any ops.toArray ls.toArray i && (Region.ready .any ops.toArray ls.toArray).contains i && Region.noSelect ops.toArray
theorem zhH (ls : List Bool) (i : Nat) : ls.toArray.setIfInBounds i true = (ls.set i true).toArray := by apply Array.ext'; simp
theorem zaz (i : Nat) {v : Value} {d : Nat} (ho : ops[i]? = some o) (hB : takeC ops ls i = true) (hw : wantG X.n f ops o.guard = some true) (hdd : o.dst = some d) (hy : Ys X S f o v) (hS : SubF S O R) (hg : GB X S ops m (ls.set i true) C k ((d, v) :: f) O R) : GB X S ops (m + 1) ls C k f O R := .mk fun a w hr hk => by
 unfold takeC at hB
 rw [Bool.and_eq_true, Bool.and_eq_true] at hB
 have hw' := zaV hr hw
 have hSw : ∀ φ ∈ S, φ.p w := fun φ hφ => by rcases hS φ hφ with h | h; exact hk.pO _ h; exact hk.pR _ h
 refine wpAnyH_take (i := i) (oi := o) (v := v) (by simpa using ho) hB.2 hB.1.1 hB.1.2 (ziO X C k _ _) (.inl ⟨hw', fun w hS => hy a w hr hS⟩) hSw ?_
 rw [zhH]
 exact hg.out _ w (hr.put1 hdd _) hk
theorem zpP (i : Nat) {d : Nat} (ho : ops[i]? = some o) (hB : takeC ops ls i = true) (hw : wantG X.n f ops o.guard = some false) (hdd : o.dst = some d) (hS : SubF S O R) (hg : GB X S ops m (ls.set i true) C k ((d, undef) :: f) O R) : GB X S ops (m + 1) ls C k f O R := .mk fun a w hr hk => by
 unfold takeC at hB
 rw [Bool.and_eq_true, Bool.and_eq_true] at hB
 have hw' := zaV hr hw
 have hSw : ∀ φ ∈ S, φ.p w := fun φ hφ => by rcases hS φ hφ with h | h; exact hk.pO _ h; exact hk.pR _ h
 refine wpAnyH_take (i := i) (oi := o) (v := undef) (by simpa using ho) hB.2 hB.1.1 hB.1.2 (ziO X C k _ _) (.inr ⟨hw', rfl⟩) hSw ?_
 rw [zhH]
 exact hg.out _ w (hr.put1 hdd _) hk
def GBall (X : Cx) (S : List Fact) (ops : List Oper) (m : Nat) (ls : List Bool) (C : Fr → List Fact → List Fact → Prop) (k : List KI) (f : Fr) (O R : List Fact) (j : Nat) : Prop :=
 ∀ i, j ≤ i → i ∈ Region.ready .any ops.toArray ls.toArray → ∃ o, ops[i]? = some o ∧ wantG X.n f ops o.guard = some true ∧ Mv X f O R o (fun f' O' R' => SubF S O' R' ∧ GB X S ops m (ls.set i true) C k f' O' R')
theorem zjm (hne : (Region.ready .any ops.toArray ls.toArray).isEmpty = false) (h : GBall X S ops m ls C k f O R 0) : GB X S ops (m + 1) ls C k f O R := .mk fun a w hr hk => by
 refine wpAnyH_all rfl (by intro e; rw [e] at hne; cases hne) fun i hi => ?_
 obtain ⟨o, ho, hw, hm⟩ := h i (Nat.zero_le _) hi
 have hw' := zaV hr hw
 unfold wpOp
 have h1' : ops.toArray[i]? = some o := by simpa using ho
 simp only [h1', hw', if_true]
 refine .inl (hm a w hr hk _ _ fun f' O' R' a' w' hN hr' hk' => ⟨fun φ hφ => ?_, ?_⟩)
 ·rcases hN.1 φ hφ with h | h
  ·exact hk'.pO _ h
  ·exact hk'.pR _ h
 ·rw [zhH]
  exact hN.2.out a' w' hr' hk'
theorem zl1 {j : Nat} (h : Nat.ble ops.length j = true) : GBall X S ops m ls C k f O R j := fun i hij hi => by
 have h1 := (mem_ready.1 hi)
 obtain ⟨_, oj, hoj, _⟩ := h1
 have h2 : i < ops.length := by
  rcases Nat.lt_or_ge i ops.length with h' | h'
  ·exact h'
  ·simp [List.getElem?_eq_none h'] at hoj
 have := Nat.le_of_ble_eq_true h
 omega
theorem zl0 {j : Nat} (h : (Region.ready .any ops.toArray ls.toArray).contains j = false) (hr : GBall X S ops m ls C k f O R (j + 1)) : GBall X S ops m ls C k f O R j := fun i hij hi => by
 rcases Nat.eq_or_lt_of_le hij with e | e
 ·subst e
  exfalso
  have : (Region.ready .any ops.toArray ls.toArray).contains j = true := by simpa using hi
  rw [h] at this; cases this
 ·exact hr i e hi
theorem zdJ {j : Nat} (ho : ops[j]? = some o) (hw : wantG X.n f ops o.guard = some true) (hm : Mv X f O R o (fun f' O' R' => SubF S O' R' ∧ GB X S ops m (ls.set j true) C k f' O' R')) (hr : GBall X S ops m ls C k f O R (j + 1)) : GBall X S ops m ls C k f O R j := fun i hij hi => by
 rcases Nat.eq_or_lt_of_le hij with e | e
 ·subst e; exact ⟨o, ho, hw, hm⟩
 ·exact hr i e hi
theorem Kn.perm {E : List Nat} {w0 w : World} {O' : List Fact} (h : Kn E w0 w O R) (hp : O.Perm O') : Kn E w0 w O' R where
 os := h.os
 tape := h.tape
 output := h.output
 size := h.size
 block := h.block
 ownS φ hφ := h.ownS φ (hp.mem_iff.2 hφ)
 ltO φ hφ := h.ltO φ (hp.mem_iff.2 hφ)
 ltR := h.ltR
 pO φ hφ := h.pO φ (hp.mem_iff.2 hφ)
 pR := h.pR
 disO := (hp.pairwise_iff (fun {x y} hd b h1 h2 => hd b h2 h1)).1 h.disO
 disR φ hφ := h.disR φ (hp.mem_iff.2 hφ)
inductive Sel (φ : Fact) : List Fact → List Fact → Prop
 | here {O : List Fact} : Sel φ (φ :: O) O
 | there {χ : Fact} {O O' : List Fact} (h : Sel φ O O') : Sel φ (χ :: O) (χ :: O')
inductive SelAll : List Fact → List Fact → Prop
 | nil {O : List Fact} : SelAll [] O
 | cons {φ : Fact} {r O O' : List Fact} (h : Sel φ O O') (hr : SelAll r O') : SelAll (φ :: r) O
theorem Sel.perm {φ : Fact} {O O' : List Fact} (h : Sel φ O O') : O.Perm (φ :: O') := by
 induction h with
 | here => exact List.Perm.refl _
 | there h ih => exact (ih.cons _).trans (List.Perm.swap _ _ _)
theorem SelAll.perm {L O : List Fact} (h : SelAll L O) : ∃ r, O.Perm (L ++ r) := by
 induction h with
 | nil => exact ⟨_, List.Perm.refl _⟩
 | cons h hr ih =>
   obtain ⟨r, hp⟩ := ih
   exact ⟨r, h.perm.trans (hp.cons _)⟩
theorem Kn.sel {E : List Nat} {w0 w : World} {L R' : List Fact} (h : Kn E w0 w O R) (hs : SelAll L O) (hR : R' ⊆ R) : Kn E w0 w L R' := by
 obtain ⟨r, hp⟩ := hs.perm
 exact (Kn.perm h hp).weak (List.sublist_append_left _ _) hR
def Cut (X : Cx) {σ : Type} (F : σ → Fr) (OO RR : σ → List Fact) : Fr → List Fact → List Fact → Prop := fun f' O' R' => ∃ s, FSub X.n f' (F s) ∧ SelAll (OO s) O' ∧ RR s ⊆ R'
theorem zaD {σ : Type} {F : σ → Fr} {OO RR : σ → List Fact} (h : ∀ s, GK X k (F s) (OO s) (RR s)) : ∀ f' O' R', Cut X F OO RR f' O' R' → GK X k f' O' R' := fun f' O' R' ⟨s, h1, h2, h3⟩ =>
 .mk fun a w hr hk => (h s).out a w (hr.sub h1) (hk.sel h2 h3)
end
theorem mE {φ : Fact} {O : List Fact} (h : φ ∈ O := by first | ((repeat (first | with_reducible exact List.mem_cons_self | with_reducible refine List.mem_cons_of_mem _ ?_)); done) | ((repeat (first | exact List.Mem.head _ | apply List.Mem.tail)); done) | fail) : φ ∈ O := h
theorem sO {g off : Nat} {vs : List Value} {O O' : List Fact} (h : StO g off vs O O' := by first | ((repeat (first | ((with_reducible refine StO.here ?_); rfl) | with_reducible apply StO.there)); done) | ((repeat (first | exact StO.here rfl | apply StO.there)); done) | fail) : StO g off vs O O' := h
theorem sF {S O R : List Fact} (h : SubF S O R := by repeat (first | exact zef | refine zdt (by first | exact .inl mE | exact .inr mE) ?_)) : SubF S O R := h
theorem sL {O O' : List Fact} (h : O.Sublist O' := by first | ((repeat (first | with_reducible exact List.Sublist.refl _ | with_reducible apply List.Sublist.cons_cons | with_reducible apply List.Sublist.cons)); done) | (repeat (first | exact List.Sublist.refl _ | apply List.Sublist.cons_cons | apply List.Sublist.cons))) : O.Sublist O' := h
theorem sS {O O' : List Fact} (h : O ⊆ O' := by first | with_reducible exact List.Subset.refl _ | (repeat (first | with_reducible exact List.nil_subset _ | refine List.cons_subset.2 ⟨mE, ?_⟩))) : O ⊆ O' := h
theorem sI {p : Prop} (h : p := by first | exact trivial | omega | (simp only [inR]; omega)) : p := h
theorem tE {b : Bool} {p q : Prop} (h : Tells b p q := by first | exact zaH _ | exact zgP (zaH _)) : Tells b p q := h
theorem sA {L O : List Fact} (h : SelAll L O := by first | ((repeat (first | with_reducible exact SelAll.nil | refine SelAll.cons (by first | ((repeat (first | with_reducible exact Sel.here | with_reducible apply Sel.there)); done) | fail) ?_)); done) | ((repeat (first | exact SelAll.nil | refine SelAll.cons (by first | ((repeat (first | exact Sel.here | apply Sel.there)); done) | fail) ?_)); done) | fail) : SelAll L O := h
end Go.Proofs.YtaghmffgoomebaaGreat.Gx
