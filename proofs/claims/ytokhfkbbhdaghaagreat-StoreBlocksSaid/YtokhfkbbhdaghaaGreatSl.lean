/- Words for memory that the walks of this seat use: a slice whose elements are known, carried over whatever a call makes. Words for an object in a block of its own: what it holds, and that nothing else that was there has changed. A region that draws its order, whose operations read old memory and whose callees make memory at most: one walk in the order of the text serves every order. Slices whose elements are those of a list, each laid in cells by one rule; slices that the call has built, likewise; append over both. Arguments by value, opened: an array of integers, a struct of one-cell fields. Arguments of any shape, opened cell by cell: structs in structs, arrays, slices of such. Slices of integers in a cell. A slice's cells as a list of data. append as one step of a region that draws its order. 'append(s, make([]T, m)...)' over a slice of the call's own, elements of one cell. -/
import Derived.Test.YtokhfkbbhdaghaaGreatRows
import Derived.WalkKit
import Derived.WalkSpells
import Derived.WalkLawsBesides
import Derived.Lib.Hide
import Derived.BigQuiet
import Derived.Deep.QuietTactic
import Derived.Deep.Slices
import Derived.Deep.Fields
import Derived.ChangeSame
import Derived.Laws.OwnMore
import Derived.Maps.AppendAt
import Derived.RegionTactic
import Derived.OwnWalk
import Derived.Deep.OwnRows
import Derived.OpenShut
import Derived.ProofKit
import Derived.Deep.RegionHeld3
import Derived.Deep.RegionLaw
import Derived.Lib.AppendZerosOnto
namespace Go.Proofs.YtokhfkbbhdaghaaGreat.Mem
open Go.RowKit Go.ChangeShapes Go.WideShapes Go.Deep
set_option linter.unusedVariables false
set_option linter.unusedSimpArgs false

/-- The slice value '.slice A n c' has n elements of sz cells each: cell j of element i holds F i j. -/
def Arr (w : World) (A : Option Addr) (n sz : Nat) (F : Nat → Nat → Value) : Prop :=
  0 < n → ∃ b off, A = some ⟨b, off, none⟩ ∧ ∀ i, i < n → ∀ j, j < sz → w.cell? ⟨b, off + i * sz + j, none⟩ = some (F i j)

theorem lt_of_cell {w : World} {p : Addr} {v : Value} (h : w.cell? p = some v) : p.block < w.heap.size := by
  rcases Nat.lt_or_ge p.block w.heap.size with h' | h'
  · exact h'
  · rw [World.cell?, Array.getElem?_eq_none h'] at h; cases h

theorem Arr.nil {w : World} {A : Option Addr} {sz : Nat} {F : Nat → Nat → Value} : Arr w A 0 sz F := fun h => absurd h (by omega)
theorem Arr.keep {w w' : World} {A : Option Addr} {n sz : Nat} {F : Nat → Nat → Value} (h : Arr w A n sz F) (hk : ∀ p v, w.cell? p = some v → w'.cell? p = some v) : Arr w' A n sz F := by
  intro hn
  obtain ⟨b, off, e, hc⟩ := h hn
  exact ⟨b, off, e, fun i hi j hj => hk _ _ (hc i hi j hj)⟩
theorem keep_below {w w' : World} (hb : Below w.heap.size w w') : ∀ p v, w.cell? p = some v → w'.cell? p = some v :=
  fun p v h => (hb.cell (lt_of_cell h)).trans h
theorem Arr.below {w w' : World} {A : Option Addr} {n sz : Nat} {F : Nat → Nat → Value} (h : Arr w A n sz F) (hb : Below w.heap.size w w') : Arr w' A n sz F := h.keep (keep_below hb)
theorem Arr.congr {w : World} {A : Option Addr} {n sz : Nat} {F G : Nat → Nat → Value} (h : Arr w A n sz F) (hk : ∀ i, i < n → ∀ j, j < sz → F i j = G i j) : Arr w A n sz G := by
  intro hn
  obtain ⟨b, off, e, hc⟩ := h hn
  exact ⟨b, off, e, fun i hi j hj => by rw [hc i hi j hj, hk i hi j hj]⟩
theorem Arr.take {w : World} {A : Option Addr} {n m sz : Nat} {F : Nat → Nat → Value} (h : Arr w A n sz F) (hm : m ≤ n) : Arr w A m sz F := by
  intro hn
  obtain ⟨b, off, e, hc⟩ := h (by omega)
  exact ⟨b, off, e, fun i hi j hj => hc i (by omega) j hj⟩

theorem arr_block {w : World} {g : Nat} {cs : Array Value} {t : TypeId} (hg : w.heap[g]? = some (.cells cs t (0, 0))) {n sz : Nat} {F : Nat → Nat → Value} (h : ∀ i, i < n → ∀ j, j < sz → cs[i * sz + j]? = some (F i j)) :
    Arr w (some ⟨g, 0, none⟩) n sz F := fun _ => ⟨g, 0, rfl, fun i hi j hj => by
  rw [Nat.zero_add, cell_of_row w g _ cs t (0, 0) hg]; exact h i hi j hj⟩
theorem arr_new {w : World} {cs : Array Value} {t : TypeId} {n sz : Nat} {F : Nat → Nat → Value} (h : ∀ i, i < n → ∀ j, j < sz → cs[i * sz + j]? = some (F i j)) :
    Arr (w.alloc (.cells cs t)) (some ⟨w.heap.size, 0, none⟩) n sz F := arr_block (heap_alloc_new w _) h

/-- The one element that stands behind 'append(s, x)' in a block of its own: of one cell, of two. -/
theorem arr_new1 (w : World) (u : Value) (t : TypeId) (B : Nat) (hB : B = w.heap.size) : Arr (w.alloc (.cells #[u] t)) (some ⟨B, 0, none⟩) 1 1 (fun _ _ => u) := by
  subst hB
  exact arr_new fun i hi j hj => by
    obtain rfl : i = 0 := by omega
    obtain rfl : j = 0 := by omega
    simp
theorem arr_new2 (w : World) (u v : Value) (t : TypeId) (B : Nat) (hB : B = w.heap.size) : Arr (w.alloc (.cells #[u, v] t)) (some ⟨B, 0, none⟩) 1 2 (fun _ j => if j = 0 then u else v) := by
  subst hB
  exact arr_new fun i hi j hj => by
    obtain rfl : i = 0 := by omega
    rcases (show j = 0 ∨ j = 1 by omega) with rfl | rfl <;> simp

theorem bel_trans {w w1 w2 : World} (h : Below w.heap.size w w1) (h' : Below w1.heap.size w1 w2) : Below w.heap.size w w2 := h.trans (h'.mono h.size)

theorem bel_alloc {W w : World} (h : Below W.heap.size W w) (o : Obj) : Below W.heap.size W (w.alloc o) := h.alloc h.size o
theorem bel_drewN {W w : World} (h : Below W.heap.size W w) (n : Nat) : Below W.heap.size W (w.drewN n) := h.trans ⟨rfl, rfl, rfl, Nat.le_refl _, fun _ _ => rfl⟩
theorem bel_drew {W w : World} (h : Below W.heap.size W w) : Below W.heap.size W w.drew := h.drew
theorem bel_set {W w : World} (h : Below W.heap.size W w) {p : Addr} (hp : W.heap.size ≤ p.block) (u : Value) : Below W.heap.size W (w.setCell p u) := h.setCell hp u

/-! ### an argument that is a slice of structs of one-cell fields (or of one-cell elements) -/
section
variable {H : Type} {enc : TypeId × Value → H} {P : Program} {w : World}
theorem open_arr {t e : TypeId} {fs : Array Field} {base : Nat} {v : Value} {d : DataW H} {p : List MemPlace} (ht : P.underlying t = some (.slice e)) (he : P.underlying e = some (.struct fs))
    (hone : oneCellFields P fs = true) (hC : P.cellsOf e = fs.size) (h0 : 0 < fs.size) (hv : Value.okWide P w .any base t v) (h : DataW.Trod enc P w 0 (fun _ => true) true t v d p) :
    ∃ (A : Option Addr) (n c : Nat) (F : Nat → Nat → Value), v = .slice A n c ∧ (Arr w A n fs.size F ∧ n ≤ c ∧ c ≤ maxLen ∧ (A = none → n = 0 ∧ c = 0) ∧
      ∀ i, i < n → ∀ (j : Nat) (f : Field), fs[j]? = some f → ∃ m y, DataW.trod enc P w 0 (fun _ => true) true m f.type [F i j] = some y) := by
  obtain ⟨a0, len, cap, rfl⟩ := okWide_slice ht hv
  obtain ⟨fuel, hf⟩ := h
  rcases open_slice ht hf with ⟨hcs, hx⟩ | ⟨a, len', cap', m, n, D, Pl, hcs, hb, hl, hm, hmm, hx, hi⟩
  · simp [Value.cells] at hcs
    obtain ⟨rfl, rfl, rfl⟩ := hcs
    exact ⟨none, 0, 0, fun _ _ => undef, rfl, Arr.nil, Nat.le_refl _, by unfold maxLen; omega, fun _ => ⟨rfl, rfl⟩, fun i hi => absurd hi (by omega)⟩
  · simp [Value.cells] at hcs
    obtain ⟨rfl, rfl, rfl⟩ := hcs
    simp at hmm
    subst hmm
    have key : ∀ i, ∃ cs : List Value, i < m → cs.length = fs.size ∧ (∀ j, j < fs.size → w.cell? (a.add (i * fs.size + j)) = cs[j]?) ∧ ∀ (j : Nat) (f : Field), fs[j]? = some f → ∃ m y, DataW.trod enc P w 0 (fun _ => true) true m f.type [cs.getD j undef] = some y := by
      intro i
      by_cases him : i < m
      · obtain ⟨cs', hc, ht'⟩ := hi i him
        rw [hC] at hc
        obtain ⟨ys, n', hn', hy, hlen, hyl, hfl⟩ := DataW.trod_struct he ht'
        obtain ⟨_, hcl, hat⟩ := World.cells?_some hc
        refine ⟨cs', fun _ => ⟨hcl, fun j hj => by rw [← Go.Deep.add_add]; exact hat j hj, fun j f hj => ?_⟩⟩
        obtain ⟨ho, hk⟩ := hone_of hone j f hj
        have hjl : j < fs.size := (Array.getElem?_eq_some_iff.1 hj).1
        have h1 := hfl j f hj
        rw [ho, hk] at h1
        have hone' : (cs'.drop j).take 1 = [cs'[j]'(by omega)] := by
          rw [List.drop_eq_getElem_cons (by omega)]
          rfl
        rw [hone'] at h1
        have hys : ys[j]? = some (ys[j]'(by omega)) := List.getElem?_eq_getElem (by omega)
        refine ⟨n', ys[j]'(by omega), ?_⟩
        rw [List.getD_eq_getElem?_getD, List.getElem?_eq_getElem (by omega)]
        exact h1.trans hys
      · exact ⟨[], fun h => absurd h him⟩
    refine ⟨some a, len, m, fun i j => (Classical.choose (key i)).getD j undef, rfl, ?_, hl, hm, (fun h => by cases h), fun i him j f hj => ((Classical.choose_spec (key i) (by omega)).2.2 j f hj)⟩
    intro hn
    have hspot : a.spot = none := by
      have h1 := (Classical.choose_spec (key 0) (by omega)).2.1 0 h0
      have h2 := (Classical.choose_spec (key 0) (by omega)).1
      rw [List.getElem?_eq_getElem (by omega)] at h1
      simpa [Addr.add] using World.cell?_spot h1
    obtain ⟨b, off, spot⟩ := a
    subst hspot
    refine ⟨b, off, rfl, fun i him j hj => ?_⟩
    have h1 := (Classical.choose_spec (key i) (by omega)).2.1 j hj
    have h2 := (Classical.choose_spec (key i) (by omega)).1
    rw [List.getElem?_eq_getElem (by omega)] at h1
    show _ = some ((Classical.choose (key i)).getD j undef)
    rw [List.getD_eq_getElem?_getD, List.getElem?_eq_getElem (by omega)]
    have e : (⟨b, off, none⟩ : Addr).add (i * fs.size + j) = ⟨b, off + i * fs.size + j, none⟩ := by
      unfold Addr.add; split <;> simp <;> omega
    rw [← e]
    exact h1

/-- An integer field of such an element. -/
theorem int_field {t : TypeId} {k : IntKind} {m : Nat} {v : Value} {y : DataW H × List MemPlace} (ht : P.underlying t = some (.int k)) (h : DataW.trod enc P w 0 (fun _ => true) true m t [v] = some y) :
    ∃ a, v = .int k a ∧ (Lit.int k a).wf = true := by
  obtain ⟨a, e0, _, wa⟩ := DataW.trod_int ht h
  exact ⟨a, by simpa using e0, wa⟩

/-- An argument that is a slice of integers. -/
theorem open_words {t e : TypeId} {k : IntKind} {base : Nat} {v : Value} {d : DataW H} {p : List MemPlace} (ht : P.underlying t = some (.slice e)) (he : P.underlying e = some (.int k)) (hC : P.cellsOf e = 1)
    (hv : Value.okWide P w .any base t v) (h : DataW.Trod enc P w 0 (fun _ => true) true t v d p) :
    ∃ (A : Option Addr) (n c : Nat) (Z : Nat → Int), v = .slice A n c ∧ (Arr w A n 1 (fun i _ => .int k (Z i)) ∧ n ≤ c ∧ c ≤ maxLen ∧ (A = none → n = 0 ∧ c = 0) ∧ ∀ i, i < n → (Lit.int k (Z i)).wf = true) := by
  obtain ⟨a0, len, cap, rfl⟩ := okWide_slice ht hv
  obtain ⟨fuel, hf⟩ := h
  rcases open_ints ht he hC hf with ⟨hcs, _⟩ | ⟨a, l, c, zs, hcs, _, hl, hm, hz, _, hcell, hwz⟩
  · simp [Value.cells] at hcs
    obtain ⟨rfl, rfl, rfl⟩ := hcs
    exact ⟨none, 0, 0, fun _ => 0, rfl, Arr.nil, Nat.le_refl _, by unfold maxLen; omega, fun _ => ⟨rfl, rfl⟩, fun i hi => absurd hi (by omega)⟩
  · simp [Value.cells] at hcs
    obtain ⟨rfl, rfl, rfl⟩ := hcs
    have hz' : zs.length = cap := by simpa using hz
    refine ⟨some a, len, cap, fun i => zs.getD i 0, rfl, ?_, hl, hm, (fun h => by cases h), fun i hi => hwz _ ?_⟩
    · intro hn
      have h1 := hcell 0 (by omega)
      obtain ⟨b, off, spot⟩ := a
      have hspot : spot = none := by simpa [Addr.add] using World.cell?_spot h1
      subst hspot
      refine ⟨b, off, rfl, fun i him j hj => ?_⟩
      obtain rfl : j = 0 := by omega
      have h2 := hcell i (by omega)
      have e : (⟨b, off, none⟩ : Addr).add i = ⟨b, off + i * 1 + 0, none⟩ := by
        unfold Addr.add; split <;> simp <;> omega
      rw [← e]
      exact h2
    · show zs.getD i 0 ∈ zs
      rw [List.getD_eq_getElem?_getD, List.getElem?_eq_getElem (by omega)]
      exact List.getElem_mem _
end

/-! ### a slice that the call itself has built: it owns its cells -/
def flat (sz : Nat) (F : Nat → Nat → Value) (n : Nat) : List Value := (List.range (n * sz)).map fun j => F (j / sz) (j % sz)
theorem flat_length (sz : Nat) (F : Nat → Nat → Value) (n : Nat) : (flat sz F n).length = n * sz := by simp [flat]
theorem flat_get (sz : Nat) (F : Nat → Nat → Value) (n j : Nat) (h : j < n * sz) : (flat sz F n)[j]? = some (F (j / sz) (j % sz)) := by
  simp [flat, List.getElem?_map, List.getElem?_range h]
theorem flat_at (sz : Nat) (F : Nat → Nat → Value) (n i j : Nat) (hi : i < n) (hj : j < sz) : (flat sz F n)[i * sz + j]? = some (F i j) := by
  have h1 : i * sz + j < n * sz := by
    have := Nat.mul_le_mul_right sz (show i + 1 ≤ n by omega)
    rw [Nat.add_mul] at this
    omega
  have h2 : (i * sz + j) / sz = i := by
    rw [Nat.mul_comm, Nat.mul_add_div (by omega), Nat.div_eq_of_lt hj]; rfl
  have h3 : (i * sz + j) % sz = j := by
    rw [Nat.mul_comm, Nat.mul_add_mod, Nat.mod_eq_of_lt hj]
  rw [flat_get _ _ _ _ h1, h2, h3]
def cat (n : Nat) (F G : Nat → Nat → Value) : Nat → Nat → Value := fun i j => if i < n then F i j else G (i - n) j
theorem flat_append (sz : Nat) (F G : Nat → Nat → Value) (n m : Nat) : flat sz F n ++ flat sz G m = flat sz (cat n F G) (n + m) := by
  apply List.ext_getElem?
  intro j
  by_cases h : j < n * sz
  · rw [List.getElem?_append_left (by rw [flat_length]; exact h), flat_get _ _ _ _ h, flat_get _ _ _ _ (by rw [Nat.add_mul]; omega)]
    have : j / sz < n := Nat.div_lt_of_lt_mul (by rw [Nat.mul_comm]; exact h)
    simp [cat, this]
  · rw [List.getElem?_append_right (by rw [flat_length]; omega), flat_length]
    by_cases h' : j < (n + m) * sz
    · rw [Nat.add_mul] at h'
      have hs : 0 < sz := by
        rcases Nat.eq_zero_or_pos sz with h0 | h0
        · subst h0; omega
        · exact h0
      rw [flat_get _ _ _ _ (by omega), flat_get _ _ _ _ (by rw [Nat.add_mul]; omega)]
      obtain ⟨q, rfl⟩ : ∃ q, j = n * sz + q := ⟨j - n * sz, by omega⟩
      have e1 : (n * sz + q) / sz = n + q / sz := by rw [Nat.mul_comm, Nat.mul_add_div hs]
      have e2 : (n * sz + q) % sz = q % sz := by rw [Nat.mul_comm, Nat.mul_add_mod]
      rw [e1, e2, Nat.add_sub_cancel_left]
      simp [cat]
      exact fun hh => absurd hh (Nat.not_lt.2 (Nat.le_add_right _ _))
    · rw [List.getElem?_eq_none (by rw [flat_length]; rw [Nat.add_mul] at h'; omega), List.getElem?_eq_none (by rw [flat_length]; omega)]
theorem flat_congr {sz : Nat} {F G : Nat → Nat → Value} {n : Nat} (h : ∀ i, i < n → ∀ j, j < sz → F i j = G i j) : flat sz F n = flat sz G n := by
  unfold flat
  apply List.map_congr_left
  intro j hj
  have hj : j < n * sz := by simpa using hj
  have hs : 0 < sz := by
    rcases Nat.eq_zero_or_pos sz with h0 | h0
    · subst h0; omega
    · exact h0
  exact h _ (Nat.div_lt_of_lt_mul (by rw [Nat.mul_comm]; exact hj)) _ (Nat.mod_lt _ hs)

def Own (w : World) (base : Nat) (e : TypeId) (sz : Nat) (v : Value) (n : Nat) (F : Nat → Nat → Value) : Prop := w.ownsRow base e sz v n (flat sz F n)
theorem Own.nil {w : World} {base : Nat} {e : TypeId} {sz : Nat} {F : Nat → Nat → Value} : Own w base e sz (.slice none 0 0) 0 F := by
  have h : flat sz F 0 = [] := by simp [flat]
  unfold Own; rw [h]; exact World.ownsRow_nil w base e sz
/-- '[]T{}', 'make([]T, 0, n)': it owns nothing yet. -/
theorem Own.made {w : World} {base : Nat} {e : TypeId} {sz : Nat} {cur : Array Value} {cap : Nat} {F : Nat → Nat → Value} (B : Nat) (hB : B = w.heap.size) (hb : base ≤ w.heap.size) (hm : cap ≤ maxLen) (hs : cur.size = cap * sz) :
    Own (w.alloc (.cells cur e)) base e sz (.slice (some ⟨B, 0, none⟩) 0 cap) 0 F := by
  have h : flat sz F 0 = [] := by simp [flat]
  subst hB
  unfold Own; rw [h]; exact World.ownsRow_made w cur cap hb hm hs
theorem Own.congr {w : World} {base : Nat} {e : TypeId} {sz : Nat} {v : Value} {n : Nat} {F G : Nat → Nat → Value} (h : Own w base e sz v n F) (hk : ∀ i, i < n → ∀ j, j < sz → F i j = G i j) : Own w base e sz v n G := by
  unfold Own; rw [← flat_congr hk]; exact h
theorem Own.arr {w : World} {base : Nat} {e : TypeId} {sz : Nat} {v : Value} {n : Nat} {F : Nat → Nat → Value} (h : Own w base e sz v n F) :
    ∃ A c, v = .slice A n c ∧ Arr w A n sz F ∧ n ≤ c ∧ c ≤ maxLen ∧ (A = none → c = 0) ∧ (∀ a, A = some a → base ≤ a.block ∧ a.block < w.heap.size) := by
  have hl := h.lt
  have hcl := @World.ownsRow.cells _ _ _ _ _ _ _ h
  rcases h.2 with ⟨rfl, rfl⟩ | ⟨g, cap, cur, rfl, hb, hg, h1, h2, _⟩
  · exact ⟨none, 0, rfl, Arr.nil, Nat.le_refl _, by unfold maxLen; omega, fun _ => rfl, fun a ha => by cases ha⟩
  · refine ⟨some ⟨g, 0, none⟩, cap, rfl, fun hn => ⟨g, 0, rfl, fun i hi j hj => ?_⟩, h1, h2, (fun h => by cases h), fun a ha => by injection ha with ha; subst ha; exact hl g rfl⟩
    have h3 := hcl (g := g) rfl (i * sz + j) _ (flat_at sz F n i j hi hj)
    have e : (⟨g, 0, none⟩ : Addr).add (i * sz + j) = ⟨g, 0 + i * sz + j, none⟩ := by
      unfold Addr.add; split <;> simp <;> omega
    rw [← e]; exact h3
theorem Own.alloc {w : World} {base : Nat} {e : TypeId} {sz : Nat} {v : Value} {n : Nat} {F : Nat → Nat → Value} (h : Own w base e sz v n F) (o : Obj) : Own (w.alloc o) base e sz v n F := World.ownsRow.alloc h o
theorem Own.drewN {w : World} {base : Nat} {e : TypeId} {sz : Nat} {v : Value} {n : Nat} {F : Nat → Nat → Value} (h : Own w base e sz v n F) (k : Nat) : Own (w.drewN k) base e sz v n F := h
theorem Own.drew {w : World} {base : Nat} {e : TypeId} {sz : Nat} {v : Value} {n : Nat} {F : Nat → Nat → Value} (h : Own w base e sz v n F) : Own w.drew base e sz v n F := h
theorem Own.below {w w' : World} {base : Nat} {e : TypeId} {sz : Nat} {v : Value} {n : Nat} {F : Nat → Nat → Value} (h : Own w base e sz v n F) (hb : Below w.heap.size w w') : Own w' base e sz v n F :=
  World.ownsRow.kept h (row := none) ⟨hb.os, hb.tape, hb.output, hb.size, fun k hk _ => hb.block k hk⟩ (by cases hv : v.ownBlock <;> simp)
theorem cat_nil {F G : Nat → Nat → Value} : cat 0 F G = G := by funext i j; simp [cat]
theorem Own.of_nil {w : World} {base : Nat} {e : TypeId} {sz : Nat} {v : Value} {m : Nat} {F G : Nat → Nat → Value} (h : Own w base e sz v (0 + m) (cat 0 F G)) : Own w base e sz v m G := by
  rw [Nat.zero_add, cat_nil] at h; exact h
/-- Behind a write to what the call owns, what was there at its start is as it was. -/
theorem bel_own {W w w' : World} {e : TypeId} {sz : Nat} {v : Value} {n : Nat} {F : Nat → Nat → Value} (hb : Below W.heap.size W w) (h : Own w W.heap.size e sz v n F) (hg : w.grownBy w' v.ownBlock) : Below W.heap.size W w' :=
  hb.grown hg hb.size fun k hk => (h.lt k hk).1

section
variable {P : Program} (w : World)
theorem run_append_of_nil (base : Nat) (t ty e : TypeId) (i : TypeInfo) (size : Nat) (ht : P.underlying t = some (.slice e)) (hi : P.info? e = some i)
    (v : Value) (n : Nat) (xs : List Value) (hown : w.ownsRow base e size v n xs) (c : Nat) : (Builtin.append_ #[t, t] ty #[v, .slice none 0 c]).run P w = .ok v w := by
  rcases hown.2 with ⟨rfl, rfl⟩ | ⟨g, cap, cur, rfl, _, _, hnc, _⟩
  · simp [Builtin.append_, run_underlying ht, sizeOf, typeInfo, hi, Builtin.lenOf, Builtin.firstCells]
  · simp [Builtin.append_, run_underlying ht, sizeOf, typeInfo, hi, Builtin.lenOf, Builtin.firstCells, hnc, storeCells]

theorem run_append_arr (base : Nat) (t ty e : TypeId) (i : TypeInfo) (z : Value) (size bytes : Nat) (ht : P.underlying t = some (.slice e)) (hi : P.info? e = some i) (hz : i.zero = some z)
    (hsize : i.size = size) (hby : i.bytes = bytes) (hzs : z.cells.size = size) (hsz : 0 < size)
    (v : Value) (n : Nat) (F : Nat → Nat → Value) (hown : Own w base e size v n F)
    (A : Option Addr) (m c : Nat) (G : Nat → Nat → Value) (hr : Arr w A m size G) (h1 : ∀ i, i < m → ∀ j, j < size → (G i j).oneCell' = true)
    (h63 : n + m ≤ maxLen) (hbytes : (n + m) * bytes ≤ 140737488355328) (hbase : base ≤ w.heap.size) :
    ∃ v' w', (Builtin.append_ #[t, t] ty #[v, .slice A m c]).run P w = .ok v' w' ∧ Own w' base e size v' (n + m) (cat n F G) ∧ w.grownBy w' v.ownBlock ∧
      (v'.ownBlock = v.ownBlock ∨ v'.ownBlock = some w.heap.size) := by
  unfold Own
  rw [← flat_append]
  have h1' : ∀ u ∈ flat size G m, u.oneCell' = true := by
    intro u hu
    unfold flat at hu
    simp only [List.mem_map, List.mem_range] at hu
    obtain ⟨j, hj, rfl⟩ := hu
    exact h1 _ (Nat.div_lt_of_lt_mul (by rw [Nat.mul_comm]; exact hj)) _ (Nat.mod_lt _ hsz)
  rcases A with _ | ad
  · have hm : m = 0 := by
      rcases Nat.eq_zero_or_pos m with h0 | h0
      · exact h0
      · obtain ⟨b, off, h, _⟩ := hr h0
        cases h
    subst hm
    have hn : flat size G 0 = [] := by simp [flat]
    rw [hn, List.append_nil, Nat.add_zero]
    exact ⟨v, w, run_append_of_nil w base t ty e i size ht hi v n _ hown c, hown, World.grownBy.refl w _, .inl rfl⟩
  · have hcells : ∀ j u, (flat size G m)[j]? = some u → w.cell? (ad.add j) = some u := by
      intro j u hu
      have hj : j < m * size := by
        rcases Nat.lt_or_ge j (m * size) with h | h
        · exact h
        · rw [List.getElem?_eq_none (by rw [flat_length]; exact h)] at hu; cases hu
      rcases Nat.eq_zero_or_pos m with h0 | h0
      · subst h0; omega
      · obtain ⟨b, off, h, hc⟩ := hr h0
        injection h with h
        subst h
        rw [flat_get _ _ _ _ hj] at hu
        injection hu with hu
        subst hu
        have h2 := hc (j / size) (Nat.div_lt_of_lt_mul (by rw [Nat.mul_comm]; exact hj)) (j % size) (Nat.mod_lt _ hsz)
        have e : (⟨b, off, none⟩ : Addr).add j = ⟨b, off + j / size * size + j % size, none⟩ := by
          have := Nat.div_add_mod j size
          rw [Nat.mul_comm] at this
          unfold Addr.add; split <;> simp <;> omega
        rw [e]; exact h2
    obtain ⟨v', w', hrun, h2, h3, _, h5⟩ := run_append_own_at (P := P) w base t ty e i z size bytes ht hi hz hsize hby hzs hsz v n _ hown ad m c (flat size G m) (flat_length _ _ _) hcells h1' h63 hbytes hbase
    exact ⟨v', w', hrun, h2, h3, h5⟩

theorem wp_append_arr {o : Oper} {a : Act} {K : Act → World → Prop} {Q : Exit → Act → World → Prop} (s x : Operand) (t : TypeId)
    (ho : o.op = .call { callee := .builtin .append, args := #[s, x], argTypes := #[t, t] })
    (base : Nat) (e : TypeId) (i : TypeInfo) (z : Value) (size bytes : Nat) (ht : P.underlying t = some (.slice e)) (hi : P.info? e = some i) (hz : i.zero = some z)
    (hsize : i.size = size) (hby : i.bytes = bytes) (hzs : z.cells.size = size) (hsz : 0 < size)
    (v : Value) (n : Nat) (F : Nat → Nat → Value) (hs : a.eval s = v) (hown : Own w base e size v n F)
    (A : Option Addr) (m c : Nat) (G : Nat → Nat → Value) (hx : a.eval x = .slice A m c) (hr : Arr w A m size G) (h1 : ∀ i, i < m → ∀ j, j < size → (G i j).oneCell' = true)
    (h63 : n + m ≤ maxLen) (hbytes : (n + m) * bytes ≤ 140737488355328) (hbase : base ≤ w.heap.size)
    (h : ∀ v' w', Own w' base e size v' (n + m) (cat n F G) → w.grownBy w' v.ownBlock → (v'.ownBlock = v.ownBlock ∨ v'.ownBlock = some w.heap.size) → K (a.put o.dst v') w') : o.wp P a w K Q := by
  obtain ⟨v', w', hrun, h2, h3, h4⟩ := run_append_arr (P := P) w base t o.type e i z size bytes ht hi hz hsize hby hzs hsz v n F hown A m c G hr h1 h63 hbytes hbase
  unfold Oper.wp execOp
  simp only [ho, resolve, invoke, builtin, Sem.run_bind, Sem.run_pure, Result.andThen_ok, List.map_toArray, List.map_cons, List.map_nil, hs, hx, hrun]
  exact h v' w' h2 h3 h4

theorem wpList_append_arr {ops : Array Oper} {rest : List Oper} {o : Oper} {a : Act} {Q : Exit → Act → World → Prop} (hgd : o.guard = none) (s x : Operand) (t : TypeId)
    (ho : o.op = .call { callee := .builtin .append, args := #[s, x], argTypes := #[t, t] })
    (base : Nat) (e : TypeId) (i : TypeInfo) (z : Value) (size bytes : Nat) (ht : P.underlying t = some (.slice e)) (hi : P.info? e = some i) (hz : i.zero = some z)
    (hsize : i.size = size) (hby : i.bytes = bytes) (hzs : z.cells.size = size) (hsz : 0 < size)
    (v : Value) (n : Nat) (F : Nat → Nat → Value) (hs : a.eval s = v) (hown : Own w base e size v n F)
    (A : Option Addr) (m c : Nat) (G : Nat → Nat → Value) (hx : a.eval x = .slice A m c) (hr : Arr w A m size G) (h1 : ∀ i, i < m → ∀ j, j < size → (G i j).oneCell' = true)
    (h63 : n + m ≤ maxLen) (hbytes : (n + m) * bytes ≤ 140737488355328) (hbase : base ≤ w.heap.size)
    (h : ∀ v' w', Own w' base e size v' (n + m) (cat n F G) → w.grownBy w' v.ownBlock → (v'.ownBlock = v.ownBlock ∨ v'.ownBlock = some w.heap.size) → wpList P ops Q rest (a.put o.dst v') w') : wpList P ops Q (o :: rest) a w :=
  wpList_plain hgd fun _ hK => wp_append_arr w s x t ho base e i z size bytes ht hi hz hsize hby hzs hsz v n F hs hown A m c G hx hr h1 h63 hbytes hbase fun v' w' h2 h3 h4 => hK _ _ (h v' w' h2 h3 h4)
end

theorem u64_bd {x : Int} (h : (Lit.int .u64 x).wf = true) : 0 ≤ x ∧ x ≤ 18446744073709551615 := by
  simp [Lit.wf, IntKind.min, IntKind.max, IntKind.signed, IntKind.bits] at h
  omega
theorem i64_bd {x : Int} (h : (Lit.int .i64 x).wf = true) : -9223372036854775808 ≤ x ∧ x ≤ 9223372036854775807 := by
  simp [Lit.wf, IntKind.min, IntKind.max, IntKind.signed, IntKind.bits] at h
  omega
end Go.Proofs.YtokhfkbbhdaghaaGreat.Mem
namespace Go.Proofs.YtokhfkbbhdaghaaGreat.Mem
open Go.RowKit
set_option linter.unusedVariables false
set_option linter.unusedSimpArgs false

/-- From w to w' only block g has changed, and there may be new ones. -/
def Tch (w w' : World) (g : Nat) : Prop := w.grownBy w' (some g)
theorem Tch.refl (w : World) (g : Nat) : Tch w w g := World.grownBy.refl w _
theorem Tch.drew {w0 w : World} {g : Nat} (h : Tch w0 w g) : Tch w0 w.drew g := ⟨h.os, h.tape, h.output, h.size, h.block⟩
theorem Tch.drewN {w0 w : World} {g : Nat} (h : Tch w0 w g) (n : Nat) : Tch w0 (w.drewN n) g := ⟨h.os, h.tape, h.output, h.size, h.block⟩
theorem Tch.alloc {w0 w : World} {g : Nat} (h : Tch w0 w g) (o : Obj) : Tch w0 (w.alloc o) g :=
  ⟨h.os, h.tape, h.output, Nat.le_trans h.size (by simp), fun i hi hne => (Below.heap_alloc w o i (Nat.lt_of_lt_of_le hi h.size)).trans (h.block i hi hne)⟩
theorem Tch.set {w0 w : World} {g : Nat} (h : Tch w0 w g) (i : Nat) (u : Value) : Tch w0 (w.setCell ⟨g, i, none⟩ u) g :=
  ⟨h.os, h.tape, h.output, by simpa [World.setCell] using h.size, fun j hj hne => (Below.heap_setCell w ⟨g, i, none⟩ u j (by
    rintro rfl; exact hne rfl)).trans (h.block j hj hne)⟩
theorem Tch.below {w0 w w' : World} {g : Nat} (h : Tch w0 w g) (hb : Below w.heap.size w w') : Tch w0 w' g :=
  ⟨hb.os.trans h.os, hb.tape.trans h.tape, hb.output.trans h.output, Nat.le_trans h.size hb.size, fun i hi hne => (hb.block i (Nat.lt_of_lt_of_le hi h.size)).trans (h.block i hi hne)⟩
theorem Tch.trans {a b c : World} {g : Nat} (h : Tch a b g) (k : Tch b c g) : Tch a c g :=
  ⟨k.os.trans h.os, k.tape.trans h.tape, k.output.trans h.output, Nat.le_trans h.size k.size, fun i hi hne => (k.block i (Nat.lt_of_lt_of_le hi h.size) hne).trans (h.block i hi hne)⟩
theorem Tch.of_below {w w' : World} (g : Nat) (hb : Below w.heap.size w w') : Tch w w' g := (Tch.refl w g).below hb
/-- Where the object is one of the call's own, what was there at its start is as it was. -/
theorem bel_tch {W w w' : World} {g : Nat} (hb : Below W.heap.size W w) (h : Tch w w' g) (hg : W.heap.size ≤ g) : Below W.heap.size W w' :=
  hb.grown h hb.size fun k hk => by injection hk with hk; omega
theorem row_tch {w w' : World} {g g' : Nat} {t : TypeId} {n : Nat} {f : Nat → Value} (h : w.rowIs g' t n f) (k : Tch w w' g) (hne : g' ≠ g) : w'.rowIs g' t n f :=
  h.of_block (k.block g' h.lt (by intro e; injection e with e; exact hne e))
theorem row_below {w w' : World} {g : Nat} {t : TypeId} {n : Nat} {f : Nat → Value} (h : w.rowIs g t n f) (hb : Below w.heap.size w w') : w'.rowIs g t n f :=
  h.of_block (hb.block g h.lt)
theorem row_drewN {w : World} {g : Nat} {t : TypeId} {n : Nat} {f : Nat → Value} (h : w.rowIs g t n f) (k : Nat) : (w.drewN k).rowIs g t n f := h
/-- Cells of a block, written one behind the other. -/
def setCells (w : World) (g : Nat) : Nat → List Value → World
  | _, [] => w
  | i, v :: vs => setCells (w.setCell ⟨g, i, none⟩ v) g (i + 1) vs
theorem row_sets {g : Nat} {t : TypeId} {n : Nat} : ∀ (vs : List Value) (i : Nat) {w : World} {f : Nat → Value}, w.rowIs g t n f → (setCells w g i vs).rowIs g t n (fun j => if i ≤ j ∧ j < i + vs.length then vs.getD (j - i) undef else f j)
  | [], i, w, f, h => h.congr fun j hj => by simp; omega
  | v :: vs, i, w, f, h => (row_sets vs (i + 1) (h.set i v)).congr fun j hj => by
    simp only [List.length_cons]
    by_cases h1 : j = i
    · subst h1
      rw [if_neg (by omega), if_pos rfl, if_pos ⟨by omega, by omega⟩]; simp
    · by_cases h2 : i + 1 ≤ j ∧ j < i + 1 + vs.length
      · rw [if_pos h2, if_pos ⟨by omega, by omega⟩, show j - i = (j - (i + 1)) + 1 by omega]; rfl
      · rw [if_neg h2, if_neg h1, if_neg (by omega)]
theorem tch_sets {w0 : World} {g : Nat} : ∀ {w : World}, Tch w0 w g → ∀ (vs : List Value) (i : Nat), Tch w0 (setCells w g i vs) g
  | w, h, [], i => h
  | w, h, v :: vs, i => tch_sets (h.set i v) vs (i + 1)
/-- What the call owns stays, behind a change of another block. -/
theorem own_tch {w w' : World} {base : Nat} {e : TypeId} {sz : Nat} {v : Value} {n : Nat} {F : Nat → Nat → Value} {g : Nat} (h : Own w base e sz v n F) (k : Tch w w' g) (hne : v.ownBlock ≠ some g) : Own w' base e sz v n F :=
  World.ownsRow.kept h (row := some g) k (.inr hne)
theorem tch_own {w w' : World} {g : Nat} {v : Value} (h : w.grownBy w' v.ownBlock) (hg : ∀ k, v.ownBlock = some k → k = g) : Tch w w' g :=
  ⟨h.os, h.tape, h.output, h.size, fun i hi hne => h.block i hi (by intro e; exact hne (by rw [hg i e.symm]))⟩
theorem arr_tch {w w' : World} {A : Option Addr} {n sz : Nat} {F : Nat → Nat → Value} {g : Nat} (h : Arr w A n sz F) (k : Tch w w' g) (hne : ∀ a, A = some a → a.block ≠ g) : Arr w' A n sz F := by
  intro hn
  obtain ⟨b, off, e, hc⟩ := h hn
  refine ⟨b, off, e, fun i hi j hj => ?_⟩
  have h1 := hc i hi j hj
  rw [World.cell?_of_block (k.block b (lt_of_cell h1) (by intro e'; injection e' with e'; exact hne _ e e'))]
  exact h1
end Go.Proofs.YtokhfkbbhdaghaaGreat.Mem
namespace Go.Proofs.YtokhfkbbhdaghaaGreat.Mem
open Go.RowKit
set_option linter.unusedVariables false
set_option linter.unusedSimpArgs false

/-- A world that has what W has, and perhaps more. -/
structure Ext (W : World) where
  w : World
  h : Below W.heap.size W w
instance (W : World) : Nonempty (Ext W) := ⟨⟨W, Below.refl _ _⟩⟩

section
variable {P : Program}
theorem wp_region_ext {id : Nat} {Q : Exit → Act → World → Prop} {a : Act} {W : World} {l : List Oper} (hm : P.follows .mixedOrders = true) (hB : Region.lexB .any l.toArray = true)
    (h : wpQuiet P l.toArray (fun w' => ∃ x : Ext W, w' = x.w) (fun a' => ∀ w', (∃ x : Ext W, w' = x.w) → Q .normal a' w') l a) : (Code.region id l.toArray true).wp P Q a W :=
  wp_region_quiet (C := fun w' => ∃ x : Ext W, w' = x.w) hm hB ⟨⟨{ W with drawn := W.drawn + 1 }, ⟨rfl, rfl, rfl, Nat.le_refl _, fun _ _ => rfl⟩⟩, rfl⟩ (by simpa using h)
theorem ext_call {f : FuncId} {args : Array Value} {W : World} {x : Ext W} {v : Value} (h : Calls P f args x.w fun e w' => e = .returned v ∧ Below x.w.heap.size x.w w') :
    Calls P f args x.w fun e w'' => e = .returned v ∧ ∃ y : Ext W, w'' = y.w := h.mono fun _ _ ⟨he, hb⟩ => ⟨he, ⟨_, bel_trans x.h hb⟩, rfl⟩
theorem ext_call_same {f : FuncId} {args : Array Value} {W : World} {x : Ext W} {v : Value} (h : Calls P f args x.w fun e w' => e = .returned v ∧ x.w = w') :
    Calls P f args x.w fun e w'' => e = .returned v ∧ ∃ y : Ext W, w'' = y.w := h.mono fun _ _ ⟨he, hb⟩ => ⟨he, x, hb.symm⟩
theorem ext_cell {W : World} {p : Addr} {v : Value} (h : W.cell? p = some v) (x : Ext W) : x.w.cell? p = some v := keep_below x.h _ _ h
end
end Go.Proofs.YtokhfkbbhdaghaaGreat.Mem
namespace Go.Proofs.YtokhfkbbhdaghaaGreat.Mem
open Go.RowKit
set_option linter.unusedVariables false
set_option linter.unusedSimpArgs false

section
variable {α : Type} [Inhabited α]
def LF (enc : α → Nat → Value) (L : List α) : Nat → Nat → Value := fun i j => enc (L.getD i default) j
theorem LF_at {enc : α → Nat → Value} {L : List α} {k : Nat} {x : α} (h : L[k]? = some x) (j : Nat) : LF enc L k j = enc x j := by
  unfold LF; rw [List.getD_eq_getElem?_getD, h]; rfl
theorem LF_cat (enc : α → Nat → Value) (L M : List α) : cat L.length (LF enc L) (LF enc M) = LF enc (L ++ M) := by
  funext i j
  unfold cat LF
  by_cases h : i < L.length
  · simp [h, List.getD_eq_getElem?_getD, List.getElem?_append_left h]
  · simp [h, List.getD_eq_getElem?_getD, List.getElem?_append_right (Nat.le_of_not_lt h)]

def Sl (w : World) (A : Option Addr) (sz : Nat) (enc : α → Nat → Value) (L : List α) : Prop := Arr w A L.length sz (LF enc L)
variable {w w' : World} {A : Option Addr} {sz : Nat} {enc : α → Nat → Value} {L M : List α}
theorem Sl.nil : Sl w A sz enc ([] : List α) := Arr.nil
theorem Sl.keep (h : Sl w A sz enc L) (hk : ∀ p v, w.cell? p = some v → w'.cell? p = some v) : Sl w' A sz enc L := Arr.keep h hk
theorem Sl.below (h : Sl w A sz enc L) (hb : Below w.heap.size w w') : Sl w' A sz enc L := Arr.below h hb
theorem Sl.alloc (h : Sl w A sz enc L) (o : Obj) : Sl (w.alloc o) A sz enc L := Arr.below h (bel_alloc (Below.refl _ _) _)
theorem Sl.drewN (h : Sl w A sz enc L) (k : Nat) : Sl (w.drewN k) A sz enc L := Arr.below h (bel_drewN (Below.refl _ _) _)
theorem Sl.drew (h : Sl w A sz enc L) : Sl w.drew A sz enc L := Arr.below h (bel_drew (Below.refl _ _))
/-- Where element k lies, and what is behind k + 1 of them. -/
theorem Sl.at_ (h : Sl w A sz enc L) (k : Nat) (hk : k < L.length) :
    ∃ b off x, A = some ⟨b, off, none⟩ ∧ L[k]? = some x ∧ L.take (k + 1) = L.take k ++ [x] ∧ x ∈ L ∧ (∀ j, j < sz → w.cell? ⟨b, off + k * sz + j, none⟩ = some (enc x j)) := by
  obtain ⟨b, off, e, hc⟩ := h (by omega)
  have hx : L[k]? = some L[k] := List.getElem?_eq_getElem hk
  refine ⟨b, off, L[k], e, hx, List.take_succ_eq_append_getElem hk, List.getElem_mem hk, fun j hj => ?_⟩
  rw [hc k hk j hj, LF_at hx]
theorem Sl.at1 (h : Sl w A 1 enc L) (k : Nat) (hk : k < L.length) :
    ∃ b off x, A = some ⟨b, off, none⟩ ∧ L[k]? = some x ∧ L.take (k + 1) = L.take k ++ [x] ∧ x ∈ L ∧ w.cell? ⟨b, off + k, none⟩ = some (enc x 0) ∧ b < w.heap.size := by
  obtain ⟨b, off, x, e, hx, ht, hm, hc⟩ := Sl.at_ h k hk
  have := hc 0 (by omega)
  rw [Nat.mul_one, Nat.add_zero] at this
  exact ⟨b, off, x, e, hx, ht, hm, this, lt_of_cell this⟩
theorem Sl.at2 (h : Sl w A 2 enc L) (k : Nat) (hk : k < L.length) :
    ∃ b off x, A = some ⟨b, off, none⟩ ∧ L[k]? = some x ∧ L.take (k + 1) = L.take k ++ [x] ∧ x ∈ L ∧ w.cell? ⟨b, off + k * 2, none⟩ = some (enc x 0) ∧ w.cell? ⟨b, off + k * 2 + 1, none⟩ = some (enc x 1) ∧ b < w.heap.size := by
  obtain ⟨b, off, x, e, hx, ht, hm, hc⟩ := Sl.at_ h k hk
  have := hc 0 (by omega)
  rw [Nat.add_zero] at this
  exact ⟨b, off, x, e, hx, ht, hm, this, hc 1 (by omega), lt_of_cell this⟩

theorem Sl.take (h : Sl w A sz enc L) (k : Nat) : Sl w A sz enc (L.take k) := by
  intro hn
  have hl : (L.take k).length = min k L.length := List.length_take ..
  obtain ⟨b, off, e, hc⟩ := h (by omega)
  refine ⟨b, off, e, fun i hi j hj => ?_⟩
  rw [hc i (by omega) j hj]
  have : i < k := by omega
  simp [LF, List.getD_eq_getElem?_getD, List.getElem?_take, this]
theorem Sl.drop (h : Sl w A sz enc L) (k : Nat) (hk : k < L.length) : ∃ b off, A = some ⟨b, off, none⟩ ∧ Sl w (some ⟨b, off + k * sz, none⟩) sz enc (L.drop k) := by
  obtain ⟨b, off, e, hc⟩ := h (by omega)
  refine ⟨b, off, e, fun hn => ⟨b, off + k * sz, rfl, fun i hi j hj => ?_⟩⟩
  have hl : (L.drop k).length = L.length - k := List.length_drop ..
  have := hc (k + i) (by omega) j hj
  rw [show off + k * sz + i * sz + j = off + (k + i) * sz + j by rw [Nat.add_mul]; omega, this]
  simp [LF, List.getD_eq_getElem?_getD]

def OwnL (w : World) (base : Nat) (e : TypeId) (sz : Nat) (v : Value) (enc : α → Nat → Value) (L : List α) : Prop := Own w base e sz v L.length (LF enc L)
variable {base : Nat} {e : TypeId} {v v1 v2 v' : Value}
theorem OwnL.nil : OwnL w base e sz (.slice none 0 0) enc ([] : List α) := Own.nil
theorem OwnL.made {cur : Array Value} {cap : Nat} (B : Nat) (hB : B = w.heap.size) (hb : base ≤ w.heap.size) (hm : cap ≤ maxLen) (hs : cur.size = cap * sz) :
    OwnL (w.alloc (.cells cur e)) base e sz (.slice (some ⟨B, 0, none⟩) 0 cap) enc ([] : List α) := Own.made B hB hb hm hs
theorem OwnL.lit (w : World) (e : TypeId) (enc : α → Nat → Value) (M : List α) (cs : Array Value) (n : Nat) (base : Nat) (hb : base ≤ w.heap.size) (B : Nat) (hB : B = w.heap.size) (hn : M.length = n) (hm : n ≤ maxLen) (he : cs.toList = M.map (fun x => enc x 0)) :
    OwnL (w.alloc (.cells cs e)) base e 1 (.slice (some ⟨B, 0, none⟩) n n) enc M := by
  subst hB
  have hs : cs.size = n * 1 := by rw [← Array.length_toList, he, List.length_map, hn, Nat.mul_one]
  have h1 := World.ownsRow_lit (size := 1) (e := e) w cs n hb hm hs
  have h2 : cs.toList = flat 1 (LF enc M) n := by
    rw [he]
    apply List.ext_getElem?
    intro i
    by_cases hi : i < M.length
    · have hx : M[i]? = some M[i] := List.getElem?_eq_getElem hi
      rw [List.getElem?_map, hx, flat_get _ _ _ _ (by omega), Nat.div_one, LF_at hx, Nat.mod_one]; rfl
    · rw [List.getElem?_eq_none (by rw [List.length_map]; omega), List.getElem?_eq_none (by rw [flat_length]; omega)]
  rw [h2] at h1
  unfold OwnL Own
  rw [hn]
  exact h1
theorem OwnL.of_eq (h : OwnL w base e sz v enc L) (hl : L = M) : OwnL w base e sz v enc M := hl ▸ h
theorem OwnL.alloc (h : OwnL w base e sz v enc L) (o : Obj) : OwnL (w.alloc o) base e sz v enc L := Own.alloc h o
theorem OwnL.drewN (h : OwnL w base e sz v enc L) (k : Nat) : OwnL (w.drewN k) base e sz v enc L := h
theorem OwnL.drew (h : OwnL w base e sz v enc L) : OwnL w.drew base e sz v enc L := h
theorem OwnL.below (h : OwnL w base e sz v enc L) (hb : Below w.heap.size w w') : OwnL w' base e sz v enc L := Own.below h hb
/-- What it is as a slice. -/
theorem OwnL.sl (h : OwnL w base e sz v enc L) : ∃ A c, v = .slice A L.length c ∧ Sl w A sz enc L ∧ L.length ≤ c ∧ c ≤ maxLen ∧ (A = none → c = 0) ∧ (∀ a, A = some a → base ≤ a.block ∧ a.block < w.heap.size) := Own.arr h
theorem OwnL.mono (h : OwnL w base e sz v enc L) {base' : Nat} (hb : base' ≤ base) : OwnL w base' e sz v enc L := by
  refine ⟨h.1, ?_⟩
  rcases h.2 with h1 | ⟨g, cap, cur, h1, h2, h3⟩
  · exact .inl h1
  · exact .inr ⟨g, cap, cur, h1, Nat.le_trans hb h2, h3⟩

/-- From w to w' the slice v has become v': only its own block has changed; v' lies there, or in a block that wasn't there. -/
def Grew (w w' : World) (v v' : Value) : Prop := w.grownBy w' v.ownBlock ∧ (v'.ownBlock = v.ownBlock ∨ ∃ k, v'.ownBlock = some k ∧ w.heap.size ≤ k)
theorem Grew.refl (w : World) (v : Value) : Grew w w v v := ⟨World.grownBy.refl w _, .inl rfl⟩
theorem Grew.below_right {w2 : World} (h : Grew w w' v v') (hb : Below w'.heap.size w' w2) : Grew w w2 v v' :=
  ⟨⟨hb.os.trans h.1.os, hb.tape.trans h.1.tape, hb.output.trans h.1.output, Nat.le_trans h.1.size hb.size, fun i hi hne => (hb.block i (Nat.lt_of_lt_of_le hi h.1.size)).trans (h.1.block i hi hne)⟩, h.2⟩
theorem Grew.trans {w2 : World} (h : Grew w w' v v') (k : Grew w' w2 v' v2) : Grew w w2 v v2 := by
  refine ⟨⟨k.1.os.trans h.1.os, k.1.tape.trans h.1.tape, k.1.output.trans h.1.output, Nat.le_trans h.1.size k.1.size, fun i hi hne => (k.1.block i (Nat.lt_of_lt_of_le hi h.1.size) ?_).trans (h.1.block i hi hne)⟩, ?_⟩
  · rcases h.2 with e | ⟨g, e, hg⟩
    · rw [e]; exact hne
    · rw [e]; intro e'; injection e' with e'; omega
  · rcases k.2 with e | ⟨g, e, hg⟩
    · rw [e]; exact h.2
    · exact .inr ⟨g, e, Nat.le_trans h.1.size hg⟩
theorem Grew.below_left {w0 : World} (hb : Below w.heap.size w w') (h : Grew w' w0 v v') : Grew w w0 v v' :=
  Grew.trans ((Grew.refl w v).below_right hb) h
theorem Grew.bel {W : World} (h : Grew w w' v v') (hb : Below W.heap.size W w) (ho : OwnL w W.heap.size e sz v enc L) : Below W.heap.size W w' := bel_own hb ho h.1
/-- What lies below the base stays. -/
theorem Grew.sl {β : Type} [Inhabited β] {enc' : β → Nat → Value} {sz' : Nat} {M : List β} (h : Grew w w' v v') (hs : Sl w A sz' enc' M) (hA : ∀ a, A = some a → ∀ k, v.ownBlock = some k → a.block ≠ k) : Sl w' A sz' enc' M := by
  intro hn
  obtain ⟨b, off, e1, hc⟩ := hs hn
  refine ⟨b, off, e1, fun i hi j hj => ?_⟩
  have h1 := hc i hi j hj
  rw [World.cell?_of_block (h.1.block b (lt_of_cell h1) (by
    intro e'; exact hA _ e1 b e'.symm rfl))]
  exact h1
/-- Another slice of the call's own stays, if it lies elsewhere. -/
theorem Grew.own {β : Type} [Inhabited β] {enc' : β → Nat → Value} {sz' : Nat} {M : List β} {e' : TypeId} {base' : Nat} {u : Value} (h : Grew w w' v v') (hs : OwnL w base' e' sz' u enc' M) (hA : ∀ k, u.ownBlock = some k → v.ownBlock ≠ some k) : OwnL w' base' e' sz' u enc' M :=
  World.ownsRow.kept hs (row := v.ownBlock) h.1 (by
    cases hu : u.ownBlock with
    | none => exact .inl rfl
    | some k => exact .inr fun hv => hA k hu hv.symm)
theorem OwnL.lt' (h : OwnL w base e sz v enc L) : ∀ k, v.ownBlock = some k → base ≤ k ∧ k < w.heap.size := fun k hk => World.ownsRow.lt h k hk
end

/-- An element's type, as append needs it. -/
structure Elt (P : Program) (t e : TypeId) (sz bytes : Nat) : Prop where
  ht : P.underlying t = some (.slice e)
  hi : ∃ (i : TypeInfo) (z : Value), P.info? e = some i ∧ i.zero = some z ∧ i.size = sz ∧ i.bytes = bytes ∧ z.cells.size = sz
  pos : 0 < sz
theorem Elt.mk' {P : Program} {t e : TypeId} {sz bytes : Nat} {z : Value} (ht : P.underlying t = some (.slice e)) (hi : (P.info? e).map (fun i => (i.zero, i.size, i.bytes)) = some (some z, sz, bytes)) (hz : z.cells.size = sz) (pos : 0 < sz) : Elt P t e sz bytes := by
  obtain ⟨i, h0, h1, h2, h3⟩ := info_parts hi
  exact ⟨ht, ⟨i, z, h0, h1, h2, h3, hz⟩, pos⟩
section
variable {P : Program} (w : World) {α : Type} [Inhabited α]
theorem wp_append_sl {o : Oper} {a : Act} {K : Act → World → Prop} {Q : Exit → Act → World → Prop} (s x : Operand) (t : TypeId)
    (ho : o.op = .call { callee := .builtin .append, args := #[s, x], argTypes := #[t, t] })
    {e : TypeId} {size bytes : Nat} (hE : Elt P t e size bytes) (base : Nat) (enc : α → Nat → Value)
    (v : Value) (L : List α) (hs : a.eval s = v) (hown : OwnL w base e size v enc L)
    (A : Option Addr) (m c : Nat) (M : List α) (hx : a.eval x = .slice A m c) (hm : m = M.length) (hr : Sl w A size enc M) (h1 : ∀ x j, (enc x j).oneCell' = true)
    (h63 : L.length + M.length ≤ maxLen) (hbytes : (L.length + M.length) * bytes ≤ 140737488355328) (hbase : base ≤ w.heap.size)
    (h : ∀ v' w', OwnL w' base e size v' enc (L ++ M) → Grew w w' v v' → K (a.put o.dst v') w') : o.wp P a w K Q := by
  subst hm
  obtain ⟨i, z, hi, hz, hsz, hby, hzs⟩ := hE.hi
  refine wp_append_arr w s x t ho base e i z size bytes hE.ht hi hz hsz hby hzs hE.pos v L.length (LF enc L) hs hown A M.length c (LF enc M) hx hr (fun i _ j _ => h1 _ _) h63 hbytes hbase ?_
  intro v' w' h2 h3 h4
  refine h v' w' ?_ ⟨h3, ?_⟩
  · unfold OwnL
    rw [LF_cat] at h2
    rw [List.length_append]
    exact h2
  · rcases h4 with h4 | h4
    · exact .inl h4
    · exact .inr ⟨_, h4, Nat.le_refl _⟩
theorem wpList_append_sl {ops : Array Oper} {rest : List Oper} {o : Oper} {a : Act} {Q : Exit → Act → World → Prop} (hgd : o.guard = none) (s x : Operand) (t : TypeId)
    (ho : o.op = .call { callee := .builtin .append, args := #[s, x], argTypes := #[t, t] })
    {e : TypeId} {size bytes : Nat} (hE : Elt P t e size bytes) (base : Nat) (enc : α → Nat → Value)
    (v : Value) (L : List α) (hs : a.eval s = v) (hown : OwnL w base e size v enc L)
    (A : Option Addr) (m c : Nat) (M : List α) (hx : a.eval x = .slice A m c) (hm : m = M.length) (hr : Sl w A size enc M) (h1 : ∀ x j, (enc x j).oneCell' = true)
    (h63 : L.length + M.length ≤ maxLen) (hbytes : (L.length + M.length) * bytes ≤ 140737488355328) (hbase : base ≤ w.heap.size)
    (h : ∀ v' w', OwnL w' base e size v' enc (L ++ M) → Grew w w' v v' → wpList P ops Q rest (a.put o.dst v') w') : wpList P ops Q (o :: rest) a w :=
  wpList_plain hgd fun _ hK => wp_append_sl w s x t ho hE base enc v L hs hown A m c M hx hm hr h1 h63 hbytes hbase fun v' w' h2 h3 => hK _ _ (h v' w' h2 h3)
theorem step_append_sl {ops : Array Oper} {o : Oper} {a : Act} {K : Act → World → Prop} {Q : Exit → Act → World → Prop} {E : Prop} (hgd : o.guard = none) (s x : Operand) (t : TypeId)
    (ho : o.op = .call { callee := .builtin .append, args := #[s, x], argTypes := #[t, t] })
    {e : TypeId} {size bytes : Nat} (hE : Elt P t e size bytes) (base : Nat) (enc : α → Nat → Value)
    (v : Value) (L : List α) (hs : a.eval s = v) (hown : OwnL w base e size v enc L)
    (A : Option Addr) (m c : Nat) (M : List α) (hx : a.eval x = .slice A m c) (hm : m = M.length) (hr : Sl w A size enc M) (h1 : ∀ x j, (enc x j).oneCell' = true)
    (h63 : L.length + M.length ≤ maxLen) (hbytes : (L.length + M.length) * bytes ≤ 140737488355328) (hbase : base ≤ w.heap.size)
    (h : ∀ v' w', OwnL w' base e size v' enc (L ++ M) → Grew w w' v v' → K (a.put o.dst v') w') :
    if Region.wanted o (yielded ops a.tmps) = true then Oper.wp P o a w K Q else E := by
  have hw : Region.wanted o (yielded ops a.tmps) = true := by simp [Region.wanted, hgd]
  rw [if_pos hw]
  exact wp_append_sl w s x t ho hE base enc v L hs hown A m c M hx hm hr h1 h63 hbytes hbase h
/-- The one element that stands behind 'append(s, x)' in a block of its own. -/
theorem sl_new (enc : α → Nat → Value) (x : α) (cs : Array Value) (sz : Nat) (t : TypeId) (B : Nat) (hB : B = w.heap.size) (hc : ∀ j, j < sz → cs[j]? = some (enc x j)) : Sl (w.alloc (.cells cs t)) (some ⟨B, 0, none⟩) sz enc [x] := by
  subst hB
  refine arr_new fun i hi j hj => ?_
  have : i = 0 := by simp at hi; omega
  subst this
  rw [Nat.zero_mul, Nat.zero_add, hc j hj]; rfl
theorem sl_one (enc : α → Nat → Value) (x : α) (u : Value) (t : TypeId) (B : Nat) (hB : B = w.heap.size) (he : u = enc x 0) : Sl (w.alloc (.cells #[u] t)) (some ⟨B, 0, none⟩) 1 enc [x] :=
  sl_new w enc x _ 1 t B hB (fun j hj => by have h0 : j = 0 := Nat.lt_one_iff.1 hj; subst h0; rw [← he]; rfl)
theorem sl_lit (enc : α → Nat → Value) (M : List α) (cs : Array Value) (t : TypeId) (B : Nat) (hB : B = w.heap.size) (he : cs.toList = M.map (fun x => enc x 0)) : Sl (w.alloc (.cells cs t)) (some ⟨B, 0, none⟩) 1 enc M := by
  subst hB
  refine arr_new fun i hi j hj => ?_
  have h0 : j = 0 := Nat.lt_one_iff.1 hj
  subst h0
  have hx : M[i]? = some M[i] := List.getElem?_eq_getElem hi
  rw [Nat.mul_one, Nat.add_zero, ← Array.getElem?_toList, he, List.getElem?_map, hx, LF_at hx]; rfl
/-- The elements that stand behind 'append(s, x, y ..)', or a literal, in a block of its own. -/
theorem sl_news (enc : α → Nat → Value) (M : List α) (cs : Array Value) (sz : Nat) (t : TypeId) (B : Nat) (hB : B = w.heap.size) (hc : ∀ i x, M[i]? = some x → ∀ j, j < sz → cs[i * sz + j]? = some (enc x j)) : Sl (w.alloc (.cells cs t)) (some ⟨B, 0, none⟩) sz enc M := by
  subst hB
  refine arr_new fun i hi j hj => ?_
  have hx : M[i]? = some M[i] := List.getElem?_eq_getElem hi
  rw [hc i _ hx j hj, LF_at hx]
end

/-- A block that is known whole. -/
def Blk (w : World) (g : Nat) (cs : Array Value) (t : TypeId) : Prop := w.heap[g]? = some (.cells cs t (0, 0))
theorem Blk.new (w : World) (cs : Array Value) (t : TypeId) (B : Nat) (hB : B = w.heap.size) : Blk (w.alloc (.cells cs t)) B cs t := by subst hB; exact heap_alloc_new w _
theorem Blk.lt {w : World} {g : Nat} {cs : Array Value} {t : TypeId} (h : Blk w g cs t) : g < w.heap.size := by
  rcases Nat.lt_or_ge g w.heap.size with h' | h'
  · exact h'
  · unfold Blk at h; rw [Array.getElem?_eq_none h'] at h; cases h
theorem Blk.below {w w' : World} {g : Nat} {cs : Array Value} {t : TypeId} (h : Blk w g cs t) (hb : Below w.heap.size w w') : Blk w' g cs t := (hb.block g h.lt).trans h
theorem Blk.alloc {w : World} {g : Nat} {cs : Array Value} {t : TypeId} (h : Blk w g cs t) (o : Obj) : Blk (w.alloc o) g cs t := h.below (bel_alloc (Below.refl _ _) _)
theorem Blk.drewN {w : World} {g : Nat} {cs : Array Value} {t : TypeId} (h : Blk w g cs t) (k : Nat) : Blk (w.drewN k) g cs t := h
theorem Blk.set {w : World} {g g' i : Nat} {cs : Array Value} {t : TypeId} {u : Value} (h : Blk w g cs t) (hne : g ≠ g') : Blk (w.setCell ⟨g', i, none⟩ u) g cs t := (heap_setCell_other w ⟨g', i, none⟩ g u (fun e => hne e)).trans h
theorem Blk.of_eq {w : World} {g : Nat} {cs cs' : Array Value} {t : TypeId} (h : Blk w g cs t) (e : cs = cs') : Blk w g cs' t := e ▸ h
theorem Blk.store {w : World} {g : Nat} {cs : Array Value} {t : TypeId} (h : Blk w g cs t) (i : Nat) (u : Value) : Blk (w.setCell ⟨g, i, none⟩ u) g (cs.setIfInBounds i u) t := heap_setCell_same w g i cs t u h
theorem Blk.grew {w w' : World} {v v' : Value} {g : Nat} {cs : Array Value} {t : TypeId} (h : Blk w g cs t) (hg : Grew w w' v v') (hne : v.ownBlock ≠ some g) : Blk w' g cs t := (hg.1.block g h.lt (Ne.symm hne)).trans h
theorem Blk.facts {w : World} {g : Nat} {cs : Array Value} {t : TypeId} (h : Blk w g cs t) : (∀ i, w.cell? ⟨g, i, none⟩ = cs[i]?) ∧ (∀ i, w.frozen? ⟨g, i, none⟩ = false) ∧ g < w.heap.size :=
  ⟨fun i => cell_of_row w g i cs t (0, 0) h, fun i => frozen_of_row w g i cs t h, h.lt⟩
/-- A row of int cells, one cell each. -/
def IE (k : IntKind) : Int → Nat → Value := fun x _ => .int k x
theorem IE_one (k : IntKind) (x : Int) (j : Nat) : (IE k x j).oneCell' = true := rfl
/-- An argument that is a slice of integers, as a list. -/
theorem open_list {H : Type} {enc : TypeId × Value → H} {P : Program} {w : World} {t e : TypeId} {k : IntKind} {base : Nat} {v : Value} {d : DataW H} {p : List MemPlace} (ht : P.underlying t = some (.slice e)) (he : P.underlying e = some (.int k)) (hC : P.cellsOf e = 1)
    (hv : Value.okWide P w .any base t v) (h : DataW.Trod enc P w 0 (fun _ => true) true t v d p) :
    ∃ (A : Option Addr) (n c : Nat) (L : List Int), v = .slice A n c ∧ (n = L.length ∧ Sl w A 1 (IE k) L ∧ n ≤ c ∧ c ≤ maxLen ∧ (A = none → n = 0 ∧ c = 0) ∧ ∀ x ∈ L, (Lit.int k x).wf = true) := by
  obtain ⟨A, n, c, Z, rfl, h1, h2, h3, h4, h5⟩ := open_words ht he hC hv h
  refine ⟨A, n, c, (List.range n).map Z, rfl, by simp, ?_, h2, h3, h4, ?_⟩
  · intro hn
    obtain ⟨b, off, e1, hc⟩ := h1 (by simpa using hn)
    refine ⟨b, off, e1, fun i hi j hj => ?_⟩
    have hi' : i < n := by simpa using hi
    rw [hc i hi' j hj]
    simp [LF, IE, List.getD_eq_getElem?_getD, List.getElem?_range hi']
  · intro x hx
    simp only [List.mem_map, List.mem_range] at hx
    obtain ⟨i, hi, rfl⟩ := hx
    exact h5 i hi
end Go.Proofs.YtokhfkbbhdaghaaGreat.Mem
namespace Go.Proofs.YtokhfkbbhdaghaaGreat.Mem
open Go.RowKit Go.ChangeShapes Go.WideShapes Go.Deep
set_option linter.unusedVariables false
set_option linter.unusedSimpArgs false
section
variable {H : Type} {enc : TypeId × Value → H} {P : Program} {w : World}
theorem okWide_array {t e : TypeId} {n : Nat} {r : Reach} {base : Nat} {v : Value} (ht : P.underlying t = some (.array n e)) (h : Value.okWide P w r base t v) : ∃ cs, v = .agg cs ∧ cs.size = P.cellsOf t := by
  simp only [Value.okWide, ht] at h
  obtain ⟨cs, h1, h2, _⟩ := h
  exact ⟨cs, h1, h2⟩
theorem list_of (l : List Value) : l = (List.range l.length).map (fun i => l.getD i undef) := by
  apply List.ext_getElem?
  intro i
  by_cases h : i < l.length
  · rw [List.getElem?_map, List.getElem?_range h, List.getElem?_eq_getElem h]
    simp [List.getD_eq_getElem?_getD, List.getElem?_eq_getElem h]
  · rw [List.getElem?_eq_none (by omega), List.getElem?_eq_none (by simp; omega)]

theorem open_array_ints {t e : TypeId} {n : Nat} {k : IntKind} {base : Nat} {v : Value} {d : DataW H} {p : List MemPlace} (ht : P.underlying t = some (.array n e)) (he : P.underlying e = some (.int k)) (hC : P.cellsOf e = 1) (hn : P.cellsOf t = n)
    (hv : Value.okWide P w .any base t v) (h : DataW.Trod enc P w 0 (fun _ => true) true t v d p) :
    ∃ Z : Nat → Int, v = .agg ((List.range n).map fun i => Value.int k (Z i)).toArray ∧ ∀ i, i < n → (Lit.int k (Z i)).wf = true := by
  obtain ⟨cs, rfl, hsz⟩ := okWide_array ht hv
  obtain ⟨fuel, hf⟩ := h
  obtain ⟨xs, m, _, hx, hl, hlen, hg⟩ := DataW.trod_array ht hf
  obtain ⟨l⟩ := cs
  have hll : l.length = n := by simpa [hn] using hsz
  have key : ∀ i, ∃ a, i < n → l[i]? = some (.int k a) ∧ (Lit.int k a).wf = true := by
    intro i
    by_cases hi : i < n
    · have h1 := hg i hi
      rw [hC, Nat.mul_one] at h1
      have h2 : ((Value.agg ⟨l⟩).cells.toList.drop i).take 1 = [l[i]'(by omega)] := by
        show (l.drop i).take 1 = _
        rw [List.drop_eq_getElem_cons (by omega)]; rfl
      rw [h2, List.getElem?_eq_getElem (by omega)] at h1
      obtain ⟨a, e0, _, wa⟩ := DataW.trod_int he h1
      exact ⟨a, fun _ => ⟨by rw [List.getElem?_eq_getElem (by omega)]; simpa using e0, wa⟩⟩
    · exact ⟨0, fun h => absurd h hi⟩
  refine ⟨fun i => Classical.choose (key i), ?_, fun i hi => (Classical.choose_spec (key i) hi).2⟩
  congr 1
  show (⟨l⟩ : Array Value) = (List.toArray _)
  congr 1
  apply List.ext_getElem?
  intro i
  by_cases h : i < n
  · rw [List.getElem?_map, List.getElem?_range h, (Classical.choose_spec (key i) h).1]; rfl
  · rw [List.getElem?_eq_none (by omega), List.getElem?_eq_none (by simp; omega)]

/-- A slice in a one-cell field. -/
theorem slice_field {t e : TypeId} {m : Nat} {v : Value} {y : DataW H × List MemPlace} (ht : P.underlying t = some (.slice e)) (h : DataW.trod enc P w 0 (fun _ => true) true m t [v] = some y) :
    ∃ A n c, v = .slice A n c := by
  rcases open_slice ht h with ⟨hcs, _⟩ | ⟨a, len, cap, m, n, D, Pl, hcs, _⟩
  · exact ⟨_, _, _, by simpa using hcs⟩
  · exact ⟨_, _, _, by simpa using hcs⟩
theorem open_struct {t : TypeId} {fs : Array Field} {base : Nat} {v : Value} {d : DataW H} {p : List MemPlace} (ht : P.underlying t = some (.struct fs)) (hone : oneCellFields P fs = true) (hC : P.cellsOf t = fs.size)
    (hv : Value.okWide P w .any base t v) (h : DataW.Trod enc P w 0 (fun _ => true) true t v d p) :
    ∃ V : Nat → Value, v = .agg ((List.range fs.size).map V).toArray ∧ ∀ (j : Nat) (f : Field), fs[j]? = some f → ∃ m y, DataW.trod enc P w 0 (fun _ => true) true m f.type [V j] = some y := by
  obtain ⟨cs, rfl, hsz⟩ := okWide_struct ht hv
  obtain ⟨fuel, hf⟩ := h
  obtain ⟨xs, m, _, hx, hl, hlen, hg⟩ := DataW.trod_struct ht hf
  obtain ⟨l⟩ := cs
  have hll : l.length = fs.size := by simpa [hC] using hsz
  refine ⟨fun i => l.getD i undef, ?_, fun j f hj => ?_⟩
  · congr 1
    show (⟨l⟩ : Array Value) = (List.toArray _)
    congr 1
    rw [← hll]; exact list_of l
  · obtain ⟨ho, hk⟩ := hone_of hone j f hj
    have hjl : j < fs.size := (Array.getElem?_eq_some_iff.1 hj).1
    have h1 := hg j f hj
    rw [ho, hk] at h1
    have h2 : ((Value.agg ⟨l⟩).cells.toList.drop j).take 1 = [l[j]'(by omega)] := by
      show (l.drop j).take 1 = _
      rw [List.drop_eq_getElem_cons (by omega)]; rfl
    rw [h2] at h1
    have hxs : xs[j]? = some (xs[j]'(by omega)) := List.getElem?_eq_getElem (by omega)
    refine ⟨m, xs[j]'(by omega), ?_⟩
    show DataW.trod enc P w 0 _ true m f.type [l.getD j undef] = _
    rw [List.getD_eq_getElem?_getD, List.getElem?_eq_getElem (by omega)]
    exact h1.trans hxs
end
end Go.Proofs.YtokhfkbbhdaghaaGreat.Mem
namespace Go.Proofs.YtokhfkbbhdaghaaGreat.Mem
open Go.RowKit Go.ChangeShapes Go.WideShapes Go.Deep
set_option linter.unusedVariables false
set_option linter.unusedSimpArgs false
def leavesFs (q : TypeId → Option (List TypeId)) (P : Program) : List Field → Nat → Option (List TypeId)
  | [], _ => some []
  | f :: r, o => if f.offset = o then (match q f.type with
      | some l => if P.cellsOf f.type = l.length then (match leavesFs q P r (o + l.length) with | some l' => some (l ++ l') | none => none) else none
      | none => none) else none
/-- The types of a type's cells. -/
def leaves (P : Program) : Nat → TypeId → Option (List TypeId)
  | 0, _ => none
  | d + 1, t => match P.underlying t with
    | some (.struct fs) => leavesFs (leaves P d) P fs.toList 0
    | some (.array k e) => (match leaves P d e with | some l => if P.cellsOf e = l.length then some (List.replicate k l).flatten else none | none => none)
    | _ => some [t]
section
variable {H : Type} {enc : TypeId × Value → H} {P : Program} {w : World}
def Leaf (enc : TypeId × Value → H) (P : Program) (w : World) (t : TypeId) (c : Value) : Prop := ∃ m y, DataW.trod enc P w 0 (fun _ => true) true m t [c] = some y
theorem leavesFs_ok {q : TypeId → Option (List TypeId)} {cs : List Value} (hq : ∀ t l, q t = some l → ∀ m cs y, DataW.trod enc P w 0 (fun _ => true) true m t cs = some y → cs.length = l.length → ∀ (j : Nat) (tj : TypeId), l[j]? = some tj → ∃ c, cs[j]? = some c ∧ Leaf enc P w tj c) :
    ∀ (r : List Field) (o : Nat) (lr : List TypeId), leavesFs q P r o = some lr → (∀ f ∈ r, ∃ m y, DataW.trod enc P w 0 (fun _ => true) true m f.type ((cs.drop f.offset).take (P.cellsOf f.type)) = some y) → o + lr.length ≤ cs.length →
      ∀ (j : Nat) (tj : TypeId), lr[j]? = some tj → ∃ c, cs[o + j]? = some c ∧ Leaf enc P w tj c
  | [], o, lr, h, _, _, j, tj, hj => by
    injection h with h; subst h; simp at hj
  | f :: r, o, lr, h, hf, hl, j, tj, hj => by
    unfold leavesFs at h
    split at h
    · rename_i ho
      split at h
      · rename_i l hql
        split at h
        · rename_i hc
          split at h
          · rename_i l' hr
            injection h with h
            subst h
            rw [List.length_append] at hl
            by_cases hjl : j < l.length
            · obtain ⟨m, y, hy⟩ := hf f (.head _)
              rw [List.getElem?_append_left hjl] at hj
              obtain ⟨c, h1, h2⟩ := hq _ _ hql m _ y hy (by rw [List.length_take, List.length_drop, ho, hc]; omega) j tj hj
              refine ⟨c, ?_, h2⟩
              rw [List.getElem?_take, hc, if_pos hjl, List.getElem?_drop, ho] at h1
              exact h1
            · rw [List.getElem?_append_right (by omega)] at hj
              obtain ⟨c, h1, h2⟩ := leavesFs_ok hq r (o + l.length) l' hr (fun g hg => hf g (.tail _ hg)) (by omega) (j - l.length) tj hj
              exact ⟨c, by rw [← h1]; congr 1; omega, h2⟩
          · cases h
        · cases h
      · cases h
    · cases h
theorem flat_rep {α : Type} (l : List α) : ∀ (k j : Nat) (x : α), (List.replicate k l).flatten[j]? = some x → ∃ i s, i < k ∧ j = i * l.length + s ∧ s < l.length ∧ l[s]? = some x
  | 0, j, x, h => by simp at h
  | k + 1, j, x, h => by
    rw [List.replicate_succ, List.flatten_cons] at h
    by_cases hj : j < l.length
    · rw [List.getElem?_append_left hj] at h
      exact ⟨0, j, by omega, by simp, hj, h⟩
    · rw [List.getElem?_append_right (by omega)] at h
      obtain ⟨i, s, h1, h2, h3, h4⟩ := flat_rep l k _ x h
      exact ⟨i + 1, s, by omega, by rw [Nat.add_mul]; omega, h3, h4⟩
theorem leaves_ok : ∀ (d : Nat) (t : TypeId) (l : List TypeId), leaves P d t = some l → ∀ m cs y, DataW.trod enc P w 0 (fun _ => true) true m t cs = some y → cs.length = l.length → ∀ (j : Nat) (tj : TypeId), l[j]? = some tj → ∃ c, cs[j]? = some c ∧ Leaf enc P w tj c
  | 0, _, _, h, _, _, _, _, _, _, _, _ => by cases h
  | d + 1, t, l, h, m, cs, y, hy, hl, j, tj, hj => by
    unfold leaves at h
    split at h
    · rename_i fs hu
      obtain ⟨xs, n, _, _, hcl, hlen, hg⟩ := DataW.trod_struct hu hy
      have := leavesFs_ok (enc := enc) (P := P) (w := w) (cs := cs) (leaves_ok d) fs.toList 0 l h (fun f hf => by
        obtain ⟨i, hi, hfi⟩ := List.getElem_of_mem hf
        have h1 : fs[i]? = some f := by
          rw [← Array.getElem?_toList, List.getElem?_eq_getElem hi, hfi]
        have h2 := hg i f h1
        have h3 : i < xs.length := by rw [hlen]; simpa using hi
        exact ⟨n, _, h2.trans (List.getElem?_eq_getElem h3)⟩) (by omega) j tj hj
      simpa using this
    · rename_i k e hu
      split at h
      · rename_i l0 hl0
        split at h
        · rename_i hc
          injection h with h
          subst h
          obtain ⟨i, s, h1, h2, h3, h4⟩ := flat_rep l0 k j tj hj
          obtain ⟨xs, m', _, _, hcl, hlen, hg⟩ := DataW.trod_array hu hy
          have h5 := hg i h1
          rw [hc] at h5
          rw [List.length_flatten, List.map_replicate, List.sum_replicate_nat] at hl
          have h6 : (i + 1) * l0.length ≤ k * l0.length := Nat.mul_le_mul_right _ h1
          rw [Nat.add_mul, Nat.one_mul] at h6
          obtain ⟨c, h7, h8⟩ := leaves_ok d e l0 hl0 m' _ _ (h5.trans (List.getElem?_eq_getElem (by omega))) (by rw [List.length_take, List.length_drop]; omega) s tj h4
          refine ⟨c, ?_, h8⟩
          rw [List.getElem?_take, if_pos h3, List.getElem?_drop] at h7
          rw [h2]; exact h7
        · cases h
      · cases h
    · injection h with h
      subst h
      cases j with
      | succ j => simp at hj
      | zero =>
        simp at hj
        subst hj
        match cs, hl with
        | [c], _ => exact ⟨c, rfl, m, y, hy⟩
/-- A struct, or an array, by value. -/
theorem open_flat {t : TypeId} {l : List TypeId} {base : Nat} {v : Value} {d : DataW H} {p : List MemPlace} (hl : leaves P 8 t = some l) (hC : P.cellsOf t = l.length) (hu : (match P.underlying t with | some (.struct _) => true | some (.array _ _) => true | _ => false) = true)
    (hv : Value.okWide P w .any base t v) (h : DataW.Trod enc P w 0 (fun _ => true) true t v d p) :
    ∃ V : Nat → Value, v = .agg ((List.range l.length).map V).toArray ∧ ∀ (j : Nat) (tj : TypeId), l[j]? = some tj → Leaf enc P w tj (V j) := by
  have hagg : ∃ cs, v = .agg cs ∧ cs.size = P.cellsOf t := by
    split at hu
    · rename_i fs hu'
      exact okWide_struct hu' hv
    · rename_i n e hu'
      exact okWide_array hu' hv
    · cases hu
  obtain ⟨⟨cs⟩, rfl, hsz⟩ := hagg
  obtain ⟨fuel, hf⟩ := h
  have hlen : cs.length = l.length := by rw [← hC]; exact hsz
  refine ⟨fun i => cs.getD i undef, ?_, fun j tj hj => ?_⟩
  · congr 1
    show (⟨cs⟩ : Array Value) = (List.toArray _)
    congr 1
    rw [← hlen]; exact list_of cs
  · obtain ⟨c, h1, h2⟩ := leaves_ok 8 t l hl fuel cs _ hf hlen j tj hj
    have : cs.getD j undef = c := by rw [List.getD_eq_getElem?_getD, h1]; rfl
    simp only [this]
    exact h2
/-- A slice in a cell. -/
theorem leaf_slice {t e : TypeId} {l : List TypeId} {v : Value} (ht : P.underlying t = some (.slice e)) (hl : leaves P 8 e = some l) (hC : P.cellsOf e = l.length) (h0 : 0 < l.length) (h : Leaf enc P w t v) :
    ∃ (A : Option Addr) (n c : Nat) (F : Nat → Nat → Value), v = .slice A n c ∧ (Arr w A n l.length F ∧ n ≤ c ∧ c ≤ maxLen ∧ (A = none → n = 0 ∧ c = 0) ∧ ∀ i, i < n → ∀ (j : Nat) (tj : TypeId), l[j]? = some tj → Leaf enc P w tj (F i j)) := by
  obtain ⟨m0, y, hf⟩ := h
  rcases open_slice ht hf with ⟨hcs, hx⟩ | ⟨a, len', cap', m, n, D, Pl, hcs, hb, hle, hm, hmm, hx, hi⟩
  · injection hcs with hcs
    subst hcs
    exact ⟨none, 0, 0, fun _ _ => undef, rfl, Arr.nil, Nat.le_refl _, by unfold maxLen; omega, fun _ => ⟨rfl, rfl⟩, fun i hi => absurd hi (by omega)⟩
  · injection hcs with hcs
    subst hcs
    simp at hmm
    subst hmm
    have key : ∀ i, ∃ cs : List Value, i < m → cs.length = l.length ∧ (∀ j, j < l.length → w.cell? (a.add (i * l.length + j)) = cs[j]?) ∧ ∀ (j : Nat) (tj : TypeId), l[j]? = some tj → Leaf enc P w tj (cs.getD j undef) := by
      intro i
      by_cases him : i < m
      · obtain ⟨cs', hc, ht'⟩ := hi i him
        rw [hC] at hc
        obtain ⟨_, hcl, hat⟩ := World.cells?_some hc
        refine ⟨cs', fun _ => ⟨hcl, fun j hj => by rw [← Go.Deep.add_add]; exact hat j hj, fun j tj hj => ?_⟩⟩
        obtain ⟨c, h1, h2⟩ := leaves_ok 8 e l hl n cs' _ ht' hcl j tj hj
        have : cs'.getD j undef = c := by rw [List.getD_eq_getElem?_getD, h1]; rfl
        rw [this]
        exact h2
      · exact ⟨[], fun h => absurd h him⟩
    refine ⟨some a, len', m, fun i j => (Classical.choose (key i)).getD j undef, rfl, ?_, hle, hm, (fun h => by cases h), fun i him j tj hj => ((Classical.choose_spec (key i) (by omega)).2.2 j tj hj)⟩
    intro hn
    have hspot : a.spot = none := by
      have h1 := (Classical.choose_spec (key 0) (by omega)).2.1 0 h0
      have h2 := (Classical.choose_spec (key 0) (by omega)).1
      rw [List.getElem?_eq_getElem (by omega)] at h1
      simpa [Addr.add] using World.cell?_spot h1
    obtain ⟨b, off, spot⟩ := a
    subst hspot
    refine ⟨b, off, rfl, fun i him j hj => ?_⟩
    have h1 := (Classical.choose_spec (key i) (by omega)).2.1 j hj
    have h2 := (Classical.choose_spec (key i) (by omega)).1
    rw [List.getElem?_eq_getElem (by omega)] at h1
    show _ = some ((Classical.choose (key i)).getD j undef)
    rw [List.getD_eq_getElem?_getD, List.getElem?_eq_getElem (by omega)]
    have e : (⟨b, off, none⟩ : Addr).add (i * l.length + j) = ⟨b, off + i * l.length + j, none⟩ := by
      unfold Addr.add; split <;> simp <;> omega
    rw [← e]
    exact h1
theorem leaf_of {t : TypeId} {base : Nat} {v : Value} {d : DataW H} {p : List MemPlace} (hc : v.cells.toList = [v]) (h : DataW.Trod enc P w 0 (fun _ => true) true t v d p) : Leaf enc P w t v := by
  obtain ⟨fuel, hf⟩ := h
  exact ⟨fuel, _, by rw [← hc]; exact hf⟩
/-- A slice, as an argument. -/
theorem open_slices {t e : TypeId} {l : List TypeId} {base : Nat} {v : Value} {d : DataW H} {p : List MemPlace} (ht : P.underlying t = some (.slice e)) (hl : leaves P 8 e = some l) (hC : P.cellsOf e = l.length) (h0 : 0 < l.length)
    (hv : Value.okWide P w .any base t v) (h : DataW.Trod enc P w 0 (fun _ => true) true t v d p) :
    ∃ (A : Option Addr) (n c : Nat) (F : Nat → Nat → Value), v = .slice A n c ∧ (Arr w A n l.length F ∧ n ≤ c ∧ c ≤ maxLen ∧ (A = none → n = 0 ∧ c = 0) ∧ ∀ i, i < n → ∀ (j : Nat) (tj : TypeId), l[j]? = some tj → Leaf enc P w tj (F i j)) := by
  obtain ⟨a0, len, cap, rfl⟩ := okWide_slice ht hv
  exact leaf_slice ht hl hC h0 (leaf_of (base := base) rfl h)
theorem leaf_int {t : TypeId} {k : IntKind} {v : Value} (ht : P.underlying t = some (.int k)) (h : Leaf enc P w t v) : ∃ a, v = .int k a ∧ (Lit.int k a).wf = true := by
  obtain ⟨m, y, h⟩ := h
  exact int_field ht h
theorem leaf_bool {t : TypeId} {v : Value} (ht : P.underlying t = some .bool) (h : Leaf enc P w t v) : ∃ b, v = .bool b := by
  obtain ⟨m, y, h⟩ := h
  obtain ⟨b, e, _⟩ := DataW.trod_bool ht h
  exact ⟨b, by simpa using e⟩
theorem leaf_string {t : TypeId} {v : Value} (ht : P.underlying t = some .string) (h : Leaf enc P w t v) : ∃ s : ByteArray, v = .string s ∧ s.size ≤ maxLen := by
  obtain ⟨m, y, h⟩ := h
  obtain ⟨s, e, _, hs⟩ := DataW.trod_string ht h
  exact ⟨s, by simpa using e, hs⟩
end
end Go.Proofs.YtokhfkbbhdaghaaGreat.Mem
namespace Go.Proofs.YtokhfkbbhdaghaaGreat.Mem
open Go.RowKit Go.ChangeShapes Go.WideShapes Go.Deep
set_option linter.unusedVariables false
set_option linter.unusedSimpArgs false
section
variable {H : Type} {enc : TypeId × Value → H} {P : Program} {w : World}
theorem leaf_ints {t e : TypeId} {k : IntKind} {v : Value} (ht : P.underlying t = some (.slice e)) (he : P.underlying e = some (.int k)) (hC : P.cellsOf e = 1) (h : Leaf enc P w t v) :
    ∃ (A : Option Addr) (n c : Nat) (L : List Int), v = .slice A n c ∧ n = L.length ∧ Sl w A 1 (IE k) L ∧ n ≤ c ∧ c ≤ maxLen ∧ (A = none → c = 0) ∧ ∀ x ∈ L, (Lit.int k x).wf = true := by
  have hl : leaves P 8 e = some [e] := by unfold leaves; rw [he]
  obtain ⟨A, n, c, F, rfl, hA, h1, h2, h3, h4⟩ := leaf_slice ht hl (by rw [hC]; rfl) (by simp) h
  have key : ∀ i, ∃ a, i < n → F i 0 = .int k a ∧ (Lit.int k a).wf = true := by
    intro i
    by_cases hi : i < n
    · obtain ⟨a, e1, e2⟩ := leaf_int he (h4 i hi 0 e rfl)
      exact ⟨a, fun _ => ⟨e1, e2⟩⟩
    · exact ⟨0, fun h => absurd h hi⟩
  refine ⟨A, n, c, (List.range n).map fun i => Classical.choose (key i), rfl, by simp, ?_, h1, h2, fun h => (h3 h).2, ?_⟩
  · unfold Sl
    have hlen : ((List.range n).map fun i => Classical.choose (key i)).length = n := by simp
    rw [hlen]
    refine Arr.congr hA (fun i hi j hj => ?_)
    have hj0 : j = 0 := by
      have : j < 1 := hj
      omega
    subst hj0
    rw [LF_at (k := i) (x := Classical.choose (key i)) (by simp [hi])]
    exact (Classical.choose_spec (key i) hi).1
  · intro x hx
    obtain ⟨i, hi, rfl⟩ := List.mem_map.1 hx
    exact (Classical.choose_spec (key i) (by simpa using hi)).2
end
end Go.Proofs.YtokhfkbbhdaghaaGreat.Mem
namespace Go.Proofs.YtokhfkbbhdaghaaGreat.Mem
open Go.RowKit Go.ChangeShapes Go.WideShapes Go.Deep
set_option linter.unusedVariables false
set_option linter.unusedSimpArgs false
theorem arr_list {α : Type} [Inhabited α] {enc : α → Nat → Value} {sz : Nat} {Q : α → Prop} {F : Nat → Nat → Value} {A : Option Addr} {n : Nat} {w : World} (hA : Arr w A n sz F) (h : ∀ i, i < n → ∃ y, (∀ j, j < sz → F i j = enc y j) ∧ Q y) :
    ∃ L : List α, n = L.length ∧ Sl w A sz enc L ∧ ∀ y ∈ L, Q y := by
  have key : ∀ i, ∃ y, i < n → (∀ j, j < sz → F i j = enc y j) ∧ Q y := by
    intro i
    by_cases hi : i < n
    · obtain ⟨y, hy⟩ := h i hi
      exact ⟨y, fun _ => hy⟩
    · exact ⟨default, fun h => absurd h hi⟩
  refine ⟨(List.range n).map fun i => Classical.choose (key i), by simp, ?_, ?_⟩
  · unfold Sl
    have hlen : ((List.range n).map fun i => Classical.choose (key i)).length = n := by simp
    rw [hlen]
    refine Arr.congr hA (fun i hi j hj => ?_)
    rw [LF_at (k := i) (x := Classical.choose (key i)) (by simp [hi])]
    exact (Classical.choose_spec (key i) hi).1 j hj
  · intro x hx
    obtain ⟨i, hi, rfl⟩ := List.mem_map.1 hx
    exact (Classical.choose_spec (key i) (by simpa using hi)).2
end Go.Proofs.YtokhfkbbhdaghaaGreat.Mem
namespace Go.Proofs.YtokhfkbbhdaghaaGreat.Mem
open Go.RowKit
set_option linter.unusedVariables false
set_option linter.unusedSimpArgs false
section
variable {P : Program} (w : World)
theorem step_append_arr {ops : Array Oper} {o : Oper} {a : Act} {K : Act → World → Prop} {Q : Exit → Act → World → Prop} {E : Prop} (hgd : o.guard = none) (s x : Operand) (t : TypeId)
    (ho : o.op = .call { callee := .builtin .append, args := #[s, x], argTypes := #[t, t] })
    (base : Nat) (e : TypeId) (i : TypeInfo) (z : Value) (size bytes : Nat) (ht : P.underlying t = some (.slice e)) (hi : P.info? e = some i) (hz : i.zero = some z)
    (hsize : i.size = size) (hby : i.bytes = bytes) (hzs : z.cells.size = size) (hsz : 0 < size)
    (v : Value) (n : Nat) (F : Nat → Nat → Value) (hs : a.eval s = v) (hown : Own w base e size v n F)
    (A : Option Addr) (m c : Nat) (G : Nat → Nat → Value) (hx : a.eval x = .slice A m c) (hr : Arr w A m size G) (h1 : ∀ i, i < m → ∀ j, j < size → (G i j).oneCell' = true)
    (h63 : n + m ≤ maxLen) (hbytes : (n + m) * bytes ≤ 140737488355328) (hbase : base ≤ w.heap.size)
    (h : ∀ v' w', Own w' base e size v' (n + m) (cat n F G) → w.grownBy w' v.ownBlock → (v'.ownBlock = v.ownBlock ∨ v'.ownBlock = some w.heap.size) → K (a.put o.dst v') w') :
    if Region.wanted o (yielded ops a.tmps) = true then Oper.wp P o a w K Q else E := by
  have hw : Region.wanted o (yielded ops a.tmps) = true := by simp [Region.wanted, hgd]
  rw [if_pos hw]
  exact wp_append_arr w s x t ho base e i z size bytes ht hi hz hsize hby hzs hsz v n F hs hown A m c G hx hr h1 h63 hbytes hbase h
end
end Go.Proofs.YtokhfkbbhdaghaaGreat.Mem
namespace Go.Proofs.YtokhfkbbhdaghaaGreat.Mem
open Go.RowKit
set_option linter.unusedVariables false
set_option linter.unusedSimpArgs false
section
variable {P : Program} (w : World)
theorem zeroCells_one (u : Value) (m : Nat) : (Builtin.zeroCells #[u] m).toList = List.replicate m u := by
  apply List.ext_getElem?
  intro j
  by_cases hj : j < m
  · simp [Builtin.zeroCells, hj, Nat.mod_one]
  · simp [Builtin.zeroCells, hj]
theorem run_append_zeros (base : Nat) (t tn ty e : TypeId) (i : TypeInfo) (z u : Value) (bytes : Nat) (kq kn : IntKind) (ht : P.underlying t = some (.slice e)) (htn : P.underlying tn = some (.int kn)) (hi : P.info? e = some i) (hz : i.zero = some z)
    (hsize : i.size = 1) (hby : i.bytes = bytes) (hzs : z.cells = #[u]) (hu : u.oneCell' = true)
    (v : Value) (n : Nat) (xs : List Value) (hown : w.ownsRow base e 1 v n xs) (m : Nat)
    (h63 : n + m ≤ maxLen) (hbytes : (n + m) * bytes ≤ 140737488355328) (hbase : base ≤ w.heap.size) :
    ∃ v' w', (Builtin.append_ #[t, tn] ty #[v, .int kq m]).run P w = .ok v' w' ∧ w'.ownsRow base e 1 v' (n + m) (xs ++ List.replicate m u) ∧ w.grownBy w' v.ownBlock ∧
      (v'.ownBlock = v.ownBlock ∨ v'.ownBlock = some w.heap.size) := by
  subst hby
  have hsmall : n + m ≤ 9223372036854775807 := by simp only [maxLen] at h63; omega
  have hlen : (xs ++ List.replicate m u).length = (n + m) * 1 := by rw [List.length_append, hown.1, List.length_replicate]; omega
  have hw : IntKind.i64.wrap (m : Int) = m := by rw [IntKind.wrap_i64]; omega
  have hneg : ¬ ((m : Int) < 0) := by omega
  have hmb : m * i.bytes ≤ (n + m) * i.bytes := Nat.mul_le_mul_right _ (by omega)
  have h48i : ¬ (281474976710656 < (m : Int) * (i.bytes : Int)) := by
    rw [← Int.natCast_mul]
    omega
  have grown : ∀ (old : Nat), old < n + m → ∀ (row : Option Nat),
      (w.drew.alloc (.cells (xs.toArray ++ Builtin.zeroCells z.cells m ++ Builtin.zeroCells z.cells (grownCap w (n + m) old e - (n + m))) e)).ownsRow base e 1
        (.slice (some ⟨w.heap.size, 0, none⟩) (n + m) (grownCap w (n + m) old e)) (n + m) (xs ++ List.replicate m u) ∧
      w.grownBy (w.drew.alloc (.cells (xs.toArray ++ Builtin.zeroCells z.cells m ++ Builtin.zeroCells z.cells (grownCap w (n + m) old e - (n + m))) e)) row := by
    intro old ho row
    have hge := grownCap_ge w (n + m) old e
    have hcm : grownCap w (n + m) old e ≤ maxLen := grownCap_le_maxLen w (n + m) old e h63
    refine ⟨⟨hlen, .inr ⟨w.heap.size, _, _, rfl, hbase, heap_alloc_new w.drew _, hge, hcm, ?_, ?_⟩⟩, ⟨rfl, rfl, rfl, by simp, fun k hk _ => Below.heap_alloc w.drew _ k hk⟩⟩
    · have h1 := hown.1
      simp only [Array.size_append, List.size_toArray, size_zeroCells, hzs, List.length_nil, List.length_cons]
      omega
    · simp only [Array.toList_append, List.append_assoc, hzs, zeroCells_one]
      rw [← List.append_assoc, ← hlen]
      exact List.take_left
  rcases hown.2 with ⟨rfl, rfl⟩ | ⟨g, cap, cur, rfl, hbg, hg, hnc, hcm, hcs, htake⟩
  · have hx : xs = [] := List.eq_nil_of_length_eq_zero (by simpa using hown.1)
    subst hx
    by_cases hm : m = 0
    · subst hm
      refine ⟨.slice none 0 0, w, ?_, World.ownsRow_nil w base e 1, ⟨rfl, rfl, rfl, Nat.le_refl _, fun _ _ _ => rfl⟩, .inl rfl⟩
      have hw0 : IntKind.i64.wrap 0 = 0 := by rw [IntKind.wrap_i64]; omega
      simp [Builtin.append_, run_underlying ht, run_underlying htn, sizeOf, typeInfo, hi, asInt, asIntOf, hw0]
    · have hr := Lib.run_append_nil_zeros (P := P) w t tn ty e i z kq kn ht htn hi hz m (by omega) (by omega) (by omega) (by omega)
      have hgr := grown 0 (by omega) (Value.ownBlock (.slice none 0 0))
      simp only [Nat.zero_add, List.nil_append, Array.empty_append] at hgr ⊢
      exact ⟨_, _, hr, hgr.1, hgr.2, .inr rfl⟩
  · by_cases hm : m = 0
    · subst hm
      refine ⟨.slice (some ⟨g, 0, none⟩) n cap, w, ?_, by simpa using hown, ⟨rfl, rfl, rfl, Nat.le_refl _, fun _ _ _ => rfl⟩, .inl rfl⟩
      have hw0 : IntKind.i64.wrap 0 = 0 := by rw [IntKind.wrap_i64]; omega
      simp [Builtin.append_, run_underlying ht, run_underlying htn, sizeOf, typeInfo, hi, asInt, asIntOf, hw0, hnc, storeCells]
    · by_cases hroom : n + m ≤ cap
      · have hfit : n * 1 + (List.replicate m u).length ≤ cur.size := by rw [List.length_replicate, hcs]; omega
        have hst := run_storeCells_at P g n e (List.replicate m u) 0 cur w hg (by simpa using hfit) (fun x hx => by rw [List.eq_of_mem_replicate hx]; exact hu)
        have hzc : (Builtin.zeroCells #[u] m).toList = List.replicate m u := zeroCells_one u m
        simp only [Nat.add_zero] at hst
        refine ⟨.slice (some ⟨g, 0, none⟩) (n + m) cap, w.setRow g (cur.toList.take n ++ List.replicate m u ++ cur.toList.drop (n + (List.replicate m u).length)).toArray, ?_, ⟨hlen, .inr ⟨g, cap, _, rfl, hbg, setRow_heap w g cur _ e _ hg, hroom, hcm, ?_, ?_⟩⟩, ⟨rfl, rfl, rfl, by simp, fun k _ hk => setRow_other w g k _ (fun e => hk (by simp [Value.ownBlock, e]))⟩, .inl rfl⟩
        · simp [Builtin.append_, run_underlying ht, run_underlying htn, sizeOf, typeInfo, zeroValue, hi, hz, asInt, asIntOf, hw, hneg, hm, h48i, hroom, hsize, hzs, hzc, Addr.add_lit, hst]
        · simp only [List.size_toArray, List.length_append, List.length_take, List.length_drop, Array.length_toList, List.length_replicate]
          simp only [Nat.mul_one, List.length_replicate] at hfit hcs
          omega
        · have h2 : cur.toList.take n = xs := by rw [← htake, Nat.mul_one]
          rw [h2, ← hlen]
          exact List.take_left
      · have hold : (Builtin.firstCells i.size n (.slice (some ⟨g, 0, none⟩) n cap)).run P w.drew = .ok xs.toArray w.drew :=
          run_firstCells_some (P := P) w.drew i.size n ⟨g, 0, none⟩ n cap xs (by rw [hsize]; exact hown.1) (hown.cells (g := g) rfl)
        have hr := Lib.run_append_grow_zeros (P := P) w t tn ty e i z kq kn ht htn hi hz (some ⟨g, 0, none⟩) n cap xs hold m (by omega) (by omega) (by omega) (by omega) (by omega) (growslice_fits (by omega) hbytes)
        have hgr := grown cap (by omega) (Value.ownBlock (.slice (some ⟨g, 0, none⟩) n cap))
        exact ⟨_, _, hr, hgr.1, hgr.2, .inr rfl⟩
variable {α : Type} [Inhabited α]
theorem wpList_append_zeros {ops : Array Oper} {rest : List Oper} {o : Oper} {a : Act} {Q : Exit → Act → World → Prop} (hgd : o.guard = none) (s x : Operand) (t tn : TypeId)
    (ho : o.op = .call { callee := .builtin .append, args := #[s, x], argTypes := #[t, tn] })
    {e : TypeId} {bytes : Nat} (ht : P.underlying t = some (.slice e)) (kn : IntKind) (htn : P.underlying tn = some (.int kn)) (u : Value)
    (hE : ∃ (i : TypeInfo) (z : Value), P.info? e = some i ∧ i.zero = some z ∧ i.size = 1 ∧ i.bytes = bytes ∧ z.cells = #[u]) (hu : u.oneCell' = true) (base : Nat) (enc : α → Nat → Value) (x0 : α) (hx0 : ∀ j, enc x0 j = u)
    (v : Value) (L : List α) (hs : a.eval s = v) (hown : OwnL w base e 1 v enc L)
    (kq : IntKind) (m : Nat) (mi : Int) (hx : a.eval x = .int kq mi) (hmi : mi = m)
    (h63 : L.length + m ≤ maxLen) (hbytes : (L.length + m) * bytes ≤ 140737488355328) (hbase : base ≤ w.heap.size)
    (h : ∀ v' w', OwnL w' base e 1 v' enc (L ++ List.replicate m x0) → Grew w w' v v' → wpList P ops Q rest (a.put o.dst v') w') : wpList P ops Q (o :: rest) a w := by
  obtain ⟨i, z, hi, hz, hsz, hby, hzs⟩ := hE
  subst hmi
  obtain ⟨v', w', hr, h1, h2, h3⟩ := run_append_zeros (P := P) w base t tn o.type e i z u bytes kq kn ht htn hi hz hsz hby hzs hu v L.length _ hown m h63 hbytes hbase
  refine Lib.wpList_append_run (P := P) w hgd s x t tn ho v _ hs hx v' w' hr (h v' w' ?_ ⟨h2, ?_⟩)
  · unfold OwnL Own
    have e1 : flat 1 (LF enc (L ++ List.replicate m x0)) (L ++ List.replicate m x0).length = flat 1 (LF enc L) L.length ++ List.replicate m u := by
      have e2 : flat 1 (LF enc (List.replicate m x0)) (List.replicate m x0).length = List.replicate m u := by
        apply List.ext_getElem?
        intro j
        by_cases hj : j < m
        · rw [flat_get _ _ _ _ (by simpa using hj)]
          simp [LF, List.getD_eq_getElem?_getD, hj, hx0]
        · rw [List.getElem?_eq_none (by rw [flat_length]; simp; omega), List.getElem?_eq_none (by simp; omega)]
      rw [← e2, flat_append, LF_cat, List.length_append]
    rw [e1, List.length_append, List.length_replicate]
    exact h1
  · rcases h3 with h3 | h3
    · exact .inl h3
    · exact .inr ⟨_, h3, Nat.le_refl _⟩
end
end Go.Proofs.YtokhfkbbhdaghaaGreat.Mem
