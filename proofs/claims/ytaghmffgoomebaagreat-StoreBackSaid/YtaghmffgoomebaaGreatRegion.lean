/- Words for memory that the walks of this seat use: a slice whose elements are known, carried over whatever a call makes. Words for an object in a block of its own: what it holds, and that nothing else that was there has changed. A region that draws its order, whose operations read old memory and whose callees make memory at most: one walk in the order of the text serves every order. -/
import Derived.Test.YtaghmffgoomebaaGreatRows
import Derived.WalkKit
import Derived.WalkSpells
import Derived.WalkLawsBesides
import Derived.Lib.Hide
import Derived.BigQuiet
import Derived.Deep.QuietTactic
import Derived.Deep.Slices
import Derived.Deep.Fields
import Derived.ChangeSame
import Derived.Laws.OwnMore
import Derived.Maps.AppendAt
import Derived.RegionTactic
import Derived.OwnWalk
import Derived.Deep.OwnRows
set_option linter.unusedVariables false
set_option linter.unusedSimpArgs false
namespace Go.Proofs.YtaghmffgoomebaaGreat.Mem
open Go.RowKit Go.ChangeShapes Go.WideShapes Go.Deep
def Arr (w : World) (A : Option Addr) (n sz : Nat) (F : Nat → Nat → Value) : Prop :=
 0 < n → ∃ b off, A = some ⟨b, off, none⟩ ∧ ∀ i, i < n → ∀ j, j < sz → w.cell? ⟨b, off + i * sz + j, none⟩ = some (F i j)
theorem lt_of_cell {w : World} {p : Addr} {v : Value} (h : w.cell? p = some v) : p.block < w.heap.size := by
 rcases Nat.lt_or_ge p.block w.heap.size with h' | h'
 ·exact h'
 ·rw [World.cell?, Array.getElem?_eq_none h'] at h; cases h
theorem Arr.nil {w : World} {A : Option Addr} {sz : Nat} {F : Nat → Nat → Value} : Arr w A 0 sz F := fun h => absurd h (by omega)
theorem Arr.keep {w w' : World} {A : Option Addr} {n sz : Nat} {F : Nat → Nat → Value} (h : Arr w A n sz F) (hk : ∀ p v, w.cell? p = some v → w'.cell? p = some v) : Arr w' A n sz F := by
 intro hn
 obtain ⟨b, off, e, hc⟩ := h hn
 exact ⟨b, off, e, fun i hi j hj => hk _ _ (hc i hi j hj)⟩
theorem zb0 {w w' : World} (hb : Below w.heap.size w w') : ∀ p v, w.cell? p = some v → w'.cell? p = some v :=
 fun p v h => (hb.cell (lt_of_cell h)).trans h
theorem Arr.below {w w' : World} {A : Option Addr} {n sz : Nat} {F : Nat → Nat → Value} (h : Arr w A n sz F) (hb : Below w.heap.size w w') : Arr w' A n sz F := h.keep (zb0 hb)
theorem Arr.congr {w : World} {A : Option Addr} {n sz : Nat} {F G : Nat → Nat → Value} (h : Arr w A n sz F) (hk : ∀ i, i < n → ∀ j, j < sz → F i j = G i j) : Arr w A n sz G := by
 intro hn
 obtain ⟨b, off, e, hc⟩ := h hn
 exact ⟨b, off, e, fun i hi j hj => by rw [hc i hi j hj, hk i hi j hj]⟩
theorem Arr.take {w : World} {A : Option Addr} {n m sz : Nat} {F : Nat → Nat → Value} (h : Arr w A n sz F) (hm : m ≤ n) : Arr w A m sz F := by
 intro hn
 obtain ⟨b, off, e, hc⟩ := h (by omega)
 exact ⟨b, off, e, fun i hi j hj => hc i (by omega) j hj⟩
theorem zmN {w : World} {g : Nat} {cs : Array Value} {t : TypeId} (hg : w.heap[g]? = some (.cells cs t (0, 0))) {n sz : Nat} {F : Nat → Nat → Value} (h : ∀ i, i < n → ∀ j, j < sz → cs[i * sz + j]? = some (F i j)) :
 Arr w (some ⟨g, 0, none⟩) n sz F := fun _ => ⟨g, 0, rfl, fun i hi j hj => by
 rw [Nat.zero_add, cell_of_row w g _ cs t (0, 0) hg]; exact h i hi j hj⟩
theorem zmM {w : World} {cs : Array Value} {t : TypeId} {n sz : Nat} {F : Nat → Nat → Value} (h : ∀ i, i < n → ∀ j, j < sz → cs[i * sz + j]? = some (F i j)) :
 Arr (w.alloc (.cells cs t)) (some ⟨w.heap.size, 0, none⟩) n sz F := zmN (heap_alloc_new w _) h
theorem za0 {w w1 w2 : World} (h : Below w.heap.size w w1) (h' : Below w1.heap.size w1 w2) : Below w.heap.size w w2 := h.trans (h'.mono h.size)
theorem zaF {W w : World} (h : Below W.heap.size W w) (o : Obj) : Below W.heap.size W (w.alloc o) := h.alloc h.size o
theorem zbf {W w : World} (h : Below W.heap.size W w) (n : Nat) : Below W.heap.size W (w.drewN n) := h.trans ⟨rfl, rfl, rfl, Nat.le_refl _, fun _ _ => rfl⟩
theorem zbj {W w : World} (h : Below W.heap.size W w) : Below W.heap.size W w.drew := h.drew
theorem zb5 {W w : World} (h : Below W.heap.size W w) {p : Addr} (hp : W.heap.size ≤ p.block) (u : Value) : Below W.heap.size W (w.setCell p u) := h.setCell hp u
section
variable {H : Type} {enc : TypeId × Value → H} {P : Program} {w : World}
theorem zlJ {t : TypeId} {k : IntKind} {m : Nat} {v : Value} {y : DataW H × List MemPlace} (ht : P.underlying t = some (.int k)) (h : DataW.trod enc P w 0 (fun _ => true) true m t [v] = some y) :
 ∃ a, v = .int k a ∧ (Lit.int k a).wf = true := by
 obtain ⟨a, e0, _, wa⟩ := DataW.trod_int ht h
 exact ⟨a, by simpa using e0, wa⟩
end
def flat (sz : Nat) (F : Nat → Nat → Value) (n : Nat) : List Value := (List.range (n * sz)).map fun j => F (j / sz) (j % sz)
theorem zaN (sz : Nat) (F : Nat → Nat → Value) (n : Nat) : (flat sz F n).length = n * sz := by simp [flat]
theorem flat_get (sz : Nat) (F : Nat → Nat → Value) (n j : Nat) (h : j < n * sz) : (flat sz F n)[j]? = some (F (j / sz) (j % sz)) := by
 simp [flat, List.getElem?_map, List.getElem?_range h]
theorem zpU (sz : Nat) (F : Nat → Nat → Value) (n i j : Nat) (hi : i < n) (hj : j < sz) : (flat sz F n)[i * sz + j]? = some (F i j) := by
 have h1 : i * sz + j < n * sz := by
  have := Nat.mul_le_mul_right sz (show i + 1 ≤ n by omega)
  rw [Nat.add_mul] at this
  omega
 have h2 : (i * sz + j) / sz = i := by
  rw [Nat.mul_comm, Nat.mul_add_div (by omega), Nat.div_eq_of_lt hj]; rfl
 have h3 : (i * sz + j) % sz = j := by
  rw [Nat.mul_comm, Nat.mul_add_mod, Nat.mod_eq_of_lt hj]
 rw [flat_get _ _ _ _ h1, h2, h3]
def cat (n : Nat) (F G : Nat → Nat → Value) : Nat → Nat → Value := fun i j => if i < n then F i j else G (i - n) j
theorem ze1 (sz : Nat) (F G : Nat → Nat → Value) (n m : Nat) : flat sz F n ++ flat sz G m = flat sz (cat n F G) (n + m) := by
 apply List.ext_getElem?
 intro j
 by_cases h : j < n * sz
 ·rw [List.getElem?_append_left (by rw [zaN]; exact h), flat_get _ _ _ _ h, flat_get _ _ _ _ (by rw [Nat.add_mul]; omega)]
  have : j / sz < n := Nat.div_lt_of_lt_mul (by rw [Nat.mul_comm]; exact h)
  simp [cat, this]
 ·rw [List.getElem?_append_right (by rw [zaN]; omega), zaN]
  by_cases h' : j < (n + m) * sz
  ·rw [Nat.add_mul] at h'
   have hs : 0 < sz := by
    rcases Nat.eq_zero_or_pos sz with h0 | h0
    ·subst h0; omega
    ·exact h0
   rw [flat_get _ _ _ _ (by omega), flat_get _ _ _ _ (by rw [Nat.add_mul]; omega)]
   obtain ⟨q, rfl⟩ : ∃ q, j = n * sz + q := ⟨j - n * sz, by omega⟩
   have e1 : (n * sz + q) / sz = n + q / sz := by rw [Nat.mul_comm, Nat.mul_add_div hs]
   have e2 : (n * sz + q) % sz = q % sz := by rw [Nat.mul_comm, Nat.mul_add_mod]
   rw [e1, e2, Nat.add_sub_cancel_left]
   simp [cat]
   exact fun hh => absurd hh (Nat.not_lt.2 (Nat.le_add_right _ _))
  ·rw [List.getElem?_eq_none (by rw [zaN]; rw [Nat.add_mul] at h'; omega), List.getElem?_eq_none (by rw [zaN]; omega)]
theorem zkf {sz : Nat} {F G : Nat → Nat → Value} {n : Nat} (h : ∀ i, i < n → ∀ j, j < sz → F i j = G i j) : flat sz F n = flat sz G n := by
 unfold flat
 apply List.map_congr_left
 intro j hj
 have hj : j < n * sz := by simpa using hj
 have hs : 0 < sz := by
  rcases Nat.eq_zero_or_pos sz with h0 | h0
  ·subst h0; omega
  ·exact h0
 exact h _ (Nat.div_lt_of_lt_mul (by rw [Nat.mul_comm]; exact hj)) _ (Nat.mod_lt _ hs)
def Own (w : World) (base : Nat) (e : TypeId) (sz : Nat) (v : Value) (n : Nat) (F : Nat → Nat → Value) : Prop := w.ownsRow base e sz v n (flat sz F n)
theorem Own.nil {w : World} {base : Nat} {e : TypeId} {sz : Nat} {F : Nat → Nat → Value} : Own w base e sz (.slice none 0 0) 0 F := by
 have h : flat sz F 0 = [] := by simp [flat]
 unfold Own; rw [h]; exact World.ownsRow_nil w base e sz
theorem Own.made {w : World} {base : Nat} {e : TypeId} {sz : Nat} {cur : Array Value} {cap : Nat} {F : Nat → Nat → Value} (B : Nat) (hB : B = w.heap.size) (hb : base ≤ w.heap.size) (hm : cap ≤ maxLen) (hs : cur.size = cap * sz) :
 Own (w.alloc (.cells cur e)) base e sz (.slice (some ⟨B, 0, none⟩) 0 cap) 0 F := by
 have h : flat sz F 0 = [] := by simp [flat]
 subst hB
 unfold Own; rw [h]; exact World.ownsRow_made w cur cap hb hm hs
theorem Own.congr {w : World} {base : Nat} {e : TypeId} {sz : Nat} {v : Value} {n : Nat} {F G : Nat → Nat → Value} (h : Own w base e sz v n F) (hk : ∀ i, i < n → ∀ j, j < sz → F i j = G i j) : Own w base e sz v n G := by
 unfold Own; rw [← zkf hk]; exact h
theorem Own.arr {w : World} {base : Nat} {e : TypeId} {sz : Nat} {v : Value} {n : Nat} {F : Nat → Nat → Value} (h : Own w base e sz v n F) :
 ∃ A c, v = .slice A n c ∧ Arr w A n sz F ∧ n ≤ c ∧ c ≤ maxLen ∧ (A = none → c = 0) ∧ (∀ a, A = some a → base ≤ a.block ∧ a.block < w.heap.size) := by
 have hl := h.lt
 have hcl := @World.ownsRow.cells _ _ _ _ _ _ _ h
 rcases h.2 with ⟨rfl, rfl⟩ | ⟨g, cap, cur, rfl, hb, hg, h1, h2, _⟩
 ·exact ⟨none, 0, rfl, Arr.nil, Nat.le_refl _, by unfold maxLen; omega, fun _ => rfl, fun a ha => by cases ha⟩
 ·refine ⟨some ⟨g, 0, none⟩, cap, rfl, fun hn => ⟨g, 0, rfl, fun i hi j hj => ?_⟩, h1, h2, (fun h => by cases h), fun a ha => by injection ha with ha; subst ha; exact hl g rfl⟩
  have h3 := hcl (g := g) rfl (i * sz + j) _ (zpU sz F n i j hi hj)
  have e : (⟨g, 0, none⟩ : Addr).add (i * sz + j) = ⟨g, 0 + i * sz + j, none⟩ := by
   unfold Addr.add; split <;> simp <;> omega
  rw [← e]; exact h3
theorem Own.alloc {w : World} {base : Nat} {e : TypeId} {sz : Nat} {v : Value} {n : Nat} {F : Nat → Nat → Value} (h : Own w base e sz v n F) (o : Obj) : Own (w.alloc o) base e sz v n F := World.ownsRow.alloc h o
theorem Own.drewN {w : World} {base : Nat} {e : TypeId} {sz : Nat} {v : Value} {n : Nat} {F : Nat → Nat → Value} (h : Own w base e sz v n F) (k : Nat) : Own (w.drewN k) base e sz v n F := h
theorem Own.drew {w : World} {base : Nat} {e : TypeId} {sz : Nat} {v : Value} {n : Nat} {F : Nat → Nat → Value} (h : Own w base e sz v n F) : Own w.drew base e sz v n F := h
theorem Own.below {w w' : World} {base : Nat} {e : TypeId} {sz : Nat} {v : Value} {n : Nat} {F : Nat → Nat → Value} (h : Own w base e sz v n F) (hb : Below w.heap.size w w') : Own w' base e sz v n F :=
 World.ownsRow.kept h (row := none) ⟨hb.os, hb.tape, hb.output, hb.size, fun k hk _ => hb.block k hk⟩ (by cases hv : v.ownBlock <;> simp)
theorem zp8 {W w w' : World} {e : TypeId} {sz : Nat} {v : Value} {n : Nat} {F : Nat → Nat → Value} (hb : Below W.heap.size W w) (h : Own w W.heap.size e sz v n F) (hg : w.grownBy w' v.ownBlock) : Below W.heap.size W w' :=
 hb.grown hg hb.size fun k hk => (h.lt k hk).1
section
variable {P : Program} (w : World)
theorem zdU (base : Nat) (t ty e : TypeId) (i : TypeInfo) (size : Nat) (ht : P.underlying t = some (.slice e)) (hi : P.info? e = some i)
 (v : Value) (n : Nat) (xs : List Value) (hown : w.ownsRow base e size v n xs) (c : Nat) : (Builtin.append_ #[t, t] ty #[v, .slice none 0 c]).run P w = .ok v w := by
 rcases hown.2 with ⟨rfl, rfl⟩ | ⟨g, cap, cur, rfl, _, _, hnc, _⟩
 ·simp [Builtin.append_, run_underlying ht, sizeOf, typeInfo, hi, Builtin.lenOf, Builtin.firstCells]
 ·simp [Builtin.append_, run_underlying ht, sizeOf, typeInfo, hi, Builtin.lenOf, Builtin.firstCells, hnc, storeCells]
theorem zfk (base : Nat) (t ty e : TypeId) (i : TypeInfo) (z : Value) (size bytes : Nat) (ht : P.underlying t = some (.slice e)) (hi : P.info? e = some i) (hz : i.zero = some z)
 (hsize : i.size = size) (hby : i.bytes = bytes) (hzs : z.cells.size = size) (hsz : 0 < size)
 (v : Value) (n : Nat) (F : Nat → Nat → Value) (hown : Own w base e size v n F)
 (A : Option Addr) (m c : Nat) (G : Nat → Nat → Value) (hr : Arr w A m size G) (h1 : ∀ i, i < m → ∀ j, j < size → (G i j).oneCell' = true)
 (h63 : n + m ≤ maxLen) (hbytes : (n + m) * bytes ≤ 140737488355328) (hbase : base ≤ w.heap.size) :
 ∃ v' w', (Builtin.append_ #[t, t] ty #[v, .slice A m c]).run P w = .ok v' w' ∧ Own w' base e size v' (n + m) (cat n F G) ∧ w.grownBy w' v.ownBlock ∧
  (v'.ownBlock = v.ownBlock ∨ v'.ownBlock = some w.heap.size) := by
 unfold Own
 rw [← ze1]
 have h1' : ∀ u ∈ flat size G m, u.oneCell' = true := by
  intro u hu
  unfold flat at hu
  simp only [List.mem_map, List.mem_range] at hu
  obtain ⟨j, hj, rfl⟩ := hu
  exact h1 _ (Nat.div_lt_of_lt_mul (by rw [Nat.mul_comm]; exact hj)) _ (Nat.mod_lt _ hsz)
 rcases A with _ | ad
 ·have hm : m = 0 := by
   rcases Nat.eq_zero_or_pos m with h0 | h0
   ·exact h0
   ·obtain ⟨b, off, h, _⟩ := hr h0
    cases h
  subst hm
  have hn : flat size G 0 = [] := by simp [flat]
  rw [hn, List.append_nil, Nat.add_zero]
  exact ⟨v, w, zdU w base t ty e i size ht hi v n _ hown c, hown, World.grownBy.refl w _, .inl rfl⟩
 ·have hcells : ∀ j u, (flat size G m)[j]? = some u → w.cell? (ad.add j) = some u := by
   intro j u hu
   have hj : j < m * size := by
    rcases Nat.lt_or_ge j (m * size) with h | h
    ·exact h
    ·rw [List.getElem?_eq_none (by rw [zaN]; exact h)] at hu; cases hu
   rcases Nat.eq_zero_or_pos m with h0 | h0
   ·subst h0; omega
   ·obtain ⟨b, off, h, hc⟩ := hr h0
    injection h with h
    subst h
    rw [flat_get _ _ _ _ hj] at hu
    injection hu with hu
    subst hu
    have h2 := hc (j / size) (Nat.div_lt_of_lt_mul (by rw [Nat.mul_comm]; exact hj)) (j % size) (Nat.mod_lt _ hsz)
    have e : (⟨b, off, none⟩ : Addr).add j = ⟨b, off + j / size * size + j % size, none⟩ := by
     have := Nat.div_add_mod j size
     rw [Nat.mul_comm] at this
     unfold Addr.add; split <;> simp <;> omega
    rw [e]; exact h2
  obtain ⟨v', w', hrun, h2, h3, _, h5⟩ := run_append_own_at (P := P) w base t ty e i z size bytes ht hi hz hsize hby hzs hsz v n _ hown ad m c (flat size G m) (zaN _ _ _) hcells h1' h63 hbytes hbase
  exact ⟨v', w', hrun, h2, h3, h5⟩
theorem zfK {o : Oper} {a : Act} {K : Act → World → Prop} {Q : Exit → Act → World → Prop} (s x : Operand) (t : TypeId)
 (ho : o.op = .call { callee := .builtin .append, args := #[s, x], argTypes := #[t, t] })
 (base : Nat) (e : TypeId) (i : TypeInfo) (z : Value) (size bytes : Nat) (ht : P.underlying t = some (.slice e)) (hi : P.info? e = some i) (hz : i.zero = some z)
 (hsize : i.size = size) (hby : i.bytes = bytes) (hzs : z.cells.size = size) (hsz : 0 < size)
 (v : Value) (n : Nat) (F : Nat → Nat → Value) (hs : a.eval s = v) (hown : Own w base e size v n F)
 (A : Option Addr) (m c : Nat) (G : Nat → Nat → Value) (hx : a.eval x = .slice A m c) (hr : Arr w A m size G) (h1 : ∀ i, i < m → ∀ j, j < size → (G i j).oneCell' = true)
 (h63 : n + m ≤ maxLen) (hbytes : (n + m) * bytes ≤ 140737488355328) (hbase : base ≤ w.heap.size)
 (h : ∀ v' w', Own w' base e size v' (n + m) (cat n F G) → w.grownBy w' v.ownBlock → (v'.ownBlock = v.ownBlock ∨ v'.ownBlock = some w.heap.size) → K (a.put o.dst v') w') : o.wp P a w K Q := by
 obtain ⟨v', w', hrun, h2, h3, h4⟩ := zfk (P := P) w base t o.type e i z size bytes ht hi hz hsize hby hzs hsz v n F hown A m c G hr h1 h63 hbytes hbase
 unfold Oper.wp execOp
 simp only [ho, resolve, invoke, builtin, Sem.run_bind, Sem.run_pure, Result.andThen_ok, List.map_toArray, List.map_cons, List.map_nil, hs, hx, hrun]
 exact h v' w' h2 h3 h4
end
end Go.Proofs.YtaghmffgoomebaaGreat.Mem
namespace Go.Proofs.YtaghmffgoomebaaGreat.Mem
open Go.RowKit
def Tch (w w' : World) (g : Nat) : Prop := w.grownBy w' (some g)
theorem Tch.refl (w : World) (g : Nat) : Tch w w g := World.grownBy.refl w _
theorem Tch.drew {w0 w : World} {g : Nat} (h : Tch w0 w g) : Tch w0 w.drew g := ⟨h.os, h.tape, h.output, h.size, h.block⟩
theorem Tch.drewN {w0 w : World} {g : Nat} (h : Tch w0 w g) (n : Nat) : Tch w0 (w.drewN n) g := ⟨h.os, h.tape, h.output, h.size, h.block⟩
theorem Tch.alloc {w0 w : World} {g : Nat} (h : Tch w0 w g) (o : Obj) : Tch w0 (w.alloc o) g :=
 ⟨h.os, h.tape, h.output, Nat.le_trans h.size (by simp), fun i hi hne => (Below.heap_alloc w o i (Nat.lt_of_lt_of_le hi h.size)).trans (h.block i hi hne)⟩
theorem Tch.set {w0 w : World} {g : Nat} (h : Tch w0 w g) (i : Nat) (u : Value) : Tch w0 (w.setCell ⟨g, i, none⟩ u) g :=
 ⟨h.os, h.tape, h.output, by simpa [World.setCell] using h.size, fun j hj hne => (Below.heap_setCell w ⟨g, i, none⟩ u j (by
  rintro rfl; exact hne rfl)).trans (h.block j hj hne)⟩
theorem Tch.below {w0 w w' : World} {g : Nat} (h : Tch w0 w g) (hb : Below w.heap.size w w') : Tch w0 w' g :=
 ⟨hb.os.trans h.os, hb.tape.trans h.tape, hb.output.trans h.output, Nat.le_trans h.size hb.size, fun i hi hne => (hb.block i (Nat.lt_of_lt_of_le hi h.size)).trans (h.block i hi hne)⟩
theorem Tch.trans {a b c : World} {g : Nat} (h : Tch a b g) (k : Tch b c g) : Tch a c g :=
 ⟨k.os.trans h.os, k.tape.trans h.tape, k.output.trans h.output, Nat.le_trans h.size k.size, fun i hi hne => (k.block i (Nat.lt_of_lt_of_le hi h.size) hne).trans (h.block i hi hne)⟩
end Go.Proofs.YtaghmffgoomebaaGreat.Mem
namespace Go.Proofs.YtaghmffgoomebaaGreat.Mem
open Go.RowKit
structure Ext (W : World) where
 w : World
 h : Below W.heap.size W w
instance (W : World) : Nonempty (Ext W) := ⟨⟨W, Below.refl _ _⟩⟩
end Go.Proofs.YtaghmffgoomebaaGreat.Mem
