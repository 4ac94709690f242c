/- Slices whose elements are those of a list, each laid in cells by one rule; slices that the call has built, likewise; append over both. Arguments of any shape, opened cell by cell: structs in structs, arrays, slices of such. Slices of integers in a cell. A slice's cells as a list of data. -/
import Derived.Test.YtaghmffgoomebaaGreatRegion
import Derived.OpenShut
import Derived.ProofKit
set_option linter.unusedVariables false
set_option linter.unusedSimpArgs false
namespace Go.Proofs.YtaghmffgoomebaaGreat.Mem
open Go.RowKit
section
variable {α : Type} [Inhabited α]
def LF (enc : α → Nat → Value) (L : List α) : Nat → Nat → Value := fun i j => enc (L.getD i default) j
theorem zfg {enc : α → Nat → Value} {L : List α} {k : Nat} {x : α} (h : L[k]? = some x) (j : Nat) : LF enc L k j = enc x j := by
 unfold LF; rw [List.getD_eq_getElem?_getD, h]; rfl
theorem zo0 (enc : α → Nat → Value) (L M : List α) : cat L.length (LF enc L) (LF enc M) = LF enc (L ++ M) := by
 funext i j
 unfold cat LF
 by_cases h : i < L.length
 ·simp [h, List.getD_eq_getElem?_getD, List.getElem?_append_left h]
 ·simp [h, List.getD_eq_getElem?_getD, List.getElem?_append_right (Nat.le_of_not_lt h)]
def Sl (w : World) (A : Option Addr) (sz : Nat) (enc : α → Nat → Value) (L : List α) : Prop := Arr w A L.length sz (LF enc L)
variable {w w' : World} {A : Option Addr} {sz : Nat} {enc : α → Nat → Value} {L M : List α}
theorem Sl.nil : Sl w A sz enc ([] : List α) := Arr.nil
theorem Sl.keep (h : Sl w A sz enc L) (hk : ∀ p v, w.cell? p = some v → w'.cell? p = some v) : Sl w' A sz enc L := Arr.keep h hk
theorem Sl.below (h : Sl w A sz enc L) (hb : Below w.heap.size w w') : Sl w' A sz enc L := Arr.below h hb
theorem Sl.alloc (h : Sl w A sz enc L) (o : Obj) : Sl (w.alloc o) A sz enc L := Arr.below h (zaF (Below.refl _ _) _)
theorem Sl.drewN (h : Sl w A sz enc L) (k : Nat) : Sl (w.drewN k) A sz enc L := Arr.below h (zbf (Below.refl _ _) _)
theorem Sl.drew (h : Sl w A sz enc L) : Sl w.drew A sz enc L := Arr.below h (zbj (Below.refl _ _))
theorem Sl.at_ (h : Sl w A sz enc L) (k : Nat) (hk : k < L.length) :
 ∃ b off x, A = some ⟨b, off, none⟩ ∧ L[k]? = some x ∧ L.take (k + 1) = L.take k ++ [x] ∧ x ∈ L ∧ (∀ j, j < sz → w.cell? ⟨b, off + k * sz + j, none⟩ = some (enc x j)) := by
 obtain ⟨b, off, e, hc⟩ := h (by omega)
 have hx : L[k]? = some L[k] := List.getElem?_eq_getElem hk
 refine ⟨b, off, L[k], e, hx, List.take_succ_eq_append_getElem hk, List.getElem_mem hk, fun j hj => ?_⟩
 rw [hc k hk j hj, zfg hx]
theorem Sl.at1 (h : Sl w A 1 enc L) (k : Nat) (hk : k < L.length) :
 ∃ b off x, A = some ⟨b, off, none⟩ ∧ L[k]? = some x ∧ L.take (k + 1) = L.take k ++ [x] ∧ x ∈ L ∧ w.cell? ⟨b, off + k, none⟩ = some (enc x 0) ∧ b < w.heap.size := by
 obtain ⟨b, off, x, e, hx, ht, hm, hc⟩ := Sl.at_ h k hk
 have := hc 0 (by omega)
 rw [Nat.mul_one, Nat.add_zero] at this
 exact ⟨b, off, x, e, hx, ht, hm, this, lt_of_cell this⟩
theorem Sl.take (h : Sl w A sz enc L) (k : Nat) : Sl w A sz enc (L.take k) := by
 intro hn
 have hl : (L.take k).length = min k L.length := List.length_take ..
 obtain ⟨b, off, e, hc⟩ := h (by omega)
 refine ⟨b, off, e, fun i hi j hj => ?_⟩
 rw [hc i (by omega) j hj]
 have : i < k := by omega
 simp [LF, List.getD_eq_getElem?_getD, List.getElem?_take, this]
theorem Sl.drop (h : Sl w A sz enc L) (k : Nat) (hk : k < L.length) : ∃ b off, A = some ⟨b, off, none⟩ ∧ Sl w (some ⟨b, off + k * sz, none⟩) sz enc (L.drop k) := by
 obtain ⟨b, off, e, hc⟩ := h (by omega)
 refine ⟨b, off, e, fun hn => ⟨b, off + k * sz, rfl, fun i hi j hj => ?_⟩⟩
 have hl : (L.drop k).length = L.length - k := List.length_drop ..
 have := hc (k + i) (by omega) j hj
 rw [show off + k * sz + i * sz + j = off + (k + i) * sz + j by rw [Nat.add_mul]; omega, this]
 simp [LF, List.getD_eq_getElem?_getD]
def OwnL (w : World) (base : Nat) (e : TypeId) (sz : Nat) (v : Value) (enc : α → Nat → Value) (L : List α) : Prop := Own w base e sz v L.length (LF enc L)
variable {base : Nat} {e : TypeId} {v v1 v2 v' : Value}
theorem OwnL.nil : OwnL w base e sz (.slice none 0 0) enc ([] : List α) := Own.nil
theorem OwnL.made {cur : Array Value} {cap : Nat} (B : Nat) (hB : B = w.heap.size) (hb : base ≤ w.heap.size) (hm : cap ≤ maxLen) (hs : cur.size = cap * sz) :
 OwnL (w.alloc (.cells cur e)) base e sz (.slice (some ⟨B, 0, none⟩) 0 cap) enc ([] : List α) := Own.made B hB hb hm hs
theorem OwnL.lit (w : World) (e : TypeId) (enc : α → Nat → Value) (M : List α) (cs : Array Value) (n : Nat) (base : Nat) (hb : base ≤ w.heap.size) (B : Nat) (hB : B = w.heap.size) (hn : M.length = n) (hm : n ≤ maxLen) (he : cs.toList = M.map (fun x => enc x 0)) :
 OwnL (w.alloc (.cells cs e)) base e 1 (.slice (some ⟨B, 0, none⟩) n n) enc M := by
 subst hB
 have hs : cs.size = n * 1 := by rw [← Array.length_toList, he, List.length_map, hn, Nat.mul_one]
 have h1 := World.ownsRow_lit (size := 1) (e := e) w cs n hb hm hs
 have h2 : cs.toList = flat 1 (LF enc M) n := by
  rw [he]
  apply List.ext_getElem?
  intro i
  by_cases hi : i < M.length
  ·have hx : M[i]? = some M[i] := List.getElem?_eq_getElem hi
   rw [List.getElem?_map, hx, flat_get _ _ _ _ (by omega), Nat.div_one, zfg hx, Nat.mod_one]; rfl
  ·rw [List.getElem?_eq_none (by rw [List.length_map]; omega), List.getElem?_eq_none (by rw [zaN]; omega)]
 rw [h2] at h1
 unfold OwnL Own
 rw [hn]
 exact h1
theorem OwnL.of_eq (h : OwnL w base e sz v enc L) (hl : L = M) : OwnL w base e sz v enc M := hl ▸ h
theorem OwnL.alloc (h : OwnL w base e sz v enc L) (o : Obj) : OwnL (w.alloc o) base e sz v enc L := Own.alloc h o
theorem OwnL.drewN (h : OwnL w base e sz v enc L) (k : Nat) : OwnL (w.drewN k) base e sz v enc L := h
theorem OwnL.drew (h : OwnL w base e sz v enc L) : OwnL w.drew base e sz v enc L := h
theorem OwnL.below (h : OwnL w base e sz v enc L) (hb : Below w.heap.size w w') : OwnL w' base e sz v enc L := Own.below h hb
theorem OwnL.sl (h : OwnL w base e sz v enc L) : ∃ A c, v = .slice A L.length c ∧ Sl w A sz enc L ∧ L.length ≤ c ∧ c ≤ maxLen ∧ (A = none → c = 0) ∧ (∀ a, A = some a → base ≤ a.block ∧ a.block < w.heap.size) := Own.arr h
theorem OwnL.mono (h : OwnL w base e sz v enc L) {base' : Nat} (hb : base' ≤ base) : OwnL w base' e sz v enc L := by
 refine ⟨h.1, ?_⟩
 rcases h.2 with h1 | ⟨g, cap, cur, h1, h2, h3⟩
 ·exact .inl h1
 ·exact .inr ⟨g, cap, cur, h1, Nat.le_trans hb h2, h3⟩
def Grew (w w' : World) (v v' : Value) : Prop := w.grownBy w' v.ownBlock ∧ (v'.ownBlock = v.ownBlock ∨ ∃ k, v'.ownBlock = some k ∧ w.heap.size ≤ k)
theorem Grew.refl (w : World) (v : Value) : Grew w w v v := ⟨World.grownBy.refl w _, .inl rfl⟩
theorem Grew.zis {w2 : World} (h : Grew w w' v v') (hb : Below w'.heap.size w' w2) : Grew w w2 v v' :=
 ⟨⟨hb.os.trans h.1.os, hb.tape.trans h.1.tape, hb.output.trans h.1.output, Nat.le_trans h.1.size hb.size, fun i hi hne => (hb.block i (Nat.lt_of_lt_of_le hi h.1.size)).trans (h.1.block i hi hne)⟩, h.2⟩
theorem Grew.trans {w2 : World} (h : Grew w w' v v') (k : Grew w' w2 v' v2) : Grew w w2 v v2 := by
 refine ⟨⟨k.1.os.trans h.1.os, k.1.tape.trans h.1.tape, k.1.output.trans h.1.output, Nat.le_trans h.1.size k.1.size, fun i hi hne => (k.1.block i (Nat.lt_of_lt_of_le hi h.1.size) ?_).trans (h.1.block i hi hne)⟩, ?_⟩
 ·rcases h.2 with e | ⟨g, e, hg⟩
  ·rw [e]; exact hne
  ·rw [e]; intro e'; injection e' with e'; omega
 ·rcases k.2 with e | ⟨g, e, hg⟩
  ·rw [e]; exact h.2
  ·exact .inr ⟨g, e, Nat.le_trans h.1.size hg⟩
theorem Grew.zkn {w0 : World} (hb : Below w.heap.size w w') (h : Grew w' w0 v v') : Grew w w0 v v' :=
 Grew.trans ((Grew.refl w v).zis hb) h
theorem Grew.bel {W : World} (h : Grew w w' v v') (hb : Below W.heap.size W w) (ho : OwnL w W.heap.size e sz v enc L) : Below W.heap.size W w' := zp8 hb ho h.1
theorem Grew.sl {β : Type} [Inhabited β] {enc' : β → Nat → Value} {sz' : Nat} {M : List β} (h : Grew w w' v v') (hs : Sl w A sz' enc' M) (hA : ∀ a, A = some a → ∀ k, v.ownBlock = some k → a.block ≠ k) : Sl w' A sz' enc' M := by
 intro hn
 obtain ⟨b, off, e1, hc⟩ := hs hn
 refine ⟨b, off, e1, fun i hi j hj => ?_⟩
 have h1 := hc i hi j hj
 rw [World.cell?_of_block (h.1.block b (lt_of_cell h1) (by
  intro e'; exact hA _ e1 b e'.symm rfl))]
 exact h1
theorem Grew.own {β : Type} [Inhabited β] {enc' : β → Nat → Value} {sz' : Nat} {M : List β} {e' : TypeId} {base' : Nat} {u : Value} (h : Grew w w' v v') (hs : OwnL w base' e' sz' u enc' M) (hA : ∀ k, u.ownBlock = some k → v.ownBlock ≠ some k) : OwnL w' base' e' sz' u enc' M :=
 World.ownsRow.kept hs (row := v.ownBlock) h.1 (by
  cases hu : u.ownBlock with
  | none => exact .inl rfl
  | some k => exact .inr fun hv => hA k hu hv.symm)
theorem OwnL.lt' (h : OwnL w base e sz v enc L) : ∀ k, v.ownBlock = some k → base ≤ k ∧ k < w.heap.size := fun k hk => World.ownsRow.lt h k hk
end
structure Elt (P : Program) (t e : TypeId) (sz bytes : Nat) : Prop where
 ht : P.underlying t = some (.slice e)
 hi : ∃ (i : TypeInfo) (z : Value), P.info? e = some i ∧ i.zero = some z ∧ i.size = sz ∧ i.bytes = bytes ∧ z.cells.size = sz
 pos : 0 < sz
theorem Elt.mk' {P : Program} {t e : TypeId} {sz bytes : Nat} {z : Value} (ht : P.underlying t = some (.slice e)) (hi : (P.info? e).map (fun i => (i.zero, i.size, i.bytes)) = some (some z, sz, bytes)) (hz : z.cells.size = sz) (pos : 0 < sz) : Elt P t e sz bytes := by
 obtain ⟨i, h0, h1, h2, h3⟩ := info_parts hi
 exact ⟨ht, ⟨i, z, h0, h1, h2, h3, hz⟩, pos⟩
section
variable {P : Program} (w : World) {α : Type} [Inhabited α]
theorem zcE {o : Oper} {a : Act} {K : Act → World → Prop} {Q : Exit → Act → World → Prop} (s x : Operand) (t : TypeId)
 (ho : o.op = .call { callee := .builtin .append, args := #[s, x], argTypes := #[t, t] })
 {e : TypeId} {size bytes : Nat} (hE : Elt P t e size bytes) (base : Nat) (enc : α → Nat → Value)
 (v : Value) (L : List α) (hs : a.eval s = v) (hown : OwnL w base e size v enc L)
 (A : Option Addr) (m c : Nat) (M : List α) (hx : a.eval x = .slice A m c) (hm : m = M.length) (hr : Sl w A size enc M) (h1 : ∀ x j, (enc x j).oneCell' = true)
 (h63 : L.length + M.length ≤ maxLen) (hbytes : (L.length + M.length) * bytes ≤ 140737488355328) (hbase : base ≤ w.heap.size)
 (h : ∀ v' w', OwnL w' base e size v' enc (L ++ M) → Grew w w' v v' → K (a.put o.dst v') w') : o.wp P a w K Q := by
 subst hm
 obtain ⟨i, z, hi, hz, hsz, hby, hzs⟩ := hE.hi
 refine zfK w s x t ho base e i z size bytes hE.ht hi hz hsz hby hzs hE.pos v L.length (LF enc L) hs hown A M.length c (LF enc M) hx hr (fun i _ j _ => h1 _ _) h63 hbytes hbase ?_
 intro v' w' h2 h3 h4
 refine h v' w' ?_ ⟨h3, ?_⟩
 ·unfold OwnL
  rw [zo0] at h2
  rw [List.length_append]
  exact h2
 ·rcases h4 with h4 | h4
  ·exact .inl h4
  ·exact .inr ⟨_, h4, Nat.le_refl _⟩
theorem zbP {ops : Array Oper} {rest : List Oper} {o : Oper} {a : Act} {Q : Exit → Act → World → Prop} (hgd : o.guard = none) (s x : Operand) (t : TypeId)
 (ho : o.op = .call { callee := .builtin .append, args := #[s, x], argTypes := #[t, t] })
 {e : TypeId} {size bytes : Nat} (hE : Elt P t e size bytes) (base : Nat) (enc : α → Nat → Value)
 (v : Value) (L : List α) (hs : a.eval s = v) (hown : OwnL w base e size v enc L)
 (A : Option Addr) (m c : Nat) (M : List α) (hx : a.eval x = .slice A m c) (hm : m = M.length) (hr : Sl w A size enc M) (h1 : ∀ x j, (enc x j).oneCell' = true)
 (h63 : L.length + M.length ≤ maxLen) (hbytes : (L.length + M.length) * bytes ≤ 140737488355328) (hbase : base ≤ w.heap.size)
 (h : ∀ v' w', OwnL w' base e size v' enc (L ++ M) → Grew w w' v v' → wpList P ops Q rest (a.put o.dst v') w') : wpList P ops Q (o :: rest) a w :=
 wpList_plain hgd fun _ hK => zcE w s x t ho hE base enc v L hs hown A m c M hx hm hr h1 h63 hbytes hbase fun v' w' h2 h3 => hK _ _ (h v' w' h2 h3)
theorem zfh {ops : Array Oper} {o : Oper} {a : Act} {K : Act → World → Prop} {Q : Exit → Act → World → Prop} {E : Prop} (hgd : o.guard = none) (s x : Operand) (t : TypeId)
 (ho : o.op = .call { callee := .builtin .append, args := #[s, x], argTypes := #[t, t] })
 {e : TypeId} {size bytes : Nat} (hE : Elt P t e size bytes) (base : Nat) (enc : α → Nat → Value)
 (v : Value) (L : List α) (hs : a.eval s = v) (hown : OwnL w base e size v enc L)
 (A : Option Addr) (m c : Nat) (M : List α) (hx : a.eval x = .slice A m c) (hm : m = M.length) (hr : Sl w A size enc M) (h1 : ∀ x j, (enc x j).oneCell' = true)
 (h63 : L.length + M.length ≤ maxLen) (hbytes : (L.length + M.length) * bytes ≤ 140737488355328) (hbase : base ≤ w.heap.size)
 (h : ∀ v' w', OwnL w' base e size v' enc (L ++ M) → Grew w w' v v' → K (a.put o.dst v') w') :
 if Region.wanted o (yielded ops a.tmps) = true then Oper.wp P o a w K Q else E := by
 have hw : Region.wanted o (yielded ops a.tmps) = true := by simp [Region.wanted, hgd]
 rw [if_pos hw]
 exact zcE w s x t ho hE base enc v L hs hown A m c M hx hm hr h1 h63 hbytes hbase h
theorem sl_new (enc : α → Nat → Value) (x : α) (cs : Array Value) (sz : Nat) (t : TypeId) (B : Nat) (hB : B = w.heap.size) (hc : ∀ j, j < sz → cs[j]? = some (enc x j)) : Sl (w.alloc (.cells cs t)) (some ⟨B, 0, none⟩) sz enc [x] := by
 subst hB
 refine zmM fun i hi j hj => ?_
 have : i = 0 := by simp at hi; omega
 subst this
 rw [Nat.zero_mul, Nat.zero_add, hc j hj]; rfl
theorem sl_one (enc : α → Nat → Value) (x : α) (u : Value) (t : TypeId) (B : Nat) (hB : B = w.heap.size) (he : u = enc x 0) : Sl (w.alloc (.cells #[u] t)) (some ⟨B, 0, none⟩) 1 enc [x] :=
 sl_new w enc x _ 1 t B hB (fun j hj => by have h0 : j = 0 := Nat.lt_one_iff.1 hj; subst h0; rw [← he]; rfl)
theorem sl_lit (enc : α → Nat → Value) (M : List α) (cs : Array Value) (t : TypeId) (B : Nat) (hB : B = w.heap.size) (he : cs.toList = M.map (fun x => enc x 0)) : Sl (w.alloc (.cells cs t)) (some ⟨B, 0, none⟩) 1 enc M := by
 subst hB
 refine zmM fun i hi j hj => ?_
 have h0 : j = 0 := Nat.lt_one_iff.1 hj
 subst h0
 have hx : M[i]? = some M[i] := List.getElem?_eq_getElem hi
 rw [Nat.mul_one, Nat.add_zero, ← Array.getElem?_toList, he, List.getElem?_map, hx, zfg hx]; rfl
end
def Blk (w : World) (g : Nat) (cs : Array Value) (t : TypeId) : Prop := w.heap[g]? = some (.cells cs t (0, 0))
theorem Blk.new (w : World) (cs : Array Value) (t : TypeId) (B : Nat) (hB : B = w.heap.size) : Blk (w.alloc (.cells cs t)) B cs t := by subst hB; exact heap_alloc_new w _
theorem Blk.lt {w : World} {g : Nat} {cs : Array Value} {t : TypeId} (h : Blk w g cs t) : g < w.heap.size := by
 rcases Nat.lt_or_ge g w.heap.size with h' | h'
 ·exact h'
 ·unfold Blk at h; rw [Array.getElem?_eq_none h'] at h; cases h
theorem Blk.below {w w' : World} {g : Nat} {cs : Array Value} {t : TypeId} (h : Blk w g cs t) (hb : Below w.heap.size w w') : Blk w' g cs t := (hb.block g h.lt).trans h
theorem Blk.alloc {w : World} {g : Nat} {cs : Array Value} {t : TypeId} (h : Blk w g cs t) (o : Obj) : Blk (w.alloc o) g cs t := h.below (zaF (Below.refl _ _) _)
theorem Blk.drewN {w : World} {g : Nat} {cs : Array Value} {t : TypeId} (h : Blk w g cs t) (k : Nat) : Blk (w.drewN k) g cs t := h
theorem Blk.set {w : World} {g g' i : Nat} {cs : Array Value} {t : TypeId} {u : Value} (h : Blk w g cs t) (hne : g ≠ g') : Blk (w.setCell ⟨g', i, none⟩ u) g cs t := (heap_setCell_other w ⟨g', i, none⟩ g u (fun e => hne e)).trans h
theorem Blk.of_eq {w : World} {g : Nat} {cs cs' : Array Value} {t : TypeId} (h : Blk w g cs t) (e : cs = cs') : Blk w g cs' t := e ▸ h
theorem Blk.store {w : World} {g : Nat} {cs : Array Value} {t : TypeId} (h : Blk w g cs t) (i : Nat) (u : Value) : Blk (w.setCell ⟨g, i, none⟩ u) g (cs.setIfInBounds i u) t := heap_setCell_same w g i cs t u h
theorem Blk.grew {w w' : World} {v v' : Value} {g : Nat} {cs : Array Value} {t : TypeId} (h : Blk w g cs t) (hg : Grew w w' v v') (hne : v.ownBlock ≠ some g) : Blk w' g cs t := (hg.1.block g h.lt (Ne.symm hne)).trans h
theorem Blk.facts {w : World} {g : Nat} {cs : Array Value} {t : TypeId} (h : Blk w g cs t) : (∀ i, w.cell? ⟨g, i, none⟩ = cs[i]?) ∧ (∀ i, w.frozen? ⟨g, i, none⟩ = false) ∧ g < w.heap.size :=
 ⟨fun i => cell_of_row w g i cs t (0, 0) h, fun i => frozen_of_row w g i cs t h, h.lt⟩
def IE (k : IntKind) : Int → Nat → Value := fun x _ => .int k x
end Go.Proofs.YtaghmffgoomebaaGreat.Mem
namespace Go.Proofs.YtaghmffgoomebaaGreat.Mem
open Go.RowKit Go.ChangeShapes Go.WideShapes Go.Deep
def leavesFs (q : TypeId → Option (List TypeId)) (P : Program) : List Field → Nat → Option (List TypeId)
 | [], _ => some []
 | f :: r, o => if f.offset = o then (match q f.type with
  | some l => if P.cellsOf f.type = l.length then (match leavesFs q P r (o + l.length) with | some l' => some (l ++ l') | none => none) else none
  | none => none) else none
def leaves (P : Program) : Nat → TypeId → Option (List TypeId)
 | 0, _ => none
 | d + 1, t => match P.underlying t with
   | some (.struct fs) => leavesFs (leaves P d) P fs.toList 0
   | some (.array k e) => (match leaves P d e with | some l => if P.cellsOf e = l.length then some (List.replicate k l).flatten else none | none => none)
   | _ => some [t]
section
variable {H : Type} {enc : TypeId × Value → H} {P : Program} {w : World}
def Leaf (enc : TypeId × Value → H) (P : Program) (w : World) (t : TypeId) (c : Value) : Prop := ∃ m y, DataW.trod enc P w 0 (fun _ => true) true m t [c] = some y
theorem zeN {q : TypeId → Option (List TypeId)} {cs : List Value} (hq : ∀ t l, q t = some l → ∀ m cs y, DataW.trod enc P w 0 (fun _ => true) true m t cs = some y → cs.length = l.length → ∀ (j : Nat) (tj : TypeId), l[j]? = some tj → ∃ c, cs[j]? = some c ∧ Leaf enc P w tj c) :
 ∀ (r : List Field) (o : Nat) (lr : List TypeId), leavesFs q P r o = some lr → (∀ f ∈ r, ∃ m y, DataW.trod enc P w 0 (fun _ => true) true m f.type ((cs.drop f.offset).take (P.cellsOf f.type)) = some y) → o + lr.length ≤ cs.length →
  ∀ (j : Nat) (tj : TypeId), lr[j]? = some tj → ∃ c, cs[o + j]? = some c ∧ Leaf enc P w tj c
 | [], o, lr, h, _, _, j, tj, hj => by
   injection h with h; subst h; simp at hj
 | f :: r, o, lr, h, hf, hl, j, tj, hj => by
   unfold leavesFs at h
   split at h
   ·rename_i ho
    split at h
    ·rename_i l hql
     split at h
     ·rename_i hc
      split at h
      ·rename_i l' hr
       injection h with h
       subst h
       rw [List.length_append] at hl
       by_cases hjl : j < l.length
       ·obtain ⟨m, y, hy⟩ := hf f (.head _)
        rw [List.getElem?_append_left hjl] at hj
        obtain ⟨c, h1, h2⟩ := hq _ _ hql m _ y hy (by rw [List.length_take, List.length_drop, ho, hc]; omega) j tj hj
        refine ⟨c, ?_, h2⟩
        rw [List.getElem?_take, hc, if_pos hjl, List.getElem?_drop, ho] at h1
        exact h1
       ·rw [List.getElem?_append_right (by omega)] at hj
        obtain ⟨c, h1, h2⟩ := zeN hq r (o + l.length) l' hr (fun g hg => hf g (.tail _ hg)) (by omega) (j - l.length) tj hj
        exact ⟨c, by rw [← h1]; congr 1; omega, h2⟩
      ·cases h
     ·cases h
    ·cases h
   ·cases h
theorem zjp {α : Type} (l : List α) : ∀ (k j : Nat) (x : α), (List.replicate k l).flatten[j]? = some x → ∃ i s, i < k ∧ j = i * l.length + s ∧ s < l.length ∧ l[s]? = some x
 | 0, j, x, h => by simp at h
 | k + 1, j, x, h => by
   rw [List.replicate_succ, List.flatten_cons] at h
   by_cases hj : j < l.length
   ·rw [List.getElem?_append_left hj] at h
    exact ⟨0, j, by omega, by simp, hj, h⟩
   ·rw [List.getElem?_append_right (by omega)] at h
    obtain ⟨i, s, h1, h2, h3, h4⟩ := zjp l k _ x h
    exact ⟨i + 1, s, by omega, by rw [Nat.add_mul]; omega, h3, h4⟩
theorem zeM : ∀ (d : Nat) (t : TypeId) (l : List TypeId), leaves P d t = some l → ∀ m cs y, DataW.trod enc P w 0 (fun _ => true) true m t cs = some y → cs.length = l.length → ∀ (j : Nat) (tj : TypeId), l[j]? = some tj → ∃ c, cs[j]? = some c ∧ Leaf enc P w tj c
 | 0, _, _, h, _, _, _, _, _, _, _, _ => by cases h
 | d + 1, t, l, h, m, cs, y, hy, hl, j, tj, hj => by
   unfold leaves at h
   split at h
   ·rename_i fs hu
    obtain ⟨xs, n, _, _, hcl, hlen, hg⟩ := DataW.trod_struct hu hy
    have := zeN (enc := enc) (P := P) (w := w) (cs := cs) (zeM d) fs.toList 0 l h (fun f hf => by
     obtain ⟨i, hi, hfi⟩ := List.getElem_of_mem hf
     have h1 : fs[i]? = some f := by
      rw [← Array.getElem?_toList, List.getElem?_eq_getElem hi, hfi]
     have h2 := hg i f h1
     have h3 : i < xs.length := by rw [hlen]; simpa using hi
     exact ⟨n, _, h2.trans (List.getElem?_eq_getElem h3)⟩) (by omega) j tj hj
    simpa using this
   ·rename_i k e hu
    split at h
    ·rename_i l0 hl0
     split at h
     ·rename_i hc
      injection h with h
      subst h
      obtain ⟨i, s, h1, h2, h3, h4⟩ := zjp l0 k j tj hj
      obtain ⟨xs, m', _, _, hcl, hlen, hg⟩ := DataW.trod_array hu hy
      have h5 := hg i h1
      rw [hc] at h5
      rw [List.length_flatten, List.map_replicate, List.sum_replicate_nat] at hl
      have h6 : (i + 1) * l0.length ≤ k * l0.length := Nat.mul_le_mul_right _ h1
      rw [Nat.add_mul, Nat.one_mul] at h6
      obtain ⟨c, h7, h8⟩ := zeM d e l0 hl0 m' _ _ (h5.trans (List.getElem?_eq_getElem (by omega))) (by rw [List.length_take, List.length_drop]; omega) s tj h4
      refine ⟨c, ?_, h8⟩
      rw [List.getElem?_take, if_pos h3, List.getElem?_drop] at h7
      rw [h2]; exact h7
     ·cases h
    ·cases h
   ·injection h with h
    subst h
    cases j with
    | succ j => simp at hj
    | zero =>
      simp at hj
      subst hj
      match cs, hl with
      | [c], _ => exact ⟨c, rfl, m, y, hy⟩
theorem zj5 {t e : TypeId} {l : List TypeId} {v : Value} (ht : P.underlying t = some (.slice e)) (hl : leaves P 8 e = some l) (hC : P.cellsOf e = l.length) (h0 : 0 < l.length) (h : Leaf enc P w t v) :
 ∃ (A : Option Addr) (n c : Nat) (F : Nat → Nat → Value), v = .slice A n c ∧ (Arr w A n l.length F ∧ n ≤ c ∧ c ≤ maxLen ∧ (A = none → n = 0 ∧ c = 0) ∧ ∀ i, i < n → ∀ (j : Nat) (tj : TypeId), l[j]? = some tj → Leaf enc P w tj (F i j)) := by
 obtain ⟨m0, y, hf⟩ := h
 rcases open_slice ht hf with ⟨hcs, hx⟩ | ⟨a, len', cap', m, n, D, Pl, hcs, hb, hle, hm, hmm, hx, hi⟩
 ·injection hcs with hcs
  subst hcs
  exact ⟨none, 0, 0, fun _ _ => undef, rfl, Arr.nil, Nat.le_refl _, by unfold maxLen; omega, fun _ => ⟨rfl, rfl⟩, fun i hi => absurd hi (by omega)⟩
 ·injection hcs with hcs
  subst hcs
  simp at hmm
  subst hmm
  have key : ∀ i, ∃ cs : List Value, i < m → cs.length = l.length ∧ (∀ j, j < l.length → w.cell? (a.add (i * l.length + j)) = cs[j]?) ∧ ∀ (j : Nat) (tj : TypeId), l[j]? = some tj → Leaf enc P w tj (cs.getD j undef) := by
   intro i
   by_cases him : i < m
   ·obtain ⟨cs', hc, ht'⟩ := hi i him
    rw [hC] at hc
    obtain ⟨_, hcl, hat⟩ := World.cells?_some hc
    refine ⟨cs', fun _ => ⟨hcl, fun j hj => by rw [← Go.Deep.add_add]; exact hat j hj, fun j tj hj => ?_⟩⟩
    obtain ⟨c, h1, h2⟩ := zeM 8 e l hl n cs' _ ht' hcl j tj hj
    have : cs'.getD j undef = c := by rw [List.getD_eq_getElem?_getD, h1]; rfl
    rw [this]
    exact h2
   ·exact ⟨[], fun h => absurd h him⟩
  refine ⟨some a, len', m, fun i j => (Classical.choose (key i)).getD j undef, rfl, ?_, hle, hm, (fun h => by cases h), fun i him j tj hj => ((Classical.choose_spec (key i) (by omega)).2.2 j tj hj)⟩
  intro hn
  have hspot : a.spot = none := by
   have h1 := (Classical.choose_spec (key 0) (by omega)).2.1 0 h0
   have h2 := (Classical.choose_spec (key 0) (by omega)).1
   rw [List.getElem?_eq_getElem (by omega)] at h1
   simpa [Addr.add] using World.cell?_spot h1
  obtain ⟨b, off, spot⟩ := a
  subst hspot
  refine ⟨b, off, rfl, fun i him j hj => ?_⟩
  have h1 := (Classical.choose_spec (key i) (by omega)).2.1 j hj
  have h2 := (Classical.choose_spec (key i) (by omega)).1
  rw [List.getElem?_eq_getElem (by omega)] at h1
  show _ = some ((Classical.choose (key i)).getD j undef)
  rw [List.getD_eq_getElem?_getD, List.getElem?_eq_getElem (by omega)]
  have e : (⟨b, off, none⟩ : Addr).add (i * l.length + j) = ⟨b, off + i * l.length + j, none⟩ := by
   unfold Addr.add; split <;> simp <;> omega
  rw [← e]
  exact h1
theorem zpw {t : TypeId} {base : Nat} {v : Value} {d : DataW H} {p : List MemPlace} (hc : v.cells.toList = [v]) (h : DataW.Trod enc P w 0 (fun _ => true) true t v d p) : Leaf enc P w t v := by
 obtain ⟨fuel, hf⟩ := h
 exact ⟨fuel, _, by rw [← hc]; exact hf⟩
theorem zhS {t e : TypeId} {l : List TypeId} {base : Nat} {v : Value} {d : DataW H} {p : List MemPlace} (ht : P.underlying t = some (.slice e)) (hl : leaves P 8 e = some l) (hC : P.cellsOf e = l.length) (h0 : 0 < l.length)
 (hv : Value.okWide P w .any base t v) (h : DataW.Trod enc P w 0 (fun _ => true) true t v d p) :
 ∃ (A : Option Addr) (n c : Nat) (F : Nat → Nat → Value), v = .slice A n c ∧ (Arr w A n l.length F ∧ n ≤ c ∧ c ≤ maxLen ∧ (A = none → n = 0 ∧ c = 0) ∧ ∀ i, i < n → ∀ (j : Nat) (tj : TypeId), l[j]? = some tj → Leaf enc P w tj (F i j)) := by
 obtain ⟨a0, len, cap, rfl⟩ := okWide_slice ht hv
 exact zj5 ht hl hC h0 (zpw (base := base) rfl h)
theorem zek {t : TypeId} {k : IntKind} {v : Value} (ht : P.underlying t = some (.int k)) (h : Leaf enc P w t v) : ∃ a, v = .int k a ∧ (Lit.int k a).wf = true := by
 obtain ⟨m, y, h⟩ := h
 exact zlJ ht h
theorem zlv {t : TypeId} {v : Value} (ht : P.underlying t = some .bool) (h : Leaf enc P w t v) : ∃ b, v = .bool b := by
 obtain ⟨m, y, h⟩ := h
 obtain ⟨b, e, _⟩ := DataW.trod_bool ht h
 exact ⟨b, by simpa using e⟩
end
end Go.Proofs.YtaghmffgoomebaaGreat.Mem
namespace Go.Proofs.YtaghmffgoomebaaGreat.Mem
open Go.RowKit Go.ChangeShapes Go.WideShapes Go.Deep
end Go.Proofs.YtaghmffgoomebaaGreat.Mem
namespace Go.Proofs.YtaghmffgoomebaaGreat.Mem
open Go.RowKit Go.ChangeShapes Go.WideShapes Go.Deep
theorem zom {α : Type} [Inhabited α] {enc : α → Nat → Value} {sz : Nat} {Q : α → Prop} {F : Nat → Nat → Value} {A : Option Addr} {n : Nat} {w : World} (hA : Arr w A n sz F) (h : ∀ i, i < n → ∃ y, (∀ j, j < sz → F i j = enc y j) ∧ Q y) :
 ∃ L : List α, n = L.length ∧ Sl w A sz enc L ∧ ∀ y ∈ L, Q y := by
 have key : ∀ i, ∃ y, i < n → (∀ j, j < sz → F i j = enc y j) ∧ Q y := by
  intro i
  by_cases hi : i < n
  ·obtain ⟨y, hy⟩ := h i hi
   exact ⟨y, fun _ => hy⟩
  ·exact ⟨default, fun h => absurd h hi⟩
 refine ⟨(List.range n).map fun i => Classical.choose (key i), by simp, ?_, ?_⟩
 ·unfold Sl
  have hlen : ((List.range n).map fun i => Classical.choose (key i)).length = n := by simp
  rw [hlen]
  refine Arr.congr hA (fun i hi j hj => ?_)
  rw [zfg (k := i) (x := Classical.choose (key i)) (by simp [hi])]
  exact (Classical.choose_spec (key i) hi).1 j hj
 ·intro x hx
  obtain ⟨i, hi, rfl⟩ := List.mem_map.1 hx
  exact (Classical.choose_spec (key i) (by simpa using hi)).2
end Go.Proofs.YtaghmffgoomebaaGreat.Mem
