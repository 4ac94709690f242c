/- The walk by reckoned steps: rows that are written in place: copy, append where there is room, clear, append of zeros where there is none. The walk by reckoned steps: append of zeros where there is no room; slices.overlaps of two blocks. The walk by reckoned steps: loads at any place of a block; pointers to unlike blocks compared. The walk by reckoned steps: functions that have captured variables: made, and called. -/
import Derived.Test.YtaghmffgoomebaaGreatNd3
import Derived.Laws.CopyRow
import Derived.Laws.AppendOwn
import Derived.Lib.AppendZerosOnto
import Derived.Lib.Overlaps
import Derived.Laws.Externs
set_option linter.unusedVariables false
set_option linter.unusedSimpArgs false
namespace Go.Proofs.YtaghmffgoomebaaGreat.Gx
open Go.RowKit Mem
def lay (cs : List Value) (o : Nat) (vs : List Value) : List Value := cs.take o ++ vs ++ cs.drop (o + vs.length)
theorem zbR {cs vs : List Value} {o : Nat} (h : o + vs.length ≤ cs.length) : (lay cs o vs).length = cs.length := by
 unfold lay; simp only [List.length_append, List.length_take, List.length_drop]; omega
section
variable {α : Type} (sz : Nat) (enc : α → Nat → Value)
theorem zaq (L : List α) : (flatF sz enc L).length = L.length * sz := by
 induction L with
 | nil => simp [flatF]
 | cons x r ih => show (encF enc x 0 sz ++ flatF sz enc r).length = _; rw [List.length_append, ih, zcA, List.length_cons, Nat.succ_mul]; omega
theorem zao (L M : List α) : flatF sz enc (L ++ M) = flatF sz enc L ++ flatF sz enc M := by
 induction L with
 | nil => rfl
 | cons x r ih => show encF enc x 0 sz ++ flatF sz enc (r ++ M) = (encF enc x 0 sz ++ flatF sz enc r) ++ flatF sz enc M; rw [ih, List.append_assoc]
theorem zfC (L : List α) (i : Nat) (h : i ≤ L.length) : (flatF sz enc L).drop (i * sz) = flatF sz enc (L.drop i) := by
 have e : flatF sz enc L = flatF sz enc (L.take i) ++ flatF sz enc (L.drop i) := by rw [← zao, List.take_append_drop]
 rw [e]
 exact List.drop_left' (by rw [zaq, List.length_take, Nat.min_eq_left h])
theorem zme [Inhabited α] (hsz : 0 < sz) (L : List α) : flat sz (LF enc L) L.length = flatF sz enc L := by
 apply List.ext_getElem?
 intro j
 by_cases hj : j < L.length * sz
 ·have h1 : j / sz < L.length := Nat.div_lt_of_lt_mul (by rw [Nat.mul_comm]; exact hj)
  have hy : L[j / sz]? = some L[j / sz] := List.getElem?_eq_getElem h1
  rw [flat_get _ _ _ _ hj, zfg hy]
  have := zbe sz enc L (j / sz) (j % sz) _ hy (Nat.mod_lt _ hsz)
  rw [Nat.mul_comm, Nat.div_add_mod] at this
  rw [this]
 ·rw [List.getElem?_eq_none (by rw [zaN]; omega), List.getElem?_eq_none (by rw [zaq]; omega)]
theorem zbd [Inhabited α] (h1 : ∀ x j, (enc x j).oneCell' = true) (L : List α) : ∀ v ∈ flatF sz enc L, v.oneCell' = true := by
 intro v hv
 obtain ⟨j, hj⟩ := List.getElem?_of_mem hv
 have hl := (List.getElem?_eq_some_iff.1 hj).1
 rw [zaq] at hl
 have hsz : 0 < sz := by
  rcases Nat.eq_zero_or_pos sz with h | h
  ·subst h; omega
  ·exact h
 have h1' : j / sz < L.length := Nat.div_lt_of_lt_mul (by rw [Nat.mul_comm]; exact hl)
 have hy : L[j / sz]? = some L[j / sz] := List.getElem?_eq_getElem h1'
 have := zbe sz enc L (j / sz) (j % sz) _ hy (Nat.mod_lt _ hsz)
 rw [Nat.mul_comm, Nat.div_add_mod] at this
 rw [this] at hj
 injection hj with hj
 rw [← hj]
 exact h1 _ _
end
section
variable {X : Cx} {f : Fr} {O O' R : List Fact} {ks k : List KI} {ops lo : List Oper} {E : List Nat} {w0 w w' : World} {o : Oper} {N : Fr → List Fact → List Fact → Prop} {g T : Nat} {cs : List Value}
theorem Kn.setRow {cs' : List Value} (h : Kn E w0 w O R) (hu : Upd (blk g cs T) (blk g cs' T) O O') : Kn E w0 (w.setRow g cs'.toArray) O' R := by
 have hb : w.heap[g]? = some (.cells cs.toArray T (0, 0)) := h.pO _ hu.mem
 have hsz : (w.setRow g cs'.toArray).heap.size = w.heap.size := by simp [World.setRow]
 refine h.upd hu rfl rfl rfl (by omega) (fun b hb hne => setRow_other w g b _ hne) (setRow_heap w g _ _ T (0, 0) hb) (fun b hb => ⟨.inl hb, ?_⟩)
 rw [hsz]
 exact h.ltO _ hu.mem b hb
def SrcC (X : Cx) (O R : List Fact) (a : Addr) (vs : List Value) : Prop := ∀ w, Kn X.E X.w0 w O R → ∀ j v, vs[j]? = some v → w.cell? (a.add j) = some v
theorem zjJ (g o j : Nat) : (⟨g, o, none⟩ : Addr).add j = ⟨g, o + j, none⟩ := by unfold Addr.add; split <;> simp_all
theorem zcU {o m : Nat} (h : blk g cs T ∈ O) (vs : List Value) (he : vs = (cs.drop o).take m) : SrcC X O R ⟨g, o, none⟩ vs := fun w hk j v hv => by
 have hb : w.heap[g]? = some (.cells cs.toArray T (0, 0)) := hk.pO _ h
 rw [zjJ, cell_of_row w g _ cs.toArray T (0, 0) hb]
 subst he
 have hj : j < ((cs.drop o).take m).length := (List.getElem?_eq_some_iff.1 hv).1
 rw [List.length_take] at hj
 rw [List.getElem?_take, if_pos (by omega), List.getElem?_drop] at hv
 simpa using hv
theorem zhK {P : Program} (w : World) (dT sT ty elem : TypeId) (sz : Nat) (g o : Nat) (dLen dCap : Nat) (a : Addr) (sLen sCap : Nat) (cur : Array Value) (t : TypeId) (vs : List Value)
 (hu : P.underlying dT = some (.slice elem)) (hs : szIs P elem sz = true)
 (hg : w.heap[g]? = some (.cells cur t (0, 0))) (hn : vs.length = Nat.min sLen dLen * sz)
 (hsrc : ∀ j v, vs[j]? = some v → w.cell? (a.add j) = some v) (hfit : o + vs.length ≤ cur.size) (h1 : ∀ v ∈ vs, v.oneCell' = true) :
 (Builtin.copy_ #[dT, sT] ty #[.slice (some ⟨g, o, none⟩) dLen dCap, .slice (some a) sLen sCap]).run P w =
  .ok (goInt (Nat.min sLen dLen)) (w.setRow g (cur.toList.take o ++ vs ++ cur.toList.drop (o + vs.length)).toArray) := by
 have hl := run_loadCells_list (P := P) w a vs hsrc
 have hst := run_storeCells_at P g o t vs 0 cur w hg (by simpa using hfit) h1
 have hz := run_sizeOf hs w
 rw [hn] at hl
 simp [Builtin.copy_, run_underlying hu, Builtin.lenOf, Builtin.firstCells, hz, hl, hst]
theorem zcd {dd : Nat} (hd : o.dst = some dd) (hT : TabOk X.P X.T) {c : Call} {od dn dc : Nat} {a : Addr} {sn sc : Nat} {ty sT tt e sz s : Nat} {z : List Value} (vs : List Value) (ho : o.op = .call c) (hc : c.callee = .builtin .copy) (ha : lookL X.n f c.args.toList = some [.slice (some ⟨g, od, none⟩) dn dc, .slice (some a) sn sc]) (hat : c.argTypes.toList = [ty, sT])
 (hty : tfind X.T ty = some ⟨tt, .slice e sz, s, z⟩) (hu : Upd (blk g cs T) (blk g (lay cs od vs) T) O O') (hs : SrcC X O R a vs) (hn : vs.length = Nat.min sn dn * sz) (hfit : od + vs.length ≤ cs.length) (h1 : ∀ v ∈ vs, v.oneCell' = true)
 (hg : N ((dd, goInt (Nat.min sn dn)) :: f) O' R) : Mv X f O R o N := fun ac w hr hk K Q hK => by
 have hargs := zaR hr ha
 obtain ⟨ca, args, tys⟩ := c
 obtain ⟨args⟩ := args
 obtain ⟨tys⟩ := tys
 simp only at hc hat hargs
 subst hc
 obtain ⟨ht, hk1⟩ := zal hT hty
 simp only at ht
 subst ht
 obtain ⟨hu1, hs1⟩ := za7 hk1.d
 have hb : w.heap[g]? = some (.cells cs.toArray T (0, 0)) := hk.pO _ hu.mem
 match args, hargs with
 | [x, y], hargs =>
   simp at hargs
   obtain ⟨e1, e2⟩ := hargs
   subst hat
   have hrun := zhK (P := X.P) w tt sT o.type e sz g od dn dc a sn sc cs.toArray T vs hu1 hs1 hb hn (hs w hk) (by simpa using hfit) h1
   unfold Oper.wp execOp
   simp only [ho, resolve, invoke, builtin, Sem.run_bind, Sem.run_pure, Result.andThen_ok, List.map_toArray, List.map_cons, List.map_nil, e1, e2, hrun]
   exact hK _ _ _ _ _ hg (hr.put1 hd _) (Kn.setRow hk hu)
 | [], hargs => simp at hargs
 | [_], hargs => simp at hargs
 | _ :: _ :: _ :: _, hargs => simp at hargs
theorem zli {dd : Nat} (hd : o.dst = some dd) {c : Call} {n cc : Nat} {a : Addr} {m mc : Nat} {t sz bytes : Nat} (vs : List Value) (ho : o.op = .call c) (hc : c.callee = .builtin .append) (ha : lookL X.n f c.args.toList = some [.slice (some ⟨g, 0, none⟩) n cc, .slice (some a) m mc]) (hat : c.argTypes.toList = [t, t])
 (hE : Elt X.P t T sz bytes) (hu : Upd (blk g cs T) (blk g (lay cs (n * sz) vs) T) O O') (hs : SrcC X O R a vs) (hn : vs.length = m * sz) (hroom : n + m ≤ cc) (hfit : n * sz + vs.length ≤ cs.length) (h1 : ∀ v ∈ vs, v.oneCell' = true)
 (hg : N ((dd, .slice (some ⟨g, 0, none⟩) (n + m) cc) :: f) O' R) : Mv X f O R o N := fun ac w hr hk K Q hK => by
 have hargs := zaR hr ha
 obtain ⟨ca, args, tys⟩ := c
 obtain ⟨args⟩ := args
 obtain ⟨tys⟩ := tys
 simp only at hc hat hargs
 subst hc
 obtain ⟨i, z, hi, hz, hsz, hby, hzs⟩ := hE.hi
 subst hsz
 have hb : w.heap[g]? = some (.cells cs.toArray T (0, 0)) := hk.pO _ hu.mem
 match args, hargs with
 | [x, y], hargs =>
   simp at hargs
   obtain ⟨e1, e2⟩ := hargs
   subst hat
   have hrun := run_append_room (P := X.P) w t o.type T i hE.ht hi g n cc cs.toArray hb a m mc vs hn (hs w hk) h1 hroom (by simpa using hfit)
   unfold Oper.wp execOp
   simp only [ho, resolve, invoke, builtin, Sem.run_bind, Sem.run_pure, Result.andThen_ok, List.map_toArray, List.map_cons, List.map_nil, e1, e2, hrun]
   exact hK _ _ _ _ _ hg (hr.put1 hd _) (Kn.setRow hk hu)
 | [], hargs => simp at hargs
 | [_], hargs => simp at hargs
 | _ :: _ :: _ :: _, hargs => simp at hargs
theorem zgX {P : Program} (w : World) (t ty e : TypeId) (sz : Nat) (g o m mc : Nat) (cur : Array Value) (tt : TypeId) (z : Value)
 (hu : P.underlying t = some (.slice e)) (hz : ∀ w, (zeroValue e).run P w = .ok z w) (hzs : z.cells.size = sz) (hg : w.heap[g]? = some (.cells cur tt (0, 0))) (hfit : o + m * sz ≤ cur.size) (h1 : ∀ v ∈ z.cells, v.oneCell' = true) :
 ∃ vs : List Value, vs.length = m * sz ∧ (Builtin.clear_ #[t] ty #[.slice (some ⟨g, o, none⟩) m mc]).run P w = .ok (.tuple #[]) (w.setRow g (cur.toList.take o ++ vs ++ cur.toList.drop (o + vs.length)).toArray) := by
 rcases Nat.eq_zero_or_pos m with h0 | h0
 ·subst h0
  refine ⟨[], by simp, ?_⟩
  simp only [List.append_nil, List.length_nil, Nat.add_zero, List.take_append_drop, Array.toArray_toList]
  rw [setRow_self w g cur tt (0, 0) hg]
  simp [Builtin.clear_, run_underlying hu]
 ·have hl : (Builtin.zeroCells z.cells m).toList.length = m * sz := by simp [Builtin.zeroCells, hzs]
  refine ⟨(Builtin.zeroCells z.cells m).toList, hl, ?_⟩
  have hst := run_storeCells_at P g o tt (Builtin.zeroCells z.cells m).toList 0 cur w hg (by rw [hl]; simpa using hfit) (fun v hv => by
   obtain ⟨j, hj, rfl⟩ : ∃ j, j < m * z.cells.size ∧ z.cells[j % z.cells.size]! = v := by simpa [Builtin.zeroCells] using hv
   have hp : 0 < z.cells.size := by
    rcases Nat.eq_zero_or_pos z.cells.size with h | h
    ·rw [h] at hj; omega
    ·exact h
   have hl : j % z.cells.size < z.cells.size := Nat.mod_lt _ hp
   rw [getElem!_pos z.cells _ hl]
   exact h1 _ (Array.getElem_mem hl))
  have hm : m ≠ 0 := by omega
  obtain ⟨m', rfl⟩ : ∃ m', m = m' + 1 := ⟨m - 1, by omega⟩
  simp [Builtin.clear_, run_underlying hu, hz, hst]
theorem zgc (hd : o.dst = none) (hT : TabOk X.P X.T) {c : Call} {od m mc : Nat} {ty tt e sz s : Nat} {z : List Value} {CS : List Value → List Fact} (ho : o.op = .call c) (hc : c.callee = .builtin .clear) (ha : lookL X.n f c.args.toList = some [.slice (some ⟨g, od, none⟩) m mc]) (hat : c.argTypes.toList = [ty])
 (hty : tfind X.T ty = some ⟨tt, .slice e sz, s, z⟩) (hz : ∃ u, (∀ w, (zeroValue e).run X.P w = .ok u w) ∧ u.cells.size = sz ∧ ∀ v ∈ u.cells, v.oneCell' = true) (hu : ∀ vs, Upd (blk g cs T) (blk g (lay cs od vs) T) O (CS vs)) (hfit : od + m * sz ≤ cs.length)
 (hg : ∀ vs : List Value, vs.length = m * sz → N f (CS vs) R) : Mv X f O R o N := fun ac w hr hk K Q hK => by
 have hargs := zaR hr ha
 obtain ⟨ca, args, tys⟩ := c
 obtain ⟨args⟩ := args
 obtain ⟨tys⟩ := tys
 simp only at hc hat hargs
 subst hc
 obtain ⟨ht, hk1⟩ := zal hT hty
 simp only at ht
 subst ht
 obtain ⟨hu1, hs1⟩ := za7 hk1.d
 obtain ⟨u, hz1, hz2, hz3⟩ := hz
 have hb : w.heap[g]? = some (.cells cs.toArray T (0, 0)) := hk.pO _ (hu []).mem
 match args, hargs with
 | [x], hargs =>
   simp at hargs
   subst hat
   obtain ⟨vs, hl, hrun⟩ := zgX (P := X.P) w tt o.type e sz g od m mc cs.toArray T u hu1 hz1 hz2 hb (by simpa using hfit) hz3
   unfold Oper.wp execOp
   simp only [ho, resolve, invoke, builtin, Sem.run_bind, Sem.run_pure, Result.andThen_ok, List.map_toArray, List.map_cons, List.map_nil, hargs, hrun]
   exact hK _ _ _ _ _ (hg vs hl) (hr.put0 hd _) (Kn.setRow hk (hu vs))
 | [], hargs => simp at hargs
 | _ :: _ :: _, hargs => simp at hargs
theorem znn {α : Type} [Inhabited α] {base e sz n c g : Nat} {enc : α → Nat → Value} {L : List α} (hsz : 0 < sz) (h : OwnL w base e sz (.slice (some ⟨g, 0, none⟩) n c) enc L) :
 ∃ rest : List Value, w.heap[g]? = some (.cells (flatF sz enc L ++ rest).toArray e (0, 0)) ∧ (flatF sz enc L ++ rest).length = c * sz ∧ n = L.length ∧ n ≤ c ∧ c ≤ maxLen ∧ base ≤ g := by
 obtain ⟨h1, h2⟩ := h
 rcases h2 with ⟨h3, _⟩ | ⟨g', cap, cur, hv, hb, hg, hn, hm, hs, ht⟩
 ·cases h3
 ·injection hv with e1 e2 e3
  injection e1 with e1
  injection e1 with e1
  subst e1 e2 e3
  rw [zme sz enc hsz] at ht
  refine ⟨cur.toList.drop (L.length * sz), ?_, ?_, rfl, hn, hm, hb⟩
  ·rw [← ht, List.take_append_drop, Array.toArray_toList]; exact hg
  ·rw [← ht, List.take_append_drop]; simpa using hs
theorem znm {α : Type} [Inhabited α] {base e sz n c g : Nat} {enc : α → Nat → Value} {L : List α} {cs : List Value} (hsz : 0 < sz) (hg : w.heap[g]? = some (.cells cs.toArray e (0, 0))) (hl : cs.length = c * sz) (hn : n = L.length) (hnc : n ≤ c) (hm : c ≤ maxLen) (hb : base ≤ g) (ht : cs.take (n * sz) = flatF sz enc L) :
 OwnL w base e sz (.slice (some ⟨g, 0, none⟩) n c) enc L := by
 subst hn
 refine ⟨by rw [zaN], .inr ⟨g, c, cs.toArray, rfl, hb, hg, hnc, hm, by simpa using hl, ?_⟩⟩
 rw [zme sz enc hsz]
 simpa using ht
theorem Kn.zhR {O'' : List Value → List Fact} {α : Type} [Inhabited α] {base e sz n c : Nat} {enc : α → Nat → Value} {L : List α} (hsz : 0 < sz) (h : Kn E w0 w O R) (hu : ∀ cs, Upd (own base e sz (.slice (some ⟨g, 0, none⟩) n c) enc L) (blk g cs e) O (O'' cs)) :
 ∃ rest : List Value, Kn E w0 w (O'' (flatF sz enc L ++ rest)) R ∧ (flatF sz enc L ++ rest).length = c * sz ∧ n = L.length ∧ n ≤ c ∧ c ≤ maxLen ∧ base ≤ g := by
 obtain ⟨rest, h1, h2, h3, h4, h5, h6⟩ := znn hsz (h.pO _ (hu []).mem)
 refine ⟨rest, h.upd (hu _) rfl rfl rfl (Nat.le_refl _) (fun _ _ _ => rfl) h1 (fun b hb => ?_), h2, h3, h4, h5, h6⟩
 have hbg : b = g := hb
 subst hbg
 exact ⟨.inl rfl, h.ltO _ (hu []).mem b rfl⟩
theorem Kn.zin {α : Type} [Inhabited α] {base e sz n c : Nat} {enc : α → Nat → Value} {L : List α} {cs : List Value} (hsz : 0 < sz) (h : Kn E w0 w O R) (hl : cs.length = c * sz) (hn : n = L.length) (hnc : n ≤ c) (hm : c ≤ maxLen) (hb : base ≤ g) (ht : cs.take (n * sz) = flatF sz enc L) (hu : Upd (blk g cs e) (own base e sz (.slice (some ⟨g, 0, none⟩) n c) enc L) O O') : Kn E w0 w O' R := by
 refine h.upd hu rfl rfl rfl (Nat.le_refl _) (fun _ _ _ => rfl) (znm hsz (h.pO _ hu.mem) hl hn hnc hm hb ht) (fun b hb => ?_)
 have hbg : g = b := by
  have h1 : (Value.slice (some ⟨g, 0, none⟩) n c).ownBlock = some b := hb
  simpa [Value.ownBlock] using h1
 subst hbg
 exact ⟨.inl rfl, h.ltO _ hu.mem g rfl⟩
theorem zkb {α : Type} [Inhabited α] {base e sz n c : Nat} {enc : α → Nat → Value} {L : List α} {OO : List Value → List Fact} (hsz : 0 < sz) (hu : ∀ cs, Upd (own base e sz (.slice (some ⟨g, 0, none⟩) n c) enc L) (blk g cs e) O (OO cs))
 (hg : ∀ rest : List Value, (flatF sz enc L ++ rest).length = c * sz → n = L.length → n ≤ c → c ≤ maxLen → base ≤ g → GK X ks f (OO (flatF sz enc L ++ rest)) R) : GK X ks f O R := .mk fun a w hr hk => by
 obtain ⟨rest, h1, h2, h3, h4, h5, h6⟩ := Kn.zhR (O'' := OO) hsz hk hu
 exact (hg rest h2 h3 h4 h5 h6).out a w hr h1
theorem zbD {α : Type} [Inhabited α] {base e sz n c : Nat} {enc : α → Nat → Value} {L : List α} {OO : List Value → List Fact} (hsz : 0 < sz) (hu : ∀ cs, Upd (own base e sz (.slice (some ⟨g, 0, none⟩) n c) enc L) (blk g cs e) O (OO cs))
 (hg : ∀ rest : List Value, (flatF sz enc L ++ rest).length = c * sz → n = L.length → n ≤ c → c ≤ maxLen → base ≤ g → G X ops lo k f (OO (flatF sz enc L ++ rest)) R) : G X ops lo k f O R := .mk fun a w hr hk => by
 obtain ⟨rest, h1, h2, h3, h4, h5, h6⟩ := Kn.zhR (O'' := OO) hsz hk hu
 exact (hg rest h2 h3 h4 h5 h6).out a w hr h1
theorem zbg {α : Type} [Inhabited α] {base e sz n c : Nat} {enc : α → Nat → Value} {cs : List Value} (L : List α) (hsz : 0 < sz) (hu : Upd (blk g cs e) (own base e sz (.slice (some ⟨g, 0, none⟩) n c) enc L) O O') (hl : cs.length = c * sz) (hn : n = L.length) (hnc : n ≤ c) (hm : c ≤ maxLen) (hb : base ≤ g) (ht : cs.take (n * sz) = flatF sz enc L)
 (hg : GK X ks f O' R) : GK X ks f O R := .mk fun a w hr hk => hg.out a w hr (Kn.zin hsz hk hl hn hnc hm hb ht hu)
theorem ze0 {α : Type} [Inhabited α] {base e sz n c : Nat} {enc : α → Nat → Value} {cs : List Value} (L : List α) (hsz : 0 < sz) (hu : Upd (blk g cs e) (own base e sz (.slice (some ⟨g, 0, none⟩) n c) enc L) O O') (hl : cs.length = c * sz) (hn : n = L.length) (hnc : n ≤ c) (hm : c ≤ maxLen) (hb : base ≤ g) (ht : cs.take (n * sz) = flatF sz enc L)
 (hg : G X ops lo k f O' R) : G X ops lo k f O R := .mk fun a w hr hk => hg.out a w hr (Kn.zin hsz hk hl hn hnc hm hb ht hu)
end
end Go.Proofs.YtaghmffgoomebaaGreat.Gx
namespace Go.Proofs.YtaghmffgoomebaaGreat.Gx
open Go.RowKit Mem
section
variable {X : Cx} {f : Fr} {O O' R : List Fact} {ks k : List KI} {ops lo : List Oper} {E : List Nat} {w0 w w' : World} {o : Oper} {N : Fr → List Fact → List Fact → Prop} {g T : Nat} {cs : List Value}
theorem ziZ {dd : Nat} (hd : o.dst = some dd) {c : Call} {n cc j t tn sz bytes : Nat} {kq kn : IntKind} {iv : Int} (ho : o.op = .call c) (hc : c.callee = .builtin .append) (ha : lookL X.n f c.args.toList = some [.slice (some ⟨g, 0, none⟩) n cc, .int kq iv]) (hat : c.argTypes.toList = [t, tn])
 (hE : Elt X.P t T sz bytes) (htn : X.P.underlying tn = some (.int kn)) (hm : blk g cs T ∈ O) (hj : iv = j) (h0 : 0 < j) (hroom : cc < n + j) (hfit : n * sz ≤ cs.length) (h63 : n + j ≤ maxLen) (hbytes : (n + j) * bytes ≤ 140737488355328)
 (hg : ∀ (g' cap : Nat) (zs : List Value), X.w0.heap.size ≤ g' → n + j ≤ cap → cap ≤ maxLen → zs.length = (cap - n) * sz → N ((dd, .slice (some ⟨g', 0, none⟩) (n + j) cap) :: f) (blk g' (cs.take (n * sz) ++ zs) T :: O) R) : Mv X f O R o N := fun ac w hr hk K Q hK => by
 have hargs := zaR hr ha
 obtain ⟨ca, args, tys⟩ := c
 obtain ⟨args⟩ := args
 obtain ⟨tys⟩ := tys
 simp only at hc hat hargs
 subst hc
 obtain ⟨i, z, hi, hz, hsz, hby, hzs⟩ := hE.hi
 have hpos := hE.pos
 subst hsz
 subst hby
 have hb : w.heap[g]? = some (.cells cs.toArray T (0, 0)) := hk.pO _ hm
 match args, hargs with
 | [x, y], hargs =>
   simp at hargs
   obtain ⟨e1, e2⟩ := hargs
   subst hat
   subst hj
   have hl : (cs.take (n * i.size)).length = n * i.size := by rw [List.length_take]; omega
   have hold : (Builtin.firstCells i.size n (.slice (some ⟨g, 0, none⟩) n cc)).run X.P w.drew = .ok (cs.take (n * i.size)).toArray w.drew :=
    run_firstCells_some (P := X.P) w.drew i.size n ⟨g, 0, none⟩ n cc _ hl (fun q v hv => by
     have hq : q < n * i.size := by have := (List.getElem?_eq_some_iff.1 hv).1; omega
     rw [List.getElem?_take, if_pos hq] at hv
     rw [zjJ, Nat.zero_add]
     show w.cell? ⟨g, q, none⟩ = some v
     rw [cell_of_row w g q cs.toArray T (0, 0) hb]
     simpa using hv)
   have hmx : n + j ≤ 9223372036854775807 := by unfold maxLen at h63; omega
   have hjb : j * i.bytes ≤ (n + j) * i.bytes := Nat.mul_le_mul_right _ (by omega)
   have hrun := Lib.run_append_grow_zeros (P := X.P) w t tn o.type T i z kq kn hE.ht htn hi hz (some ⟨g, 0, none⟩) n cc _ hold j h0 hpos hroom (by omega) (by omega) (growslice_fits (by omega) hbytes)
   have hge := grownCap_ge w (n + j) cc T
   have hcm := grownCap_le_maxLen w (n + j) cc T h63
   obtain ⟨zs, hzl, e3⟩ : ∃ zs : List Value, zs.length = (grownCap w (n + j) cc T - n) * i.size ∧ (cs.take (n * i.size)).toArray ++ Builtin.zeroCells z.cells j ++ Builtin.zeroCells z.cells (grownCap w (n + j) cc T - (n + j)) = (cs.take (n * i.size) ++ zs).toArray := by
    refine ⟨(Builtin.zeroCells z.cells j).toList ++ (Builtin.zeroCells z.cells (grownCap w (n + j) cc T - (n + j))).toList, ?_, ?_⟩
    ·rw [List.length_append]
     simp only [Array.length_toList, Go.size_zeroCells, hzs]
     rw [← Nat.add_mul]
     congr 1
     omega
    ·apply Array.ext'
     simp
   rw [e3] at hrun
   unfold Oper.wp execOp
   simp only [ho, resolve, invoke, builtin, Sem.run_bind, Sem.run_pure, Result.andThen_ok, List.map_toArray, List.map_cons, List.map_nil, e1, e2, hrun]
   exact hK _ _ _ _ _ (hg w.heap.size _ zs hk.size hge hcm hzl) (hr.put1 hd _) (Kn.alloc (hk.below (zbj (Below.refl _ _))) _ T)
 | [], hargs => simp at hargs
 | [_], hargs => simp at hargs
 | _ :: _ :: _ :: _, hargs => simp at hargs
theorem zhX {dd : Nat} (hd : o.dst = some dd) {c : Call} {x : Operand} {fid : Nat} {fn : Func} {g1 g2 o1 o2 la ca lb cb tS tR e sz T1 T2 : Nat} {cs1 cs2 : List Value} (ho : o.op = .call c) (hc : c.callee = .value x) (hx : look X.n f x = some (.func (.func fid) #[] #[]))
 (ha : lookL X.n f c.args.toList = some [.slice (some ⟨g1, o1, none⟩) la ca, .slice (some ⟨g2, o2, none⟩) lb cb]) (hf : X.P.funcs[fid]? = some fn) (hname : (fn.name == "runtime.NumGoroutine") = false) (hb : fn.body.isNone = true) (hn : Extern.findNext fn = none) (he : Extern.find fn = some (Extern.SlicesOverlaps.overlaps #[tS, tS] #[tR]))
 (ht : X.P.underlying tS = some (.slice e)) (hz : szIs X.P e sz = true) (h1 : blk g1 cs1 T1 ∈ R) (h2 : blk g2 cs2 T2 ∈ O) (hk2 : cs2.length ≠ 0) (hg : N ((dd, .bool false) :: f) O R) : Mv X f O R o N := fun ac w hr hk K Q hK => by
 have ha' := zaR hr ha
 have hx' := hr.look hx
 have hb1 : w.heap[g1]? = some (.cells cs1.toArray T1 (0, 0)) := hk.pR _ h1
 have hb2 : w.heap[g2]? = some (.cells cs2.toArray T2 (0, 0)) := hk.pO _ h2
 have hne : g1 ≠ g2 := fun h => hk.disR _ h2 _ h1 g2 rfl h.symm
 have hs1 : w.shape? g1 = some (T1, cs1.toArray.size) := by unfold World.shape?; rw [hb1]
 have hs2 : w.shape? g2 = some (T2, cs2.toArray.size) := by unfold World.shape?; rw [hb2]
 have hov := Lib.run_overlaps_apart (P := X.P) w tS tR e ht sz (fun w => run_sizeOf hz w) ⟨g1, o1, none⟩ ⟨g2, o2, none⟩ la ca lb cb hne T1 T2 _ _ hs1 hs2 (by simpa using hk2) (by unfold World.frozen?; rw [hb1]; simp) (by unfold World.frozen?; rw [hb1]; simp)
 have hcall := run_callFunc_extern (P := X.P) hf hname hb hn he #[.slice (some ⟨g1, o1, none⟩) la ca, .slice (some ⟨g2, o2, none⟩) lb cb] w
 rw [hov] at hcall
 obtain ⟨cal, args, tys⟩ := c
 simp only at hc ha'
 subst hc
 have e' : args.map ac.eval = #[.slice (some ⟨g1, o1, none⟩) la ca, .slice (some ⟨g2, o2, none⟩) lb cb] := by apply Array.ext'; simpa using ha'
 unfold Oper.wp
 have : (execOp ac.eval o).run X.P w = .ok (.value (.bool false)) w := by
  simp [execOp, ho, resolve, hx', Deferred.ofValue, invoke, e', hcall]
 rw [this]
 exact hK _ _ _ _ _ hg (hr.put1 hd _) hk
theorem zcf {o m : Nat} (h : blk g cs T ∈ R) (vs : List Value) (he : vs = (cs.drop o).take m) : SrcC X O R ⟨g, o, none⟩ vs := fun w hk j v hv => by
 have hb : w.heap[g]? = some (.cells cs.toArray T (0, 0)) := hk.pR _ h
 rw [zjJ, cell_of_row w g _ cs.toArray T (0, 0) hb]
 subst he
 have hj : j < ((cs.drop o).take m).length := (List.getElem?_eq_some_iff.1 hv).1
 rw [List.length_take] at hj
 rw [List.getElem?_take, if_pos (by omega), List.getElem?_drop] at hv
 simpa using hv
theorem zm9 {a : Addr} : SrcC X O R a [] := fun w hk j v hv => by simp at hv
theorem zbo {g l m s : Nat} (h : m ≠ l) : shA (some ⟨g, 0, none⟩) l m s = some ⟨g, l * s, none⟩ := by
 unfold shA; rw [if_neg h, Option.map_some, zjJ, Nat.zero_add]
theorem zgQ {A : Option Addr} {m s : Nat} : shA A 0 m s = A := by
 unfold shA
 split
 ·rfl
 ·cases A with
  | none => rfl
  | some a => rw [Option.map_some, Nat.zero_mul]; unfold Addr.add; rw [if_pos rfl]
theorem zkG {g l m s : Nat} : ∃ o, shA (some ⟨g, 0, none⟩) l m s = some ⟨g, o, none⟩ ∧ (m ≠ l → o = l * s) := by
 by_cases h : m = l
 ·exact ⟨0, by unfold shA; rw [if_pos h], fun h' => absurd h h'⟩
 ·exact ⟨l * s, zbo h, fun _ => rfl⟩
theorem zgI (hT : TabOk X.P X.T) {S : List Fact} {ty t e sz s : Nat} {z : List Value} {x lo hi mx : Operand} {A : Option Addr} {n c : Nat} {kl kh km : IntKind} {iv ih im : Int} (j h m : Nat) (ho : o.op = .slice ty x (some lo) (some hi) (some mx)) (hx : look X.n f x = some (.slice A n c)) (hl : look X.n f lo = some (.int kl iv)) (hh : look X.n f hi = some (.int kh ih)) (hmx : look X.n f mx = some (.int km im)) (hty : tfind X.T ty = some ⟨t, .slice e sz, s, z⟩)
 (hj : iv = j) (hih : ih = h) (him : im = m) (hjh : j ≤ h) (hhm : h ≤ m) (hmc : m ≤ c) : Ys X S f o (.slice (shA A j m sz) (h - j) (m - j)) := fun a w hr hk => by
 obtain ⟨ht, hk1⟩ := zal hT hty
 simp only at ht
 subst ht
 subst hj
 subst hih
 subst him
 obtain ⟨hu0, hes⟩ := za7 hk1.d
 have hu : X.P.underlying t = some (.slice e) := hu0
 obtain ⟨h1, h2⟩ := ziJ hu hes w A n c
 have h3 := run_slice_lhm (P := X.P) (w := w) t A n c h1 kl kh km (j : Int) (h : Int) (m : Int) (by omega) (by omega) (by omega) (by omega)
 rw [h2] at h3
 simp only [Result.andThen_ok, sliced, Int.toNat_natCast] at h3
 simp [execOp, ho, hr.look hx, hr.look hl, hr.look hh, hr.look hmx, run_sliceAt_slice (P := X.P) w t _ _ _ _ h1, h3, shA]
theorem zbq (hT : TabOk X.P X.T) {ty : Nat} {ad vl : Operand} {off t sz : Nat} {d : TD} {z vs : List Value} {v : Value} (ho : o.op = .store ty ad vl)
 (hx : look X.n f ad = some (.pointer (some ⟨g, off, none⟩))) (hv : look X.n f vl = some v) (hty : tfind X.T ty = some ⟨t, d, sz, z⟩) (hc : cellsN v sz (agg? d) = some vs) (h1 : vs.all oneB = true) (hu : Upd (blk g cs T) (blk g (lay cs off vs) T) O O') (hfit : off + vs.length ≤ cs.length)
 (hd : o.dst = none) (hg : N f O' R) : Mv X f O R o N := fun a w hr hk K Q hK => by
 unfold Oper.wp
 have hty' := zal hT hty
 have e1 := hty'.1
 simp only at e1
 subst e1
 obtain ⟨c1, c2, _⟩ := ze9 hc
 have hb : w.heap[g]? = some (.cells cs.toArray T (0, 0)) := hk.pO _ hu.mem
 have r1 := run_storeCells_at X.P g off T vs 0 cs.toArray w hb (by simpa using hfit) (fun x hx' => zpm (List.all_eq_true.1 h1 x hx'))
 have hsz : v.cells.size = sz := by rw [← Array.length_toList, c1, c2]
 have : (execOp a.eval o).run X.P w = .ok .skip (w.setRow g (lay cs off vs).toArray) := by
  simp only [Nat.add_zero] at r1
  simp [execOp, ho, hr.look hx, hr.look hv, Instr.storeAt, Instr.sureAddr, storeVar, run_sizeOf hty'.2.sz w, hsz, c1, r1, lay]
 rw [this]
 exact hK _ _ _ _ _ hg (hr.put0 hd _) (Kn.setRow hk hu)
theorem zbl (A zs vs : List Value) {o : Nat} (ho : o = A.length) : lay (A ++ zs) o vs = A ++ vs ++ zs.drop vs.length := by
 subst ho
 unfold lay
 rw [List.take_left, ← List.drop_drop, List.drop_left]
theorem zja (A zs vs : List Value) {o k : Nat} (ho : o = A.length + k) : lay (A ++ zs) o vs = A ++ lay zs k vs := by
 subst ho
 unfold lay
 rw [List.take_length_add_append, Nat.add_assoc, List.drop_length_add_append]
 simp [List.append_assoc]
theorem ziG {α : Type} [Inhabited α] {sz : Nat} {enc : α → Nat → Value} {M : List α} (h : blk g cs T ∈ R) (he : cs = flatF sz enc M) : Src X O R (some ⟨g, 0, none⟩) sz enc M := fun w hk hn => by
 have hb : w.heap[g]? = some (.cells cs.toArray T (0, 0)) := hk.pR _ h
 refine ⟨g, 0, rfl, fun i hi j hj => ?_⟩
 have hy : M[i]? = some M[i] := List.getElem?_eq_getElem hi
 rw [Nat.zero_add, cell_of_row w g _ cs.toArray T (0, 0) hb, zfg hy, he]
 simpa using zbe sz enc M i j _ hy hj
theorem Kn.outG' {α : Type} [Inhabited α] {base e sz b n c off : Nat} {v : Value} {enc : α → Nat → Value} {L : List α} (h : Kn (ownE v) w0 w O R) (hm : own base e sz (.slice (some ⟨b, off, none⟩) n c) enc L ∈ O) : OwnL w base e sz (.slice (some ⟨b, off, none⟩) n c) enc L ∧ Grew w0 w v (.slice (some ⟨b, off, none⟩) n c) := by
 have ho : OwnL w base e sz (.slice (some ⟨b, off, none⟩) n c) enc L := h.pO _ hm
 refine ⟨ho, ⟨h.os, h.tape, h.output, h.size, fun i hi hne => h.block i hi (fun hE => hne (zcx.1 hE).symm)⟩, ?_⟩
 have hb : (Value.slice (some ⟨b, off, none⟩) n c).ownBlock = some b := rfl
 rcases h.ownS _ hm b hb with h1 | h1
 ·exact .inr ⟨b, hb, h1⟩
 ·exact .inl (hb.trans (zcx.1 h1).symm)
theorem ziv {S : List Fact} (hT : TabOk X.P X.T) {c : Call} {A : Option Addr} {n cc ty tt e sz s : Nat} {z : List Value} (ho : o.op = .call c) (hc : c.callee = .builtin .cap) (ha : lookL X.n f c.args.toList = some [.slice A n cc]) (hat : c.argTypes.toList = [ty]) (hty : tfind X.T ty = some ⟨tt, .slice e sz, s, z⟩) : Ys X S f o (.int .i64 (cc : Int)) := fun ac w hr _ => by
 have hargs := zaR hr ha
 obtain ⟨ca, args, tys⟩ := c
 obtain ⟨args⟩ := args
 obtain ⟨tys⟩ := tys
 simp only at hc hat hargs
 subst hc
 obtain ⟨ht, hk1⟩ := zal hT hty
 simp only at ht
 subst ht
 obtain ⟨hu1, hs1⟩ := za7 hk1.d
 match args, hargs with
 | [x], hargs =>
   simp at hargs
   subst hat
   have hrun : (Builtin.cap_ #[tt] o.type #[.slice A n cc]).run X.P w = .ok (.int .i64 (cc : Int)) w := by
    simp [Builtin.cap_, goInt, run_underlying hu1]
   unfold execOp
   simp only [ho, resolve, invoke, builtin, Sem.run_bind, Sem.run_pure, Result.andThen_ok, List.map_toArray, List.map_cons, List.map_nil, hargs, hrun]
 | [], hargs => simp at hargs
 | _ :: _ :: _, hargs => simp at hargs
theorem zbZ {α : Type} [Inhabited α] {e base sz : Nat} {v : Value} {enc : α → Nat → Value} {L M : List α} {OO : Value → List Fact} {fid : Nat} {args : List Value} (h : ∀ w, Kn X.E X.w0 w O R → Calls X.P fid args.toArray w (fun e' w' => ∃ v', e' = .returned v' ∧ OwnL w' base e sz v' enc M ∧ Grew w w' v v')) {dd : Nat} (hd : o.dst = some dd) {c : Call} {x : Operand} (ho : o.op = .call c) (hc : c.callee = .value x) (hx : look X.n f x = some (.func (.func fid) #[] #[])) (ha : lookL X.n f c.args.toList = some args) (hok : callable X.P fid = true)
 (hu : ∀ v', Upd (own base e sz v enc L) (own base e sz v' enc M) O (OO v')) (hg : ∀ v', N ((dd, v') :: f) (OO v') R) : Mv X f O R o N :=
 zce hd ho hc hx ha hok fun w hk => (h w hk).mono fun e w' ⟨v', he, h2, h3⟩ => ⟨v', _, _, he, Kn.grew hk h3 h2 (hu v'), hg v'⟩
theorem zeH {α : Type} [Inhabited α] {base e sz : Nat} {v : Value} {enc : α → Nat → Value} {L : List α} (h : OwnL w base e sz v enc L) (hL : 0 < L.length) : ∃ b c, v = .slice (some ⟨b, 0, none⟩) L.length c ∧ L.length ≤ c ∧ c ≤ maxLen := by
 rcases h.2 with ⟨_, h2⟩ | ⟨g, cap, cur, hv, hb, hg, hn, hm, _⟩
 ·omega
 ·exact ⟨g, cap, hv, hn, hm⟩
theorem zgo {α : Type} [Inhabited α] {base e sz : Nat} (v : Value) {enc : α → Nat → Value} {L : List α} (hm : own base e sz v enc L ∈ O) (hL : 0 < L.length)
 (hg : ∀ b c, v = .slice (some ⟨b, 0, none⟩) L.length c → L.length ≤ c → c ≤ maxLen → GK X ks f O R) : GK X ks f O R := .mk fun a w hr hk => by
 obtain ⟨b, c, h1, h2, h3⟩ := zeH (hk.pO _ hm : OwnL w base e sz v enc L) hL
 exact (hg b c h1 h2 h3).out a w hr hk
theorem zl7 {α : Type} [Inhabited α] {base e sz : Nat} (v : Value) {enc : α → Nat → Value} {L : List α} (hm : own base e sz v enc L ∈ O) (hL : 0 < L.length)
 (hg : ∀ b c, v = .slice (some ⟨b, 0, none⟩) L.length c → L.length ≤ c → c ≤ maxLen → G X ops lo k f O R) : G X ops lo k f O R := .mk fun a w hr hk => by
 obtain ⟨b, c, h1, h2, h3⟩ := zeH (hk.pO _ hm : OwnL w base e sz v enc L) hL
 exact (hg b c h1 h2 h3).out a w hr hk
end
end Go.Proofs.YtaghmffgoomebaaGreat.Gx
namespace Go.Proofs.YtaghmffgoomebaaGreat.Gx
open Go.RowKit Mem
section
variable {X : Cx} {f : Fr} {O R : List Fact} {ks k : List KI} {ops rest : List Oper} {o : Oper} {S : List Fact} {g Tg : Nat} {cs : List Value}
theorem zaA (hT : TabOk X.P X.T) {ty : Nat} {x : Operand} {off t sz : Nat} {d : TD} {z : List Value} {v : Value} (vs : List Value) (ho : o.op = .load ty x) (hx : look X.n f x = some (.pointer (some ⟨g, off, none⟩)))
 (hm : blk g cs Tg ∈ S) (hvs : ∀ i v, vs[i]? = some v → cs[off + i]? = some v) (hty : tfind X.T ty = some ⟨t, d, sz, z⟩) (hv : loadV (agg? d) sz vs 0 = some v) : Ys X S f o v := fun a w hr hS => by
 have hb : w.heap[g]? = some (.cells cs.toArray Tg (0, 0)) := hS _ hm
 have hty' := zal hT hty
 have e1 := hty'.1
 simp only at e1
 subst e1
 have := zaS hty'.2.d hty'.2.sz w g off vs (fun i u hu => by rw [cell_of_row w g _ cs.toArray Tg (0, 0) hb]; simpa using hvs i u hu) hv
 rw [Nat.add_zero] at this
 simp [execOp, ho, hr.look hx, Instr.loadAt, Instr.sureAddr, this]
end
end Go.Proofs.YtaghmffgoomebaaGreat.Gx
namespace Go.Proofs.YtaghmffgoomebaaGreat.Gx
open Go.RowKit Mem
section
variable {X : Cx} {f : Fr} {O R : List Fact} {ks k : List KI} {ops rest : List Oper} {o : Oper} {N : Fr → List Fact → List Fact → Prop}
theorem zeu {S : List Fact} {fid : Nat} {cs : Array Operand} {vs : List Value} (ho : o.op = .makeFunc (.func fid) #[] cs) (hv : lookL X.n f cs.toList = some vs) : Ys X S f o (.func (.func fid) #[] vs.toArray) := fun ac w hr _ => by
 have e1 : cs.map ac.eval = vs.toArray := by apply Array.ext'; simpa using zaR hr hv
 simp [execOp, ho, Instr.makeFunc, e1]
end
end Go.Proofs.YtaghmffgoomebaaGreat.Gx
