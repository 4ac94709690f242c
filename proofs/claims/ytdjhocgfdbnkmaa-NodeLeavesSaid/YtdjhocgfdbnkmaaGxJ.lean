/- The walk by reckoned steps: rows that are written in place: copy, append where there is room, clear, append of zeros where there is none. -/
import Derived.Test.YtdjhocgfdbnkmaaGxI
import Derived.Laws.CopyRow
import Derived.Laws.AppendOwn
import Derived.Lib.AppendZerosOnto
import Derived.Lib.Overlaps
namespace Go.Proofs.Ytdjhocgfdbnkmaa.Gx
open Go.RowKit Mem
set_option linter.unusedVariables false
set_option linter.unusedSimpArgs false
/-- A list of cells, some of them written. -/
def lay (cs : List Value) (o : Nat) (vs : List Value) : List Value := cs.take o ++ vs ++ cs.drop (o + vs.length)
theorem lay_len {cs vs : List Value} {o : Nat} (h : o + vs.length ≤ cs.length) : (lay cs o vs).length = cs.length := by
  unfold lay; simp only [List.length_append, List.length_take, List.length_drop]; omega
section
variable {α : Type} (sz : Nat) (enc : α → Nat → Value)
theorem flatF_length (L : List α) : (flatF sz enc L).length = L.length * sz := by
  induction L with
  | nil => simp [flatF]
  | cons x r ih => show (encF enc x 0 sz ++ flatF sz enc r).length = _; rw [List.length_append, ih, encF_len, List.length_cons, Nat.succ_mul]; omega
theorem flatF_append (L M : List α) : flatF sz enc (L ++ M) = flatF sz enc L ++ flatF sz enc M := by
  induction L with
  | nil => rfl
  | cons x r ih => show encF enc x 0 sz ++ flatF sz enc (r ++ M) = (encF enc x 0 sz ++ flatF sz enc r) ++ flatF sz enc M; rw [ih, List.append_assoc]
theorem flatF_take (L : List α) (i : Nat) (h : i ≤ L.length) : (flatF sz enc L).take (i * sz) = flatF sz enc (L.take i) := by
  have e : flatF sz enc L = flatF sz enc (L.take i) ++ flatF sz enc (L.drop i) := by rw [← flatF_append, List.take_append_drop]
  rw [e]
  exact List.take_left' (by rw [flatF_length, List.length_take, Nat.min_eq_left h])
theorem flatF_drop (L : List α) (i : Nat) (h : i ≤ L.length) : (flatF sz enc L).drop (i * sz) = flatF sz enc (L.drop i) := by
  have e : flatF sz enc L = flatF sz enc (L.take i) ++ flatF sz enc (L.drop i) := by rw [← flatF_append, List.take_append_drop]
  rw [e]
  exact List.drop_left' (by rw [flatF_length, List.length_take, Nat.min_eq_left h])
theorem flat_LF [Inhabited α] (hsz : 0 < sz) (L : List α) : flat sz (LF enc L) L.length = flatF sz enc L := by
  apply List.ext_getElem?
  intro j
  by_cases hj : j < L.length * sz
  · have h1 : j / sz < L.length := Nat.div_lt_of_lt_mul (by rw [Nat.mul_comm]; exact hj)
    have hy : L[j / sz]? = some L[j / sz] := List.getElem?_eq_getElem h1
    rw [flat_get _ _ _ _ hj, LF_at hy]
    have := flatF_get sz enc L (j / sz) (j % sz) _ hy (Nat.mod_lt _ hsz)
    rw [Nat.mul_comm, Nat.div_add_mod] at this
    rw [this]
  · rw [List.getElem?_eq_none (by rw [flat_length]; omega), List.getElem?_eq_none (by rw [flatF_length]; omega)]
theorem flatF_one [Inhabited α] (h1 : ∀ x j, (enc x j).oneCell' = true) (L : List α) : ∀ v ∈ flatF sz enc L, v.oneCell' = true := by
  intro v hv
  obtain ⟨j, hj⟩ := List.getElem?_of_mem hv
  have hl := (List.getElem?_eq_some_iff.1 hj).1
  rw [flatF_length] at hl
  have hsz : 0 < sz := by
    rcases Nat.eq_zero_or_pos sz with h | h
    · subst h; omega
    · exact h
  have h1' : j / sz < L.length := Nat.div_lt_of_lt_mul (by rw [Nat.mul_comm]; exact hl)
  have hy : L[j / sz]? = some L[j / sz] := List.getElem?_eq_getElem h1'
  have := flatF_get sz enc L (j / sz) (j % sz) _ hy (Nat.mod_lt _ hsz)
  rw [Nat.mul_comm, Nat.div_add_mod] at this
  rw [this] at hj
  injection hj with hj
  rw [← hj]
  exact h1 _ _
end
section
variable {X : Cx} {f : Fr} {O O' R : List Fact} {ks k : List KI} {ops lo : List Oper} {E : List Nat} {w0 w w' : World} {o : Oper} {N : Fr → List Fact → List Fact → Prop} {g T : Nat} {cs : List Value}
/-- A row's cells are others now. -/
theorem Kn.setRow {cs' : List Value} (h : Kn E w0 w O R) (hu : Upd (blk g cs T) (blk g cs' T) O O') : Kn E w0 (w.setRow g cs'.toArray) O' R := by
  have hb : w.heap[g]? = some (.cells cs.toArray T (0, 0)) := h.pO _ hu.mem
  have hsz : (w.setRow g cs'.toArray).heap.size = w.heap.size := by simp [World.setRow]
  refine h.upd hu rfl rfl rfl (by omega) (fun b hb hne => setRow_other w g b _ hne) (setRow_heap w g _ _ T (0, 0) hb) (fun b hb => ⟨.inl hb, ?_⟩)
  rw [hsz]
  exact h.ltO _ hu.mem b hb
/-- Where cells stand that are to be read. -/
def SrcC (X : Cx) (O R : List Fact) (a : Addr) (vs : List Value) : Prop := ∀ w, Kn X.E X.w0 w O R → ∀ j v, vs[j]? = some v → w.cell? (a.add j) = some v
theorem add_at (g o j : Nat) : (⟨g, o, none⟩ : Addr).add j = ⟨g, o + j, none⟩ := by unfold Addr.add; split <;> simp_all
theorem srcc_blk {o m : Nat} (h : blk g cs T ∈ O) (vs : List Value) (he : vs = (cs.drop o).take m) : SrcC X O R ⟨g, o, none⟩ vs := fun w hk j v hv => by
  have hb : w.heap[g]? = some (.cells cs.toArray T (0, 0)) := hk.pO _ h
  rw [add_at, cell_of_row w g _ cs.toArray T (0, 0) hb]
  subst he
  have hj : j < ((cs.drop o).take m).length := (List.getElem?_eq_some_iff.1 hv).1
  rw [List.length_take] at hj
  rw [List.getElem?_take, if_pos (by omega), List.getElem?_drop] at hv
  simpa using hv
theorem srcc_row {b o : Nat} (h : row b o cs ∈ R) : SrcC X O R ⟨b, o, none⟩ cs := fun w hk j v hv => by
  rw [add_at]
  exact hk.pR _ h j v hv
theorem blkR_row {w : World} (hb : w.heap[g]? = some (.cells cs.toArray T (0, 0))) : ∀ i v, cs[i]? = some v → w.cell? ⟨g, 0 + i, none⟩ = some v := fun i v hv => by
  rw [Nat.zero_add, cell_of_row w g i cs.toArray T (0, 0) hb]; simpa using hv
theorem run_copy_sz {P : Program} (w : World) (dT sT ty elem : TypeId) (sz : Nat) (g o : Nat) (dLen dCap : Nat) (a : Addr) (sLen sCap : Nat) (cur : Array Value) (t : TypeId) (vs : List Value)
    (hu : P.underlying dT = some (.slice elem)) (hs : szIs P elem sz = true)
    (hg : w.heap[g]? = some (.cells cur t (0, 0))) (hn : vs.length = Nat.min sLen dLen * sz)
    (hsrc : ∀ j v, vs[j]? = some v → w.cell? (a.add j) = some v) (hfit : o + vs.length ≤ cur.size) (h1 : ∀ v ∈ vs, v.oneCell' = true) :
    (Builtin.copy_ #[dT, sT] ty #[.slice (some ⟨g, o, none⟩) dLen dCap, .slice (some a) sLen sCap]).run P w =
      .ok (goInt (Nat.min sLen dLen)) (w.setRow g (cur.toList.take o ++ vs ++ cur.toList.drop (o + vs.length)).toArray) := by
  have hl := run_loadCells_list (P := P) w a vs hsrc
  have hst := run_storeCells_at P g o t vs 0 cur w hg (by simpa using hfit) h1
  have hz := run_sizeOf hs w
  rw [hn] at hl
  simp [Builtin.copy_, run_underlying hu, Builtin.lenOf, Builtin.firstCells, hz, hl, hst]
theorem mv_copy {dd : Nat} (hd : o.dst = some dd) (hT : TabOk X.P X.T) {c : Call} {od dn dc : Nat} {a : Addr} {sn sc : Nat} {ty sT tt e sz s : Nat} {z : List Value} (vs : List Value) (ho : o.op = .call c) (hc : c.callee = .builtin .copy) (ha : lookL X.n f c.args.toList = some [.slice (some ⟨g, od, none⟩) dn dc, .slice (some a) sn sc]) (hat : c.argTypes.toList = [ty, sT])
    (hty : tfind X.T ty = some ⟨tt, .slice e sz, s, z⟩) (hu : Upd (blk g cs T) (blk g (lay cs od vs) T) O O') (hs : SrcC X O R a vs) (hn : vs.length = Nat.min sn dn * sz) (hfit : od + vs.length ≤ cs.length) (h1 : ∀ v ∈ vs, v.oneCell' = true)
    (hg : N ((dd, goInt (Nat.min sn dn)) :: f) O' R) : Mv X f O R o N := fun ac w hr hk K Q hK => by
  have hargs := lookL_eq hr ha
  obtain ⟨ca, args, tys⟩ := c
  obtain ⟨args⟩ := args
  obtain ⟨tys⟩ := tys
  simp only at hc hat hargs
  subst hc
  obtain ⟨ht, hk1⟩ := tfind_ok hT hty
  simp only at ht
  subst ht
  obtain ⟨hu1, hs1⟩ := chk_slice hk1.d
  have hb : w.heap[g]? = some (.cells cs.toArray T (0, 0)) := hk.pO _ hu.mem
  match args, hargs with
  | [x, y], hargs =>
    simp at hargs
    obtain ⟨e1, e2⟩ := hargs
    subst hat
    have hrun := run_copy_sz (P := X.P) w tt sT o.type e sz g od dn dc a sn sc cs.toArray T vs hu1 hs1 hb hn (hs w hk) (by simpa using hfit) h1
    unfold Oper.wp execOp
    simp only [ho, resolve, invoke, builtin, Sem.run_bind, Sem.run_pure, Result.andThen_ok, List.map_toArray, List.map_cons, List.map_nil, e1, e2, hrun]
    exact hK _ _ _ _ _ hg (hr.put1 hd _) (Kn.setRow hk hu)
  | [], hargs => simp at hargs
  | [_], hargs => simp at hargs
  | _ :: _ :: _ :: _, hargs => simp at hargs
theorem mv_room {dd : Nat} (hd : o.dst = some dd) {c : Call} {n cc : Nat} {a : Addr} {m mc : Nat} {t sz bytes : Nat} (vs : List Value) (ho : o.op = .call c) (hc : c.callee = .builtin .append) (ha : lookL X.n f c.args.toList = some [.slice (some ⟨g, 0, none⟩) n cc, .slice (some a) m mc]) (hat : c.argTypes.toList = [t, t])
    (hE : Elt X.P t T sz bytes) (hu : Upd (blk g cs T) (blk g (lay cs (n * sz) vs) T) O O') (hs : SrcC X O R a vs) (hn : vs.length = m * sz) (hroom : n + m ≤ cc) (hfit : n * sz + vs.length ≤ cs.length) (h1 : ∀ v ∈ vs, v.oneCell' = true)
    (hg : N ((dd, .slice (some ⟨g, 0, none⟩) (n + m) cc) :: f) O' R) : Mv X f O R o N := fun ac w hr hk K Q hK => by
  have hargs := lookL_eq hr ha
  obtain ⟨ca, args, tys⟩ := c
  obtain ⟨args⟩ := args
  obtain ⟨tys⟩ := tys
  simp only at hc hat hargs
  subst hc
  obtain ⟨i, z, hi, hz, hsz, hby, hzs⟩ := hE.hi
  subst hsz
  have hb : w.heap[g]? = some (.cells cs.toArray T (0, 0)) := hk.pO _ hu.mem
  match args, hargs with
  | [x, y], hargs =>
    simp at hargs
    obtain ⟨e1, e2⟩ := hargs
    subst hat
    have hrun := run_append_room (P := X.P) w t o.type T i hE.ht hi g n cc cs.toArray hb a m mc vs hn (hs w hk) h1 hroom (by simpa using hfit)
    unfold Oper.wp execOp
    simp only [ho, resolve, invoke, builtin, Sem.run_bind, Sem.run_pure, Result.andThen_ok, List.map_toArray, List.map_cons, List.map_nil, e1, e2, hrun]
    exact hK _ _ _ _ _ hg (hr.put1 hd _) (Kn.setRow hk hu)
  | [], hargs => simp at hargs
  | [_], hargs => simp at hargs
  | _ :: _ :: _ :: _, hargs => simp at hargs
theorem run_clear_sz {P : Program} (w : World) (t ty e : TypeId) (sz : Nat) (g o m mc : Nat) (cur : Array Value) (tt : TypeId) (z : Value)
    (hu : P.underlying t = some (.slice e)) (hz : ∀ w, (zeroValue e).run P w = .ok z w) (hzs : z.cells.size = sz) (hg : w.heap[g]? = some (.cells cur tt (0, 0))) (hfit : o + m * sz ≤ cur.size) (h1 : ∀ v ∈ z.cells, v.oneCell' = true) :
    ∃ vs : List Value, vs.length = m * sz ∧ (Builtin.clear_ #[t] ty #[.slice (some ⟨g, o, none⟩) m mc]).run P w = .ok (.tuple #[]) (w.setRow g (cur.toList.take o ++ vs ++ cur.toList.drop (o + vs.length)).toArray) := by
  rcases Nat.eq_zero_or_pos m with h0 | h0
  · subst h0
    refine ⟨[], by simp, ?_⟩
    simp only [List.append_nil, List.length_nil, Nat.add_zero, List.take_append_drop, Array.toArray_toList]
    rw [setRow_self w g cur tt (0, 0) hg]
    simp [Builtin.clear_, run_underlying hu]
  · have hl : (Builtin.zeroCells z.cells m).toList.length = m * sz := by simp [Builtin.zeroCells, hzs]
    refine ⟨(Builtin.zeroCells z.cells m).toList, hl, ?_⟩
    have hst := run_storeCells_at P g o tt (Builtin.zeroCells z.cells m).toList 0 cur w hg (by rw [hl]; simpa using hfit) (fun v hv => by
      obtain ⟨j, hj, rfl⟩ : ∃ j, j < m * z.cells.size ∧ z.cells[j % z.cells.size]! = v := by simpa [Builtin.zeroCells] using hv
      have hp : 0 < z.cells.size := by
        rcases Nat.eq_zero_or_pos z.cells.size with h | h
        · rw [h] at hj; omega
        · exact h
      have hl : j % z.cells.size < z.cells.size := Nat.mod_lt _ hp
      rw [getElem!_pos z.cells _ hl]
      exact h1 _ (Array.getElem_mem hl))
    have hm : m ≠ 0 := by omega
    obtain ⟨m', rfl⟩ : ∃ m', m = m' + 1 := ⟨m - 1, by omega⟩
    simp [Builtin.clear_, run_underlying hu, hz, hst]
theorem mv_clear (hd : o.dst = none) (hT : TabOk X.P X.T) {c : Call} {od m mc : Nat} {ty tt e sz s : Nat} {z : List Value} {CS : List Value → List Fact} (ho : o.op = .call c) (hc : c.callee = .builtin .clear) (ha : lookL X.n f c.args.toList = some [.slice (some ⟨g, od, none⟩) m mc]) (hat : c.argTypes.toList = [ty])
    (hty : tfind X.T ty = some ⟨tt, .slice e sz, s, z⟩) (hz : ∃ u, (∀ w, (zeroValue e).run X.P w = .ok u w) ∧ u.cells.size = sz ∧ ∀ v ∈ u.cells, v.oneCell' = true) (hu : ∀ vs, Upd (blk g cs T) (blk g (lay cs od vs) T) O (CS vs)) (hfit : od + m * sz ≤ cs.length)
    (hg : ∀ vs : List Value, vs.length = m * sz → N f (CS vs) R) : Mv X f O R o N := fun ac w hr hk K Q hK => by
  have hargs := lookL_eq hr ha
  obtain ⟨ca, args, tys⟩ := c
  obtain ⟨args⟩ := args
  obtain ⟨tys⟩ := tys
  simp only at hc hat hargs
  subst hc
  obtain ⟨ht, hk1⟩ := tfind_ok hT hty
  simp only at ht
  subst ht
  obtain ⟨hu1, hs1⟩ := chk_slice hk1.d
  obtain ⟨u, hz1, hz2, hz3⟩ := hz
  have hb : w.heap[g]? = some (.cells cs.toArray T (0, 0)) := hk.pO _ (hu []).mem
  match args, hargs with
  | [x], hargs =>
    simp at hargs
    subst hat
    obtain ⟨vs, hl, hrun⟩ := run_clear_sz (P := X.P) w tt o.type e sz g od m mc cs.toArray T u hu1 hz1 hz2 hb (by simpa using hfit) hz3
    unfold Oper.wp execOp
    simp only [ho, resolve, invoke, builtin, Sem.run_bind, Sem.run_pure, Result.andThen_ok, List.map_toArray, List.map_cons, List.map_nil, hargs, hrun]
    exact hK _ _ _ _ _ (hg vs hl) (hr.put0 hd _) (Kn.setRow hk (hu vs))
  | [], hargs => simp at hargs
  | _ :: _ :: _, hargs => simp at hargs
/-- What is one's own, as the cells of its block. -/
theorem own_open {α : Type} [Inhabited α] {base e sz n c g : Nat} {enc : α → Nat → Value} {L : List α} (hsz : 0 < sz) (h : OwnL w base e sz (.slice (some ⟨g, 0, none⟩) n c) enc L) :
    ∃ rest : List Value, w.heap[g]? = some (.cells (flatF sz enc L ++ rest).toArray e (0, 0)) ∧ (flatF sz enc L ++ rest).length = c * sz ∧ n = L.length ∧ n ≤ c ∧ c ≤ maxLen ∧ base ≤ g := by
  obtain ⟨h1, h2⟩ := h
  rcases h2 with ⟨h3, _⟩ | ⟨g', cap, cur, hv, hb, hg, hn, hm, hs, ht⟩
  · cases h3
  · injection hv with e1 e2 e3
    injection e1 with e1
    injection e1 with e1
    subst e1 e2 e3
    rw [flat_LF sz enc hsz] at ht
    refine ⟨cur.toList.drop (L.length * sz), ?_, ?_, rfl, hn, hm, hb⟩
    · rw [← ht, List.take_append_drop, Array.toArray_toList]; exact hg
    · rw [← ht, List.take_append_drop]; simpa using hs
theorem own_shut {α : Type} [Inhabited α] {base e sz n c g : Nat} {enc : α → Nat → Value} {L : List α} {cs : List Value} (hsz : 0 < sz) (hg : w.heap[g]? = some (.cells cs.toArray e (0, 0))) (hl : cs.length = c * sz) (hn : n = L.length) (hnc : n ≤ c) (hm : c ≤ maxLen) (hb : base ≤ g) (ht : cs.take (n * sz) = flatF sz enc L) :
    OwnL w base e sz (.slice (some ⟨g, 0, none⟩) n c) enc L := by
  subst hn
  refine ⟨by rw [flat_length], .inr ⟨g, c, cs.toArray, rfl, hb, hg, hnc, hm, by simpa using hl, ?_⟩⟩
  rw [flat_LF sz enc hsz]
  simpa using ht
theorem Kn.own_blk {O'' : List Value → List Fact} {α : Type} [Inhabited α] {base e sz n c : Nat} {enc : α → Nat → Value} {L : List α} (hsz : 0 < sz) (h : Kn E w0 w O R) (hu : ∀ cs, Upd (own base e sz (.slice (some ⟨g, 0, none⟩) n c) enc L) (blk g cs e) O (O'' cs)) :
    ∃ rest : List Value, Kn E w0 w (O'' (flatF sz enc L ++ rest)) R ∧ (flatF sz enc L ++ rest).length = c * sz ∧ n = L.length ∧ n ≤ c ∧ c ≤ maxLen ∧ base ≤ g := by
  obtain ⟨rest, h1, h2, h3, h4, h5, h6⟩ := own_open hsz (h.pO _ (hu []).mem)
  refine ⟨rest, h.upd (hu _) rfl rfl rfl (Nat.le_refl _) (fun _ _ _ => rfl) h1 (fun b hb => ?_), h2, h3, h4, h5, h6⟩
  have hbg : b = g := hb
  subst hbg
  exact ⟨.inl rfl, h.ltO _ (hu []).mem b rfl⟩
theorem Kn.blk_own {α : Type} [Inhabited α] {base e sz n c : Nat} {enc : α → Nat → Value} {L : List α} {cs : List Value} (hsz : 0 < sz) (h : Kn E w0 w O R) (hl : cs.length = c * sz) (hn : n = L.length) (hnc : n ≤ c) (hm : c ≤ maxLen) (hb : base ≤ g) (ht : cs.take (n * sz) = flatF sz enc L) (hu : Upd (blk g cs e) (own base e sz (.slice (some ⟨g, 0, none⟩) n c) enc L) O O') : Kn E w0 w O' R := by
  refine h.upd hu rfl rfl rfl (Nat.le_refl _) (fun _ _ _ => rfl) (own_shut hsz (h.pO _ hu.mem) hl hn hnc hm hb ht) (fun b hb => ?_)
  have hbg : g = b := by
    have h1 : (Value.slice (some ⟨g, 0, none⟩) n c).ownBlock = some b := hb
    simpa [Value.ownBlock] using h1
  subst hbg
  exact ⟨.inl rfl, h.ltO _ hu.mem g rfl⟩
theorem gk_own_blk {α : Type} [Inhabited α] {base e sz n c : Nat} {enc : α → Nat → Value} {L : List α} {OO : List Value → List Fact} (hsz : 0 < sz) (hu : ∀ cs, Upd (own base e sz (.slice (some ⟨g, 0, none⟩) n c) enc L) (blk g cs e) O (OO cs))
    (hg : ∀ rest : List Value, (flatF sz enc L ++ rest).length = c * sz → n = L.length → n ≤ c → c ≤ maxLen → base ≤ g → GK X ks f (OO (flatF sz enc L ++ rest)) R) : GK X ks f O R := .mk fun a w hr hk => by
  obtain ⟨rest, h1, h2, h3, h4, h5, h6⟩ := Kn.own_blk (O'' := OO) hsz hk hu
  exact (hg rest h2 h3 h4 h5 h6).out a w hr h1
theorem g_own_blk {α : Type} [Inhabited α] {base e sz n c : Nat} {enc : α → Nat → Value} {L : List α} {OO : List Value → List Fact} (hsz : 0 < sz) (hu : ∀ cs, Upd (own base e sz (.slice (some ⟨g, 0, none⟩) n c) enc L) (blk g cs e) O (OO cs))
    (hg : ∀ rest : List Value, (flatF sz enc L ++ rest).length = c * sz → n = L.length → n ≤ c → c ≤ maxLen → base ≤ g → G X ops lo k f (OO (flatF sz enc L ++ rest)) R) : G X ops lo k f O R := .mk fun a w hr hk => by
  obtain ⟨rest, h1, h2, h3, h4, h5, h6⟩ := Kn.own_blk (O'' := OO) hsz hk hu
  exact (hg rest h2 h3 h4 h5 h6).out a w hr h1
theorem gk_blk_own {α : Type} [Inhabited α] {base e sz n c : Nat} {enc : α → Nat → Value} {cs : List Value} (L : List α) (hsz : 0 < sz) (hu : Upd (blk g cs e) (own base e sz (.slice (some ⟨g, 0, none⟩) n c) enc L) O O') (hl : cs.length = c * sz) (hn : n = L.length) (hnc : n ≤ c) (hm : c ≤ maxLen) (hb : base ≤ g) (ht : cs.take (n * sz) = flatF sz enc L)
    (hg : GK X ks f O' R) : GK X ks f O R := .mk fun a w hr hk => hg.out a w hr (Kn.blk_own hsz hk hl hn hnc hm hb ht hu)
theorem g_blk_own {α : Type} [Inhabited α] {base e sz n c : Nat} {enc : α → Nat → Value} {cs : List Value} (L : List α) (hsz : 0 < sz) (hu : Upd (blk g cs e) (own base e sz (.slice (some ⟨g, 0, none⟩) n c) enc L) O O') (hl : cs.length = c * sz) (hn : n = L.length) (hnc : n ≤ c) (hm : c ≤ maxLen) (hb : base ≤ g) (ht : cs.take (n * sz) = flatF sz enc L)
    (hg : G X ops lo k f O' R) : G X ops lo k f O R := .mk fun a w hr hk => hg.out a w hr (Kn.blk_own hsz hk hl hn hnc hm hb ht hu)
end
end Go.Proofs.Ytdjhocgfdbnkmaa.Gx
