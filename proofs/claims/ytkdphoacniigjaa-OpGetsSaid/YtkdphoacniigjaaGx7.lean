/- Seventh part: regions that draw their order. -/
import Derived.Test.YtkdphoacniigjaaGx6
namespace Go.Proofs.Ytkdphoacniigjaa.Gx
open Go.RowKit Mem
set_option linter.unusedVariables false
set_option linter.unusedSimpArgs false
theorem wpK_panic {P : Program} {Q : Exit → Act → World → Prop} {c : List PanicEntry} {a : Act} {w : World} : ∀ {ks : List KI}, wpK P Q ks (.panic c) a w ↔ Q (.panic c) a w
  | [] => Iff.rfl
  | .code _ :: k => wpK_panic (ks := k)
  | .blk _ :: k => wpK_panic (ks := k)
  | .inv _ :: k => wpK_panic (ks := k)
theorem q_panic (X : Cx) (ks : List KI) (d : Option Tmp) (v : Value) : ∀ c a w, wpK X.P X.Q ks (.panic c) (a.put d v) w → wpK X.P X.Q ks (.panic c) a w := fun c a w h => by
  rw [wpK_panic] at h ⊢
  obtain ⟨h1, h2⟩ := h
  refine ⟨?_, h2⟩
  cases d <;> exact h1
def firstK (n k : Nat) : Array Bool := ((List.range n).map fun i => Nat.blt i k).toArray
theorem firstK_zero (n : Nat) : firstK n 0 = Array.replicate n false := by
  apply Array.ext'
  unfold firstK
  apply List.ext_getElem?
  intro i
  by_cases hi : i < n
  · have : Nat.blt i 0 = false := rfl
    simp [List.getElem?_range hi, hi]
    rfl
  · rw [List.getElem?_eq_none (by simp; omega), List.getElem?_eq_none (by simp; omega)]
theorem firstK_succ (n k : Nat) (hk : k < n) : (firstK n k).setIfInBounds k true = firstK n (k + 1) := by
  apply Array.ext'
  unfold firstK
  apply List.ext_getElem?
  intro i
  by_cases hi : i < n
  · by_cases e : k = i
    · subst e
      have : Nat.blt k (k + 1) = true := Nat.ble_eq_true_of_le (Nat.le_refl _)
      simp [List.getElem?_range hi, hi, this]
    · have e1 : Nat.blt i k = Nat.blt i (k + 1) := by
        rcases Nat.lt_or_ge i k with h | h
        · rw [show Nat.blt i k = true from Nat.ble_eq_true_of_le h, show Nat.blt i (k + 1) = true from Nat.ble_eq_true_of_le (by omega)]
        · have h1 : Nat.blt i k = false := by
            cases hb : Nat.blt i k with
            | false => rfl
            | true => have := Nat.le_of_ble_eq_true hb; omega
          have h2 : Nat.blt i (k + 1) = false := by
            cases hb : Nat.blt i (k + 1) with
            | false => rfl
            | true => have := Nat.le_of_ble_eq_true hb; omega
          rw [h1, h2]
      rw [Array.toList_setIfInBounds, List.getElem?_set_ne e]
      simp [List.getElem?_range hi, e1]
  · rw [List.getElem?_eq_none (by simp; omega), List.getElem?_eq_none (by simp; omega)]
section
variable {X : Cx} {f : Fr} {O R : List Fact} {ks k : List KI} {ops rest : List Oper} {o : Oper}
/-- A walk of a region that draws its order, in the order of its text; S: facts that no operation of the region changes. -/
structure GA (X : Cx) (S : List Fact) (ops : List Oper) (i : Nat) (l : List Oper) (k : List KI) (f : Fr) (O R : List Fact) : Prop where mk ::
  out : ops.drop i = l → ∀ a w, Rel X.n a f → Kn X.E X.w0 w O R → wpAnyH X.P .any ops.toArray (wpK X.P X.Q k) (fun w => ∀ φ ∈ S, φ.p w) l.length (firstK ops.length i) a w
theorem gk_drawn (S : List Fact) {id : Nat} {l : List Oper} (h : nx 1000 ks = some (.region id l true k)) (hm : X.P.follows .mixedOrders = true) (hg : GA X S l 0 l k f O R) : GK X ks f O R := .mk fun a w hr hk =>
  nx_sound h (wp_region_held hm (by
    have := hg.out rfl a _ hr (hk.below (w' := { w with drawn := w.drawn + 1 }) ⟨rfl, rfl, rfl, Nat.le_refl _, fun _ _ => rfl⟩)
    rw [firstK_zero] at this
    simpa using this))
/-- All have come up. -/
theorem ga_nil {S : List Fact} {i : Nat} (hr : Region.ready .any ops.toArray (firstK ops.length i) = []) (hg : GK X k f O R) : GA X S ops i [] k f O R := .mk fun _ a w hr' hk =>
  wpAnyH_done hr (hg.out a w hr' hk) _
theorem drop_cons {i : Nat} (h : ops.drop i = o :: rest) : ops[i]? = some o ∧ ops.drop (i + 1) = rest ∧ i < ops.length := by
  have hi : i < ops.length := by
    rcases Nat.lt_or_ge i ops.length with h' | h'
    · exact h'
    · rw [List.drop_of_length_le h'] at h; cases h
  rw [List.drop_eq_getElem_cons hi] at h
  injection h with h1 h2
  exact ⟨by rw [List.getElem?_eq_getElem hi, h1], h2, hi⟩
def SubF (S O R : List Fact) : Prop := ∀ φ ∈ S, φ ∈ O ∨ φ ∈ R
theorem subF_nil : SubF [] O R := fun _ h => by cases h
theorem subF_cons {φ : Fact} {S : List Fact} (h : φ ∈ O ∨ φ ∈ R) (hr : SubF S O R) : SubF (φ :: S) O R := fun ψ hψ => by
  rcases List.mem_cons.1 hψ with rfl | h1
  · exact h
  · exact hr ψ h1
/-- What it yields in every world in which S holds. -/
def Ys (X : Cx) (S : List Fact) (f : Fr) (o : Oper) (v : Value) : Prop := ∀ a w, Rel X.n a f → (∀ φ ∈ S, φ.p w) → (execOp a.eval o).run X.P w = .ok (.value v) w
def takeB (ops : List Oper) (i : Nat) : Bool := Region.free .any ops.toArray (firstK ops.length i) i && (Region.ready .any ops.toArray (firstK ops.length i)).contains i && Region.noSelect ops.toArray
theorem ga_take {S : List Fact} {i : Nat} {v : Value} {d : Nat} (hB : takeB ops i = true) (hw : wantG X.n f ops o.guard = some true) (hdd : o.dst = some d) (hy : Ys X S f o v) (hS : SubF S O R) (hg : GA X S ops (i + 1) rest k ((d, v) :: f) O R) : GA X S ops i (o :: rest) k f O R := .mk fun hd a w hr hk => by
  unfold takeB at hB
  rw [Bool.and_eq_true, Bool.and_eq_true] at hB
  obtain ⟨h1, h2, h3⟩ := drop_cons hd
  have hw' := wantG_sound hr hw
  have hSw : ∀ φ ∈ S, φ.p w := fun φ hφ => by rcases hS φ hφ with h | h; exact hk.pO _ h; exact hk.pR _ h
  refine wpAnyH_take (i := i) (oi := o) (v := v) (by simpa using h1) hB.2 hB.1.1 hB.1.2 (q_panic X k _ _) (.inl ⟨hw', fun w hS => hy a w hr hS⟩) hSw ?_
  rw [firstK_succ _ _ h3]
  exact hg.out h2 _ w (hr.put1 hdd _) hk
theorem ga_skip {S : List Fact} {i : Nat} {d : Nat} (hB : takeB ops i = true) (hw : wantG X.n f ops o.guard = some false) (hdd : o.dst = some d) (hS : SubF S O R) (hg : GA X S ops (i + 1) rest k ((d, undef) :: f) O R) : GA X S ops i (o :: rest) k f O R := .mk fun hd a w hr hk => by
  unfold takeB at hB
  rw [Bool.and_eq_true, Bool.and_eq_true] at hB
  obtain ⟨h1, h2, h3⟩ := drop_cons hd
  have hw' := wantG_sound hr hw
  have hSw : ∀ φ ∈ S, φ.p w := fun φ hφ => by rcases hS φ hφ with h | h; exact hk.pO _ h; exact hk.pR _ h
  refine wpAnyH_take (i := i) (oi := o) (v := undef) (by simpa using h1) hB.2 hB.1.1 hB.1.2 (q_panic X k _ _) (.inr ⟨hw', rfl⟩) hSw ?_
  rw [firstK_succ _ _ h3]
  exact hg.out h2 _ w (hr.put1 hdd _) hk
/-- It alone may come up next. -/
theorem ga_mv {S : List Fact} {i : Nat} (hB : Region.ready .any ops.toArray (firstK ops.length i) = [i]) (hw : wantG X.n f ops o.guard = some true) (hm : Mv X f O R o (fun f' O' R' => SubF S O' R' ∧ GA X S ops (i + 1) rest k f' O' R')) : GA X S ops i (o :: rest) k f O R := .mk fun hd a w hr hk => by
  obtain ⟨h1, h2, h3⟩ := drop_cons hd
  have hw' := wantG_sound hr hw
  refine wpAnyH_all hB (by simp) fun j hj => ?_
  have hj' : j = i := by simpa using hj
  subst hj'
  unfold wpOp
  have h1' : ops.toArray[j]? = some o := by simpa using h1
  simp only [h1', hw', if_true]
  refine .inl (hm a w hr hk _ _ fun f' O' R' a' w' hN hr' hk' => ⟨fun φ hφ => ?_, ?_⟩)
  · rcases hN.1 φ hφ with h | h
    · exact hk'.pO _ h
    · exact hk'.pR _ h
  · rw [firstK_succ _ _ h3]
    exact hN.2.out h2 a' w' hr' hk'
/-- A guard that is not decided. -/
theorem ga_split {S : List Fact} {i t : Nat} {b : Bool} {p q : Prop} (hs : gslot ops o.guard = some t) (hl : look X.n f (.tmp t) = some (.bool b)) (ht : Tells b p q)
    (h1 : p → GA X S ops i (o :: rest) k ((t, .bool true) :: f) O R) (h2 : q → GA X S ops i (o :: rest) k ((t, .bool false) :: f) O R) : GA X S ops i (o :: rest) k f O R := .mk fun hd a w hr hk => by
  cases b with
  | true => exact (h1 (ht.1 rfl)).out hd a w (hr.re hl rfl) hk
  | false => exact (h2 (ht.2 rfl)).out hd a w (hr.re hl rfl) hk
theorem ys_ev (hT : TabOk X.P X.T) {S : List Fact} {nw : Bool} {v : Value} {p : Prop} (he : ev X.T nw X.n f o.op = some (v, p)) (hp : p) : Ys X S f o v := fun a w hr _ => ev_sound hT hr he hp w
theorem ys_blk (hT : TabOk X.P X.T) {S : List Fact} {ty : Nat} {x : Operand} {g off : Nat} {cs : List Value} {Tg t sz : Nat} {d : TD} {z : List Value} {v : Value} (ho : o.op = .load ty x) (hx : look X.n f x = some (.pointer (some ⟨g, off, none⟩)))
    (hm : blk g cs Tg ∈ S) (hty : tfind X.T ty = some ⟨t, d, sz, z⟩) (hv : loadV (agg? d) sz cs off = some v) : Ys X S f o v := fun a w hr hS => by
  have hb : w.heap[g]? = some (.cells cs.toArray Tg (0, 0)) := hS _ hm
  have hty' := tfind_ok hT hty
  have e1 := hty'.1
  simp only at e1
  subst e1
  have := run_loadVar_at hty'.2.d hty'.2.sz w g 0 cs (fun i u hu => by rw [Nat.zero_add, cell_of_row w g i cs.toArray Tg (0, 0) hb]; simpa using hu) hv
  rw [Nat.zero_add] at this
  simp [execOp, ho, hr.look hx, Instr.loadAt, Instr.sureAddr, this]
theorem ys_row (hT : TabOk X.P X.T) {S : List Fact} {ty : Nat} {x : Operand} {b o' off : Nat} {cs : List Value} {t sz : Nat} {d : TD} {z : List Value} {v : Value} (ho : o.op = .load ty x) (hx : look X.n f x = some (.pointer (some ⟨b, o' + off, none⟩)))
    (hm : row b o' cs ∈ S) (hty : tfind X.T ty = some ⟨t, d, sz, z⟩) (hv : loadV (agg? d) sz cs off = some v) : Ys X S f o v := fun a w hr hS => by
  have hb : ∀ i v, cs[i]? = some v → w.cell? ⟨b, o' + i, none⟩ = some v := hS _ hm
  have hty' := tfind_ok hT hty
  have e1 := hty'.1
  simp only at e1
  subst e1
  have := run_loadVar_at hty'.2.d hty'.2.sz w b o' cs hb hv
  simp [execOp, ho, hr.look hx, Instr.loadAt, Instr.sureAddr, this]
theorem ys_row0 (hT : TabOk X.P X.T) {S : List Fact} {ty : Nat} {x : Operand} {b o' : Nat} {cs : List Value} {t sz : Nat} {d : TD} {z : List Value} {v : Value} (ho : o.op = .load ty x) (hx : look X.n f x = some (.pointer (some ⟨b, o', none⟩)))
    (hm : row b o' cs ∈ S) (hty : tfind X.T ty = some ⟨t, d, sz, z⟩) (hv : loadV (agg? d) sz cs 0 = some v) : Ys X S f o v :=
  ys_row (off := 0) hT ho hx hm hty hv
end
end Go.Proofs.Ytkdphoacniigjaa.Gx
