/- Tenth part: regions that draw their order, in any order of what changes the memory. -/
import Derived.Test.YtkdphoacniigjaaGx9
namespace Go.Proofs.Ytkdphoacniigjaa.Gx
open Go.RowKit Mem
set_option linter.unusedVariables false
set_option linter.unusedSimpArgs false
section
variable {X : Cx} {f : Fr} {O R : List Fact} {ks k : List KI} {ops rest : List Oper} {o : Oper} {S : List Fact} {C : Fr → List Fact → List Fact → Prop} {m : Nat} {ls : List Bool}
/-- Behind the region C holds of frame and facts. -/
def Qc (X : Cx) (C : Fr → List Fact → List Fact → Prop) (k : List KI) : Exit → Act → World → Prop := Exit.then (fun a w => ∃ f' O' R', C f' O' R' ∧ Rel X.n a f' ∧ Kn X.E X.w0 w O' R') (wpK X.P X.Q k)
theorem qc_panic (X : Cx) (C : Fr → List Fact → List Fact → Prop) (ks : List KI) (d : Option Tmp) (v : Value) : ∀ c a w, Qc X C ks (.panic c) (a.put d v) w → Qc X C ks (.panic c) a w := fun c a w h => q_panic X ks d v c a w h
structure GB (X : Cx) (S : List Fact) (ops : List Oper) (m : Nat) (ls : List Bool) (C : Fr → List Fact → List Fact → Prop) (k : List KI) (f : Fr) (O R : List Fact) : Prop where mk ::
  out : ∀ a w, Rel X.n a f → Kn X.E X.w0 w O R → wpAnyH X.P .any ops.toArray (Qc X C k) (fun w => ∀ φ ∈ S, φ.p w) m ls.toArray a w
theorem gk_any (is : List Nat) (C : Fr → List Fact → List Fact → Prop) {S : List Fact} (hS : pickF (O ++ R) is = some S) {id : Nat} {l : List Oper} (h : nx 1000 ks = some (.region id l true k)) (hm : X.P.follows .mixedOrders = true)
    (hg : GB X S l l.length (List.replicate l.length false) C k f O R) (hC : ∀ f' O' R', C f' O' R' → GK X k f' O' R') : GK X ks f O R := .mk fun a w hr hk =>
  nx_sound h (Code.wp_mono (Q := Qc X C k) (fun e a w hq => by
    cases e with
    | normal => obtain ⟨f', O', R', h1, h2, h3⟩ := hq; exact (hC f' O' R' h1).out a w h2 h3
    | _ => exact hq) (wp_region_held hm (by
    have := hg.out a _ hr (hk.below (w' := { w with drawn := w.drawn + 1 }) ⟨rfl, rfl, rfl, Nat.le_refl _, fun _ _ => rfl⟩)
    have e : (List.replicate l.length false).toArray = Array.replicate l.toArray.size false := by apply Array.ext'; simp
    rw [e] at this
    simpa using this)))
theorem gb_nil (hr : Region.ready .any ops.toArray ls.toArray = []) (hC : C f O R) : GB X S ops m ls C k f O R := .mk fun a w hr' hk =>
  wpAnyH_done hr ⟨f, O, R, hC, hr', hk⟩ _
def takeC (ops : List Oper) (ls : List Bool) (i : Nat) : Bool := Region.free .any ops.toArray ls.toArray i && (Region.ready .any ops.toArray ls.toArray).contains i && Region.noSelect ops.toArray
theorem set_arr (ls : List Bool) (i : Nat) : ls.toArray.setIfInBounds i true = (ls.set i true).toArray := by apply Array.ext'; simp
theorem gb_take (i : Nat) {v : Value} {d : Nat} (ho : ops[i]? = some o) (hB : takeC ops ls i = true) (hw : wantG X.n f ops o.guard = some true) (hdd : o.dst = some d) (hy : Ys X S f o v) (hS : SubF S O R) (hg : GB X S ops m (ls.set i true) C k ((d, v) :: f) O R) : GB X S ops (m + 1) ls C k f O R := .mk fun a w hr hk => by
  unfold takeC at hB
  rw [Bool.and_eq_true, Bool.and_eq_true] at hB
  have hw' := wantG_sound hr hw
  have hSw : ∀ φ ∈ S, φ.p w := fun φ hφ => by rcases hS φ hφ with h | h; exact hk.pO _ h; exact hk.pR _ h
  refine wpAnyH_take (i := i) (oi := o) (v := v) (by simpa using ho) hB.2 hB.1.1 hB.1.2 (qc_panic X C k _ _) (.inl ⟨hw', fun w hS => hy a w hr hS⟩) hSw ?_
  rw [set_arr]
  exact hg.out _ w (hr.put1 hdd _) hk
theorem gb_skip (i : Nat) {d : Nat} (ho : ops[i]? = some o) (hB : takeC ops ls i = true) (hw : wantG X.n f ops o.guard = some false) (hdd : o.dst = some d) (hS : SubF S O R) (hg : GB X S ops m (ls.set i true) C k ((d, undef) :: f) O R) : GB X S ops (m + 1) ls C k f O R := .mk fun a w hr hk => by
  unfold takeC at hB
  rw [Bool.and_eq_true, Bool.and_eq_true] at hB
  have hw' := wantG_sound hr hw
  have hSw : ∀ φ ∈ S, φ.p w := fun φ hφ => by rcases hS φ hφ with h | h; exact hk.pO _ h; exact hk.pR _ h
  refine wpAnyH_take (i := i) (oi := o) (v := undef) (by simpa using ho) hB.2 hB.1.1 hB.1.2 (qc_panic X C k _ _) (.inr ⟨hw', rfl⟩) hSw ?_
  rw [set_arr]
  exact hg.out _ w (hr.put1 hdd _) hk
/-- Those from number j on that may come up next. -/
def GBall (X : Cx) (S : List Fact) (ops : List Oper) (m : Nat) (ls : List Bool) (C : Fr → List Fact → List Fact → Prop) (k : List KI) (f : Fr) (O R : List Fact) (j : Nat) : Prop :=
  ∀ i, j ≤ i → i ∈ Region.ready .any ops.toArray ls.toArray → ∃ o, ops[i]? = some o ∧ wantG X.n f ops o.guard = some true ∧ Mv X f O R o (fun f' O' R' => SubF S O' R' ∧ GB X S ops m (ls.set i true) C k f' O' R')
theorem gb_all (hne : (Region.ready .any ops.toArray ls.toArray).isEmpty = false) (h : GBall X S ops m ls C k f O R 0) : GB X S ops (m + 1) ls C k f O R := .mk fun a w hr hk => by
  refine wpAnyH_all rfl (by intro e; rw [e] at hne; cases hne) fun i hi => ?_
  obtain ⟨o, ho, hw, hm⟩ := h i (Nat.zero_le _) hi
  have hw' := wantG_sound hr hw
  unfold wpOp
  have h1' : ops.toArray[i]? = some o := by simpa using ho
  simp only [h1', hw', if_true]
  refine .inl (hm a w hr hk _ _ fun f' O' R' a' w' hN hr' hk' => ⟨fun φ hφ => ?_, ?_⟩)
  · rcases hN.1 φ hφ with h | h
    · exact hk'.pO _ h
    · exact hk'.pR _ h
  · rw [set_arr]
    exact hN.2.out a' w' hr' hk'
theorem gball_end {j : Nat} (h : Nat.ble ops.length j = true) : GBall X S ops m ls C k f O R j := fun i hij hi => by
  have h1 := (mem_ready.1 hi)
  obtain ⟨_, oj, hoj, _⟩ := h1
  have h2 : i < ops.length := by
    rcases Nat.lt_or_ge i ops.length with h' | h'
    · exact h'
    · simp [List.getElem?_eq_none h'] at hoj
  have := Nat.le_of_ble_eq_true h
  omega
theorem gball_not {j : Nat} (h : (Region.ready .any ops.toArray ls.toArray).contains j = false) (hr : GBall X S ops m ls C k f O R (j + 1)) : GBall X S ops m ls C k f O R j := fun i hij hi => by
  rcases Nat.eq_or_lt_of_le hij with e | e
  · subst e
    exfalso
    have : (Region.ready .any ops.toArray ls.toArray).contains j = true := by simpa using hi
    rw [h] at this; cases this
  · exact hr i e hi
theorem gball_yes {j : Nat} (ho : ops[j]? = some o) (hw : wantG X.n f ops o.guard = some true) (hm : Mv X f O R o (fun f' O' R' => SubF S O' R' ∧ GB X S ops m (ls.set j true) C k f' O' R')) (hr : GBall X S ops m ls C k f O R (j + 1)) : GBall X S ops m ls C k f O R j := fun i hij hi => by
  rcases Nat.eq_or_lt_of_le hij with e | e
  · subst e; exact ⟨o, ho, hw, hm⟩
  · exact hr i e hi
theorem Kn.perm {E : List Nat} {w0 w : World} {O' : List Fact} (h : Kn E w0 w O R) (hp : O.Perm O') : Kn E w0 w O' R where
  os := h.os
  tape := h.tape
  output := h.output
  size := h.size
  block := h.block
  ownS φ hφ := h.ownS φ (hp.mem_iff.2 hφ)
  ltO φ hφ := h.ltO φ (hp.mem_iff.2 hφ)
  ltR := h.ltR
  pO φ hφ := h.pO φ (hp.mem_iff.2 hφ)
  pR := h.pR
  disO := (hp.pairwise_iff (fun {x y} hd b h1 h2 => hd b h2 h1)).1 h.disO
  disR φ hφ := h.disR φ (hp.mem_iff.2 hφ)
inductive Sel (φ : Fact) : List Fact → List Fact → Prop
  | here {O : List Fact} : Sel φ (φ :: O) O
  | there {χ : Fact} {O O' : List Fact} (h : Sel φ O O') : Sel φ (χ :: O) (χ :: O')
inductive SelAll : List Fact → List Fact → Prop
  | nil {O : List Fact} : SelAll [] O
  | cons {φ : Fact} {r O O' : List Fact} (h : Sel φ O O') (hr : SelAll r O') : SelAll (φ :: r) O
theorem Sel.perm {φ : Fact} {O O' : List Fact} (h : Sel φ O O') : O.Perm (φ :: O') := by
  induction h with
  | here => exact List.Perm.refl _
  | there h ih => exact (ih.cons _).trans (List.Perm.swap _ _ _)
theorem SelAll.perm {L O : List Fact} (h : SelAll L O) : ∃ r, O.Perm (L ++ r) := by
  induction h with
  | nil => exact ⟨_, List.Perm.refl _⟩
  | cons h hr ih =>
    obtain ⟨r, hp⟩ := ih
    exact ⟨r, h.perm.trans (hp.cons _)⟩
theorem Kn.sel {E : List Nat} {w0 w : World} {L R' : List Fact} (h : Kn E w0 w O R) (hs : SelAll L O) (hR : R' ⊆ R) : Kn E w0 w L R' := by
  obtain ⟨r, hp⟩ := hs.perm
  exact (Kn.perm h hp).weak (List.sublist_append_left _ _) hR
/-- What is wanted behind a region: these slots, these facts. -/
def Cut (X : Cx) {σ : Type} (F : σ → Fr) (OO RR : σ → List Fact) : Fr → List Fact → List Fact → Prop := fun f' O' R' => ∃ s, FSub X.n f' (F s) ∧ SelAll (OO s) O' ∧ RR s ⊆ R'
theorem cut_k {σ : Type} {F : σ → Fr} {OO RR : σ → List Fact} (h : ∀ s, GK X k (F s) (OO s) (RR s)) : ∀ f' O' R', Cut X F OO RR f' O' R' → GK X k f' O' R' := fun f' O' R' ⟨s, h1, h2, h3⟩ =>
  .mk fun a w hr hk => (h s).out a w (hr.sub h1) (hk.sel h2 h3)
end
end Go.Proofs.Ytkdphoacniigjaa.Gx
