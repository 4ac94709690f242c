/- Fourteenth part: slices of slices; calls that write one block of the caller's. -/
import Derived.Test.YtkdphoacniigjaaGx13
namespace Go.Proofs.Ytkdphoacniigjaa.Gx
open Go.RowKit Mem
set_option linter.unusedVariables false
set_option linter.unusedSimpArgs false
/-- Where a slice of a slice begins. -/
def shA (a : Option Addr) (l m s : Nat) : Option Addr := if m = l then a else a.map (·.add (l * s))
theorem shA_block {a : Option Addr} {l m s : Nat} {x : Addr} (h : shA a l m s = some x) : ∃ y, a = some y ∧ y.block = x.block := by
  unfold shA at h
  split at h
  · exact ⟨x, h, rfl⟩
  · cases a with
    | none => cases h
    | some y =>
      simp at h
      subst h
      refine ⟨y, rfl, ?_⟩
      unfold Addr.add
      split <;> rfl
theorem elem_of {P : Program} {t e : TypeId} (h : P.underlying t = some (.slice e)) : P.elem t = e := by simp [Program.elem, h]
section
variable {α : Type} [Inhabited α] {w : World} {A : Option Addr} {sz : Nat} {enc : α → Nat → Value} {L : List α}
theorem sl_sub (h : Sl w A sz enc L) (l m k : Nat) (hm : L.length ≤ m) : Sl w (shA A l m sz) sz enc ((L.drop l).take k) := by
  by_cases hl : l < L.length
  · obtain ⟨b, off, e, hs⟩ := Sl.drop h l hl
    have : shA A l m sz = some ⟨b, off + l * sz, none⟩ := by
      unfold shA
      rw [if_neg (by omega), e]
      simp [add_lit]
    rw [this]
    exact Sl.take hs k
  · rw [List.drop_of_length_le (by omega), List.take_nil]
    exact Sl.nil
theorem sl_sub_S {l m k b : Nat} (h : (sl (shA A l m sz) sz enc ((L.drop l).take k)).S b) : (sl A sz enc L).S b := by
  obtain ⟨h1, a, ha, hab⟩ := h
  obtain ⟨y, e1, e2⟩ := shA_block ha
  refine ⟨?_, y, e1, e2.trans hab⟩
  rw [List.length_take, List.length_drop] at h1
  omega
end
section
variable {X : Cx} {f : Fr} {O R : List Fact} {ks k : List KI} {ops rest : List Oper} {o : Oper} {S : List Fact} {N : Fr → List Fact → List Fact → Prop}
theorem run_sl {P : Program} {t e sz : Nat} (hu : P.underlying t = some (.slice e)) (hs : szIs P e sz = true) (w : World) (a : Option Addr) (n c : Nat) : P.underlying t = some (.slice (P.elem t)) ∧ (sizeOf (P.elem t)).run P w = .ok sz w := by
  have he := elem_of hu
  exact ⟨by rw [he]; exact hu, by rw [he]; exact run_sizeOf hs w⟩
theorem ys_slice_l (hT : TabOk X.P X.T) {ty t e sz s : Nat} {z : List Value} {x lo : Operand} {A : Option Addr} {n c : Nat} {kl : IntKind} {iv : Int} (j : Nat) (ho : o.op = .slice ty x (some lo) none none) (hx : look X.n f x = some (.slice A n c)) (hl : look X.n f lo = some (.int kl iv)) (hty : tfind X.T ty = some ⟨t, .slice e sz, s, z⟩)
    (hj : iv = j) (hjn : j ≤ n) : Ys X S f o (.slice (shA A j c sz) (n - j) (c - j)) := fun a w hr hk => by
  obtain ⟨ht, hk1⟩ := tfind_ok hT hty
  simp only at ht
  subst ht
  subst hj
  obtain ⟨hu0, hes⟩ := chk_slice hk1.d
  have hu : X.P.underlying t = some (.slice e) := hu0
  obtain ⟨h1, h2⟩ := run_sl hu hes w A n c
  have h3 := run_slice_l (P := X.P) (w := w) t A n c h1 kl (j : Int) (by omega) (by omega)
  rw [h2] at h3
  simp only [Result.andThen_ok, sliced, Int.toNat_natCast] at h3
  simp [execOp, ho, hr.look hx, hr.look hl, run_sliceAt_slice (P := X.P) w t _ _ _ _ h1, h3, shA]
theorem ys_slice_h (hT : TabOk X.P X.T) {ty t e sz s : Nat} {z : List Value} {x hi : Operand} {A : Option Addr} {n c : Nat} {kl : IntKind} {iv : Int} (j : Nat) (ho : o.op = .slice ty x none (some hi) none) (hx : look X.n f x = some (.slice A n c)) (hl : look X.n f hi = some (.int kl iv)) (hty : tfind X.T ty = some ⟨t, .slice e sz, s, z⟩)
    (hj : iv = j) (hjn : j ≤ c) : Ys X S f o (.slice (shA A 0 c sz) j c) := fun a w hr hk => by
  obtain ⟨ht, hk1⟩ := tfind_ok hT hty
  simp only at ht
  subst ht
  subst hj
  obtain ⟨hu0, hes⟩ := chk_slice hk1.d
  have hu : X.P.underlying t = some (.slice e) := hu0
  obtain ⟨h1, h2⟩ := run_sl hu hes w A n c
  have h3 := run_slice_h (P := X.P) (w := w) t A n c h1 kl (j : Int) (by omega) (by omega)
  rw [h2] at h3
  simp only [Result.andThen_ok, sliced, Int.toNat_natCast, Nat.sub_zero] at h3
  simp [execOp, ho, hr.look hx, hr.look hl, run_sliceAt_slice (P := X.P) w t _ _ _ _ h1, h3, shA]
theorem ys_slice_lh (hT : TabOk X.P X.T) {ty t e sz s : Nat} {z : List Value} {x lo hi : Operand} {A : Option Addr} {n c : Nat} {kl kh : IntKind} {iv ih : Int} (j h : Nat) (ho : o.op = .slice ty x (some lo) (some hi) none) (hx : look X.n f x = some (.slice A n c)) (hl : look X.n f lo = some (.int kl iv)) (hh : look X.n f hi = some (.int kh ih)) (hty : tfind X.T ty = some ⟨t, .slice e sz, s, z⟩)
    (hj : iv = j) (hih : ih = h) (hjh : j ≤ h) (hhc : h ≤ c) : Ys X S f o (.slice (shA A j c sz) (h - j) (c - j)) := fun a w hr hk => by
  obtain ⟨ht, hk1⟩ := tfind_ok hT hty
  simp only at ht
  subst ht
  subst hj
  subst hih
  obtain ⟨hu0, hes⟩ := chk_slice hk1.d
  have hu : X.P.underlying t = some (.slice e) := hu0
  obtain ⟨h1, h2⟩ := run_sl hu hes w A n c
  have h3 := run_slice_lh (P := X.P) (w := w) t A n c h1 kl kh (j : Int) (h : Int) (by omega) (by omega) (by omega)
  rw [h2] at h3
  simp only [Result.andThen_ok, sliced, Int.toNat_natCast] at h3
  simp [execOp, ho, hr.look hx, hr.look hl, hr.look hh, run_sliceAt_slice (P := X.P) w t _ _ _ _ h1, h3, shA]
theorem Ys.yd {v : Value} (h : Ys X [] f o v) : Yd X f O R o v := fun a w hr _ => h a w hr (fun _ h => by cases h)
/-- A part of a slice is a slice. -/
theorem Kn.sub {E : List Nat} {w0 w : World} {α : Type} [Inhabited α] {enc : α → Nat → Value} {L : List α} {A : Option Addr} {sz : Nat} (h : Kn E w0 w O R) (hm : sl A sz enc L ∈ R) (l m k : Nat) (hl : L.length ≤ m) : Kn E w0 w O (sl (shA A l m sz) sz enc ((L.drop l).take k) :: R) :=
  h.addR _ (sl_sub (h.pR _ hm) l m k hl) (fun b hb => h.ltR _ hm b (sl_sub_S hb)) (fun φ hφ b hS hb => h.disR φ hφ _ hm b hS (sl_sub_S hb))
theorem gk_sub {α : Type} [Inhabited α] {enc : α → Nat → Value} {L : List α} {A : Option Addr} {sz : Nat} (l m k0 : Nat) (hm : sl A sz enc L ∈ R) (hl : L.length ≤ m) (hg : GK X ks f O (sl (shA A l m sz) sz enc ((L.drop l).take k0) :: R)) : GK X ks f O R := .mk fun a w hr hk => hg.out a w hr (hk.sub hm l m k0 hl)
theorem g_sub {α : Type} [Inhabited α] {enc : α → Nat → Value} {L : List α} {A : Option Addr} {sz : Nat} {ll : List Oper} (l m k0 : Nat) (hm : sl A sz enc L ∈ R) (hl : L.length ≤ m) (hg : G X ops ll k f O (sl (shA A l m sz) sz enc ((L.drop l).take k0) :: R)) : G X ops ll k f O R := .mk fun a w hr hk => hg.out a w hr (hk.sub hm l m k0 hl)

/-! ### a call that writes one old block -/
structure FreshW (g : Nat) (T : TypeId) (cs : List Value) (w w' : World) (L : List Fact) : Prop where
  os : w'.os = w.os
  tape : w'.tape = w.tape
  output : w'.output = w.output
  size : w.heap.size ≤ w'.heap.size
  block : ∀ k, k < w.heap.size → k ≠ g → w'.heap[k]? = w.heap[k]?
  new : w'.heap[g]? = some (.cells cs.toArray T (0, 0))
  ok : ∀ φ ∈ L, φ.p w' ∧ ∀ b, φ.S b → w.heap.size ≤ b ∧ b < w'.heap.size
  dis : L.Pairwise fun φ ψ => ∀ b, φ.S b → ¬ ψ.S b
theorem Kn.startW {w : World} {g : Nat} {cs : List Value} {T : TypeId} (h : w.heap[g]? = some (.cells cs.toArray T (0, 0))) : Kn [g] w w [blk g cs T] [] where
  os := rfl
  tape := rfl
  output := rfl
  size := Nat.le_refl _
  block _ _ _ := rfl
  ownS φ hφ b hb := by
    obtain rfl := List.mem_singleton.1 hφ
    have : b = g := hb
    exact .inr (by simp [this])
  ltO φ hφ b hb := by
    obtain rfl := List.mem_singleton.1 hφ
    have : b = g := hb
    subst this
    rcases Nat.lt_or_ge b w.heap.size with h' | h'
    · exact h'
    · rw [Array.getElem?_eq_none h'] at h; cases h
  ltR φ hφ := by cases hφ
  pO φ hφ := by
    obtain rfl := List.mem_singleton.1 hφ
    exact h
  pR φ hφ := by cases hφ
  disO := List.pairwise_singleton _ _
  disR _ _ ψ hψ := by cases hψ
theorem Kn.outW {w0 w : World} {g : Nat} {T : TypeId} {cs : List Value} {L : List Fact} (h : Kn [g] w0 w O R) (hs : SelAll (blk g cs T :: L) O) : FreshW g T cs w0 w L := by
  have h' := h.sel hs (List.Subset.refl R)
  have hd := h'.disO
  rw [List.pairwise_cons] at hd
  refine ⟨h'.os, h'.tape, h'.output, h'.size, fun k hk hne => h'.block k hk (by simpa using hne), h'.pO _ (.head _), fun φ hφ => ⟨h'.pO φ (.tail _ hφ), fun b hb => ⟨?_, h'.ltO φ (.tail _ hφ) b hb⟩⟩, hd.2⟩
  rcases h'.ownS φ (.tail _ hφ) b hb with h1 | h1
  · exact h1
  · have : b = g := by simpa using h1
    subst this
    exact absurd hb (hd.1 φ hφ b rfl)
def RetW {σ : Type} (g : Nat) (T : TypeId) (RA : List Fact) (I : σ → Prop) (V : σ → Value) (CS : σ → List Value) (FF GG : σ → List Fact) (w : World) (e : Ending) (w' : World) : Prop :=
  ∃ s, I s ∧ e = .returned (V s) ∧ FreshW g T (CS s) w w' (FF s) ∧ ∀ φ ∈ GG s, φ.p w' ∧ ∀ b, φ.S b → ∃ ψ ∈ RA, ψ.S b
theorem RetW.mk {σ : Type} {g : Nat} {T : TypeId} {RA : List Fact} {I : σ → Prop} {V : σ → Value} {CS : σ → List Value} {FF GG : σ → List Fact} {w w' : World} {v : Value} {O R : List Fact} (s : σ) (hi : I s) (hv : v = V s) (h : Kn [g] w w' O R) (hs : SelAll (blk g (CS s) T :: FF s) O) (hG : ∀ φ ∈ GG s, φ ∈ R ∧ ∀ b, φ.S b → ∃ ψ ∈ RA, ψ.S b) : RetW g T RA I V CS FF GG w (.returned v) w' :=
  ⟨s, hi, by rw [hv], h.outW hs, fun φ hφ => ⟨h.pR φ (hG φ hφ).1, (hG φ hφ).2⟩⟩
theorem Kn.freshW {E : List Nat} {w0 w w' : World} {g : Nat} {T : TypeId} {cs cs' : List Value} {N O' RA GG : List Fact} (h : Kn E w0 w O R) (hu : Upd (blk g cs T) (blk g cs' T) O O') (hf : FreshW g T cs' w w' N) (hRA : ∀ ψ ∈ RA, ψ ∈ R) (hG : ∀ φ ∈ GG, φ.p w' ∧ ∀ b, φ.S b → ∃ ψ ∈ RA, ψ.S b) : Kn E w0 w' (N ++ O') (GG ++ R) := by
  have h1 : Kn E w0 w' O' R := h.upd hu hf.os hf.tape hf.output hf.size (fun b hb hne => hf.block b hb hne) hf.new (fun b hb => by
    have : b = g := hb
    subst this
    exact ⟨.inl rfl, Nat.lt_of_lt_of_le (h.ltO _ hu.mem b rfl) hf.size⟩)
  have hlt : ∀ φ ∈ O', ∀ b, φ.S b → b < w.heap.size := fun φ hφ b hb => by
    rcases hu.mem' hφ with e | e
    · subst e; exact h.ltO _ hu.mem b hb
    · exact h.ltO φ e b hb
  exact {
    os := h1.os
    tape := h1.tape
    output := h1.output
    size := h1.size
    block := h1.block
    ownS := fun φ hφ b hb => by
      rcases List.mem_append.1 hφ with h2 | h2
      · exact .inl (Nat.le_trans h.size ((hf.ok φ h2).2 b hb).1)
      · exact h1.ownS φ h2 b hb
    ltO := fun φ hφ b hb => by
      rcases List.mem_append.1 hφ with h2 | h2
      · exact ((hf.ok φ h2).2 b hb).2
      · exact h1.ltO φ h2 b hb
    ltR := fun φ hφ b hb => by
      rcases List.mem_append.1 hφ with h2 | h2
      · obtain ⟨ψ, h3, h4⟩ := (hG φ h2).2 b hb
        exact h1.ltR ψ (hRA ψ h3) b h4
      · exact h1.ltR φ h2 b hb
    pO := fun φ hφ => by
      rcases List.mem_append.1 hφ with h2 | h2
      · exact (hf.ok φ h2).1
      · exact h1.pO φ h2
    pR := fun φ hφ => by
      rcases List.mem_append.1 hφ with h2 | h2
      · exact (hG φ h2).1
      · exact h1.pR φ h2
    disO := by
      rw [List.pairwise_append]
      exact ⟨hf.dis, h1.disO, fun φ hφ ψ hψ b h2 h3 => by have := ((hf.ok φ hφ).2 b h2).1; have := hlt ψ hψ b h3; omega⟩
    disR := fun φ hφ ψ hψ b h2 h3 => by
      have key : ∃ χ ∈ R, χ.S b := by
        rcases List.mem_append.1 hψ with h4 | h4
        · obtain ⟨χ, h5, h6⟩ := (hG ψ h4).2 b h3
          exact ⟨χ, hRA χ h5, h6⟩
        · exact ⟨ψ, h4, h3⟩
      obtain ⟨χ, h5, h6⟩ := key
      rcases List.mem_append.1 hφ with h4 | h4
      · have := ((hf.ok φ h4).2 b h2).1; have := h.ltR χ h5 b h6; omega
      · exact h1.disR φ h4 χ h5 b h2 h6 }
theorem mv_call_w {σ : Type} {g : Nat} {T : TypeId} {cs : List Value} {RA : List Fact} {I : σ → Prop} {V : σ → Value} {CS : σ → List Value} {FF GG : σ → List Fact} {O1 OO RR : σ → List Fact} {fid : Nat} {args : List Value} (h : ∀ w, Kn X.E X.w0 w O R → Calls X.P fid args.toArray w (RetW g T RA I V CS FF GG w)) {dd : Nat} (hd : o.dst = some dd) {c : Call} {x : Operand} (ho : o.op = .call c) (hc : c.callee = .value x) (hx : look X.n f x = some (.func (.func fid) #[] #[])) (ha : lookL X.n f c.args.toList = some args) (hok : callable X.P fid = true)
    (hu : ∀ s, Upd (blk g cs T) (blk g (CS s) T) O (O1 s)) (hRA : ∀ ψ ∈ RA, ψ ∈ R) (hcat : ∀ s, catO (FF s) (O1 s) = some (OO s)) (hcatR : ∀ s, catO (GG s) R = some (RR s)) (hg : ∀ s, I s → N ((dd, V s) :: f) (OO s) (RR s)) : Mv X f O R o N :=
  mv_call hd ho hc hx ha hok fun w hk => (h w hk).mono fun e w' ⟨s, hi, he, hf, hG⟩ => ⟨_, _, _, he, by rw [catO_eq (hcat s), catO_eq (hcatR s)]; exact hk.freshW (hu s) hf hRA hG, hg s hi⟩
end
end Go.Proofs.Ytkdphoacniigjaa.Gx
