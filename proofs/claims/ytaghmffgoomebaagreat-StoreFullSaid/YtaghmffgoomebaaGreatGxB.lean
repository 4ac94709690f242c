/- The walk by reckoned steps: slices, strings, calls, drawn regions. -/
import Derived.Test.YtaghmffgoomebaaGreatGxA
import Derived.Lib.SliceRun
import Derived.Laws.Tables
import Derived.Laws.Small
import Derived.Laws.BytesArg
import Derived.Laws.Strings
/-! Eleventh part: slices and nil; an empty slice as one's own; what is built becomes a slice, and is shared; strings' bytes; results that are slices. -/
namespace Go.Proofs.YtaghmffgoomebaaGreat.Gx
open Go.RowKit Mem
set_option linter.unusedVariables false
set_option linter.unusedSimpArgs false
section
variable {X : Cx} {f : Fr} {O R : List Fact} {ks k : List KI} {ops rest : List Oper} {o : Oper} {N : Fr → List Fact → List Fact → Prop}
theorem yd_slice_nil (hT : TabOk X.P X.T) {ty t e sz s : Nat} {z : List Value} {x y : Operand} {yt : TypeId} {A : Option Addr} {n c n' c' : Nat} (ho : o.op = .binOp .eql ty x y yt) (hx : look X.n f x = some (.slice A n c)) (hy : look X.n f y = some (.slice none n' c')) (hty : tfind X.T ty = some ⟨t, .slice e sz, s, z⟩) : Yd X f O R o (.bool A.isNone) := fun a w hr hk => by
  obtain ⟨ht, hk1⟩ := tfind_ok hT hty
  simp only at ht
  subst ht
  have hu := (chk_slice hk1.d).1
  have hg : (eqGuard .eql t x y (.slice A n c) (.slice none n' c')).run X.P w = .ok () w := by
    unfold eqGuard
    split <;> rfl
  have h3 := Lib.run_eql_slice_nil (P := X.P) w t e A n c n' c' hu
  simp only [execOp, ho, hr.look hx, hr.look hy, Sem.run_bind, hg, Result.andThen_ok, h3]
  rfl
/-- '[]T{}': it is one's own. -/
theorem Kn.made {E : List Nat} {w0 w : World} {α : Type} [Inhabited α] {g e base sz : Nat} {enc : α → Nat → Value} {O' : List Fact} (h : Kn E w0 w O R) (hu : Upd (blk g [] e) (own base e sz (.slice (some ⟨g, 0, none⟩) 0 0) enc ([] : List α)) O O') (hb : base ≤ g) : Kn E w0 w O' R := by
  refine h.upd hu rfl rfl rfl (Nat.le_refl _) (fun b hb hne => rfl) ?_ (fun b hb => ?_)
  · have := h.pO _ hu.mem
    exact ⟨by simp [flat], .inr ⟨g, 0, #[], rfl, hb, this, Nat.le_refl _, Nat.zero_le _, by simp, by simp [flat]⟩⟩
  · have hbg : g = b := by
      have h1 : (Value.slice (some ⟨g, 0, none⟩) 0 0).ownBlock = some b := hb
      simpa [Value.ownBlock] using h1
    subst hbg
    exact ⟨.inl rfl, h.ltO _ hu.mem g rfl⟩
/-- 'append([]T{}, ..)' begins so. -/
theorem mv_empty (sz : Nat) {α : Type} [Inhabited α] (enc : α → Nat → Value) {dd : Nat} (hd : o.dst = some dd) (hT : TabOk X.P X.T) {ty e t s t' s' : Nat} {z z' : List Value} {d : TD} (ho : o.op = .buildSlice ty 0 #[])
    (hty : tfind X.T ty = some ⟨t, .slice e sz, s, z⟩) (hte : tfind X.T e = some ⟨t', d, s', z'⟩) (hsz : Nat.blt 0 sz = true) (hzl : Nat.beq z'.length sz = true)
    (hg : ∀ g, N ((dd, .slice (some ⟨g, 0, none⟩) 0 0) :: f) (own 0 e sz (.slice (some ⟨g, 0, none⟩) 0 0) enc ([] : List α) :: O) R) : Mv X f O R o N := fun a w hr hk K Q hK => by
  refine mv_buildSlice (N := fun f' O' R' => ∃ g, f' = ((dd, .slice (some ⟨g, 0, none⟩) 0 0) :: f) ∧ O' = (blk g [] e :: O) ∧ R' = R) hd hT ho rfl hty hte (by rw [Nat.zero_mul]; rfl) hsz hzl rfl (fun g => ⟨g, rfl, rfl, rfl⟩) a w hr hk K Q (fun f' O' R' a' w' hN hr' hk' => ?_)
  obtain ⟨g, rfl, rfl, rfl⟩ := hN
  exact hK _ _ _ _ _ (hg g) hr' (hk'.made (Upd.here O) (Nat.zero_le _))
/-- What was built, as a slice. -/
theorem Kn.freeze {E : List Nat} {w0 w : World} {α : Type} [Inhabited α] {e base sz : Nat} {v : Value} {A : Option Addr} {n c : Nat} {enc : α → Nat → Value} {L : List α} {O' : List Fact} (h : Kn E w0 w O R) (hv : v = .slice A n c) (hu : Upd (own base e sz v enc L) (sl A sz enc L) O O') : Kn E w0 w O' R := by
  subst hv
  have ho : OwnL w base e sz (.slice A n c) enc L := h.pO _ hu.mem
  obtain ⟨A', c', e1, hs, _⟩ := OwnL.sl ho
  injection e1 with e2 _ _
  subst e2
  refine h.upd hu rfl rfl rfl (Nat.le_refl _) (fun b hb hne => rfl) hs (fun b hb => ?_)
  obtain ⟨_, a, ha, hab⟩ := hb
  subst ha
  have hS : (own base e sz (.slice (some a) n c) enc L).S b := by
    show (Value.slice (some a) n c).ownBlock = some b
    simp [Value.ownBlock, hab]
  exact ⟨.inl hS, h.ltO _ hu.mem b hS⟩
theorem own_val {E : List Nat} {w0 w : World} {α : Type} [Inhabited α] {e base sz : Nat} {v : Value} {enc : α → Nat → Value} {L : List α} (h : Kn E w0 w O R) (hm : own base e sz v enc L ∈ O) : ∃ A c, v = .slice A L.length c ∧ L.length ≤ c ∧ c ≤ maxLen ∧ (A = none → c = 0) := by
  obtain ⟨A, c, e1, _, h1, h2, h3, _⟩ := OwnL.sl (h.pO _ hm : OwnL w base e sz v enc L)
  exact ⟨A, c, e1, h1, h2, h3⟩
theorem gk_freeze {α : Type} [Inhabited α] {e base sz : Nat} (v : Value) {enc : α → Nat → Value} {L : List α} {OO : Option Addr → List Fact} (hu : ∀ A, Upd (own base e sz v enc L) (sl A sz enc L) O (OO A))
    (hg : ∀ A c, v = .slice A L.length c → L.length ≤ c → c ≤ maxLen → (A = none → c = 0) → GK X ks f (OO A) R) : GK X ks f O R := .mk fun a w hr hk => by
  obtain ⟨A, c, e1, h1, h2, h3⟩ := own_val hk (hu none).mem
  exact (hg A c e1 h1 h2 h3).out a w hr (hk.freeze e1 (hu A))
theorem g_freeze {α : Type} [Inhabited α] {e base sz : Nat} (v : Value) {enc : α → Nat → Value} {L : List α} {l : List Oper} {OO : Option Addr → List Fact} (hu : ∀ A, Upd (own base e sz v enc L) (sl A sz enc L) O (OO A))
    (hg : ∀ A c, v = .slice A L.length c → L.length ≤ c → c ≤ maxLen → (A = none → c = 0) → G X ops l k f (OO A) R) : G X ops l k f O R := .mk fun a w hr hk => by
  obtain ⟨A, c, e1, h1, h2, h3⟩ := own_val hk (hu none).mem
  exact (hg A c e1 h1 h2 h3).out a w hr (hk.freeze e1 (hu A))
/-- What is one's own is shared from now on. -/
theorem Kn.share {E : List Nat} {w0 w : World} {φ : Fact} {O' : List Fact} (h : Kn E w0 w O R) (hs : Sel φ O O') : Kn E w0 w O' (φ :: R) := by
  have hp := h.perm hs.perm
  have hd := hp.disO
  rw [List.pairwise_cons] at hd
  exact {
    os := h.os
    tape := h.tape
    output := h.output
    size := h.size
    block := h.block
    ownS := fun ψ hψ => hp.ownS ψ (.tail _ hψ)
    ltO := fun ψ hψ => hp.ltO ψ (.tail _ hψ)
    ltR := fun ψ hψ b hb => by
      rcases List.mem_cons.1 hψ with rfl | h1
      · exact hp.ltO _ (.head _) b hb
      · exact h.ltR ψ h1 b hb
    pO := fun ψ hψ => hp.pO ψ (.tail _ hψ)
    pR := fun ψ hψ => by
      rcases List.mem_cons.1 hψ with rfl | h1
      · exact hp.pO _ (.head _)
      · exact h.pR ψ h1
    disO := hd.2
    disR := fun ψ hψ χ hχ b h1 h2 => by
      rcases List.mem_cons.1 hχ with rfl | h3
      · exact hd.1 ψ hψ b h2 h1
      · exact hp.disR ψ (.tail _ hψ) χ h3 b h1 h2 }
theorem gk_share {φ : Fact} {O' : List Fact} (hs : Sel φ O O') (hg : GK X ks f O' (φ :: R)) : GK X ks f O R := .mk fun a w hr hk => hg.out a w hr (hk.share hs)
theorem g_share {φ : Fact} {O' : List Fact} {l : List Oper} (hs : Sel φ O O') (hg : G X ops l k f O' (φ :: R)) : G X ops l k f O R := .mk fun a w hr hk => hg.out a w hr (hk.share hs)
/-! ### what a call hands back that is new -/
structure Fresh (w w' : World) (L : List Fact) : Prop where
  bel : Below w.heap.size w w'
  ok : ∀ φ ∈ L, φ.p w' ∧ ∀ b, φ.S b → w.heap.size ≤ b ∧ b < w'.heap.size
  dis : L.Pairwise fun φ ψ => ∀ b, φ.S b → ¬ ψ.S b
theorem Kn.out {w0 w : World} {L : List Fact} (h : Kn [] w0 w O R) (hs : SelAll L O) : Fresh w0 w L := by
  have h' := h.sel hs (List.Subset.refl R)
  exact ⟨h'.toBelow, fun φ hφ => ⟨h'.pO φ hφ, fun b hb => ⟨(h'.ownS φ hφ b hb).resolve_right (by simp), h'.ltO φ hφ b hb⟩⟩, h'.disO⟩
/-- Some s has I; its value V s is handed back, with its facts. -/
def Ret {σ : Type} (I : σ → Prop) (V : σ → Value) (FF : σ → List Fact) (w : World) (e : Ending) (w' : World) : Prop := ∃ s, I s ∧ e = .returned (V s) ∧ Fresh w w' (FF s)
theorem Ret.mk {σ : Type} {I : σ → Prop} {V : σ → Value} {FF : σ → List Fact} {w w' : World} {v : Value} {O R : List Fact} (s : σ) (hi : I s) (hv : v = V s) (h : Kn [] w w' O R) (hs : SelAll (FF s) O) : Ret I V FF w (.returned v) w' := ⟨s, hi, by rw [hv], h.out hs⟩
/-- A slice, and its numbers. -/
structure SlV where
  A : Option Addr
  n : Nat
  c : Nat
def SlV.v (s : SlV) : Value := .slice s.A s.n s.c
structure SlV.Ok (s : SlV) (m : Nat) : Prop where
  n : s.n = m
  c : s.n ≤ s.c
  mx : s.c ≤ maxLen
  nil : s.A = none → s.c = 0
/-- Where an element of a slice lies, and what it is. -/
theorem Kn.elem {E : List Nat} {w0 w : World} {α : Type} [Inhabited α] {enc : α → Nat → Value} {L : List α} {A : Option Addr} {sz : Nat} (h : Kn E w0 w O R) (hm : sl A sz enc L ∈ R) (k : Nat) (hk : k < L.length) (hsz : 0 < sz) :
    ∃ b off y, A = some ⟨b, off, none⟩ ∧ L[k]? = some y ∧ Kn E w0 w O (row b (off + k * sz) (encF enc y 0 sz) :: R) := by
  obtain ⟨b, off, y, e1, hy, _, _, hc⟩ := Sl.at_ (h.pR _ hm) k hk
  refine ⟨b, off, y, e1, hy, h.addR _ (fun i v hv => ?_) (fun b' hb' => ?_) (fun φ hφ b' hS hb' => ?_)⟩
  · obtain ⟨hi, rfl⟩ := encF_get enc y sz 0 i v hv
    rw [Nat.zero_add]
    exact hc i hi
  · have : b' = b := hb'
    subst this
    exact lt_of_cell (hc 0 hsz)
  · have : b' = b := hb'
    subst this
    exact h.disR φ hφ _ hm b' hS ⟨by omega, ⟨_, e1, rfl⟩⟩
theorem gk_elem {α : Type} [Inhabited α] {enc : α → Nat → Value} {L : List α} {A : Option Addr} {sz : Nat} (k0 : Nat) (hm : sl A sz enc L ∈ R) (hk : k0 < L.length) (hsz : 0 < sz)
    (hg : ∀ b off y, A = some ⟨b, off, none⟩ → L[k0]? = some y → GK X ks f O (row b (off + k0 * sz) (encF enc y 0 sz) :: R)) : GK X ks f O R := .mk fun a w hr hk' => by
  obtain ⟨b, off, y, e1, e2, h⟩ := hk'.elem hm k0 hk hsz
  exact (hg b off y e1 e2).out a w hr h
theorem gk_nilsl {α : Type} [Inhabited α] (A : Option Addr) (sz : Nat) (enc : α → Nat → Value) (hg : GK X ks f (sl A sz enc ([] : List α) :: O) R) : GK X ks f O R := .mk fun a w hr hk =>
  hg.out a w hr (hk.addO _ Sl.nil (fun b hb => absurd hb.1 (by simp)))
theorem ys_eql {S : List Fact} {t n : Nat} {x y : Operand} {yt : TypeId} {xs ys : List Value} {l : List (Int × Int)} (ho : o.op = .binOp .eql t x y yt) (hx : look X.n f x = some (.agg xs.toArray)) (hy : look X.n f y = some (.agg ys.toArray)) (hp : pairs xs ys = some l) (hn : xs.length = n) (hB : eqOk X.P t n = true) : Ys X S f o (.bool (tB (conjP l))) := fun a w hr hk => by
  unfold eqOk at hB
  rw [Bool.and_eq_true, Bool.and_eq_true] at hB
  have h1 := eq_flat 10000 t n hB.1.1 xs ys l w hn hp
  rw [hB.1.2] at h1
  have h2 : (eqGuard .eql t x y (.agg xs.toArray) (.agg ys.toArray)).run X.P w = .ok () w := run_eqGuard_agg w _ _ _ _ _ _ (by simpa using hB.2)
  have h3 : (Op.equalIn 10000 t (.agg xs.toArray) (.agg ys.toArray)).run X.P w = .ok (tB (conjP l)) w := h1
  simp only [execOp, ho, hr.look hx, hr.look hy, Sem.run_bind, h2, Result.andThen_ok, run_eql_struct, h3]
  rfl
theorem ys_neq {S : List Fact} {t n : Nat} {x y : Operand} {yt : TypeId} {xs ys : List Value} {l : List (Int × Int)} (ho : o.op = .binOp .neq t x y yt) (hx : look X.n f x = some (.agg xs.toArray)) (hy : look X.n f y = some (.agg ys.toArray)) (hp : pairs xs ys = some l) (hn : xs.length = n) (hB : eqOk X.P t n = true) : Ys X S f o (.bool (tB (¬ conjP l))) := fun a w hr hk => by
  unfold eqOk at hB
  rw [Bool.and_eq_true, Bool.and_eq_true] at hB
  have h1 := eq_flat 10000 t n hB.1.1 xs ys l w hn hp
  rw [hB.1.2] at h1
  have h2 : (eqGuard .neq t x y (.agg xs.toArray) (.agg ys.toArray)).run X.P w = .ok () w := run_eqGuard_agg w _ _ _ _ _ _ (by simpa using hB.2)
  have h3 : (Op.equalIn 10000 t (.agg xs.toArray) (.agg ys.toArray)).run X.P w = .ok (tB (conjP l)) w := h1
  rw [← not_tB]
  simp only [execOp, ho, hr.look hx, hr.look hy, Sem.run_bind, h2, Result.andThen_ok, run_neq_struct, h3]
  rfl
/-- A list is another one. -/
theorem list_ne {α : Type} {L M : List α} {k : Nat} {x y : α} (hx : L[k]? = some x) (hy : M[k]? = some y) (h : x ≠ y) : L ≠ M := fun e => by
  subst e
  rw [hx] at hy
  injection hy with hy
  exact h hy
theorem list_eq {α : Type} {L M : List α} (hl : L.length = M.length) (h : ∀ i, i < L.length → L[i]? = M[i]?) : L = M := by
  apply List.ext_getElem?
  intro i
  by_cases hi : i < L.length
  · exact h i hi
  · rw [List.getElem?_eq_none (by omega), List.getElem?_eq_none (by omega)]
/-- An array, built. -/
theorem yd_build_arr (hT : TabOk X.P X.T) {ty t n e sz s t' s' : Nat} {z z' cs : List Value} {d : TD} {ps : Array (Nat × Operand)} {l : List (Nat × Value)} (ho : o.op = .build ty ps) (hl : lookAll X.n f ps.toList = some l)
    (hty : tfind X.T ty = some ⟨t, .array n e sz, s, z⟩) (hte : tfind X.T e = some ⟨t', d, s', z'⟩) (hsz : Nat.blt 0 sz = true) (hf : fillL (segs sz (agg? d) 0 n) z l = some cs) : Yd X f O R o (.agg cs.toArray) := fun a w hr hk => by
  obtain ⟨ht, hk1⟩ := tfind_ok hT hty
  obtain ⟨hte1, hk2⟩ := tfind_ok hT hte
  simp only at ht hte1
  subst ht
  subst hte1
  obtain ⟨hu, hes⟩ := chk_array hk1.d
  have hz := hk1.z
  have hsz' : 0 < sz := Nat.le_of_ble_eq_true hsz
  obtain ⟨ie, hie, hies⟩ := szIs_get hes
  cases hi : X.P.info? t with
  | none => simp [hi] at hz
  | some inf =>
    cases hz0 : inf.zero with
    | none => simp [hi, hz0] at hz
    | some zv =>
      simp only [hi, hz0, Option.bind_some, Option.map_some] at hz
      have hz' : zv.cells = z.toArray := by injection hz
      have hfill := fill_eq (P := X.P) (place := fun i => some (i * ie.size, ie.size)) (fun i o n g h => by
        obtain ⟨h1, h2⟩ := segs_get sz (agg? d) _ 0 i o n g h
        subst h1
        subst h2
        rw [hies]
        exact ⟨by simp, by omega⟩) hf
      have hb : X.P.built t l = some cs.toArray := by
        unfold Program.built
        simp only [hi, hu, hz0, hie, hz']
        exact hfill
      have e1 : (ps.map fun x => (x.1, a.eval x.2)).toList = l := by rw [← lookAll_eq hr hl]; simp
      have h3 := run_build (P := X.P) w t (ps.map fun x => (x.1, a.eval x.2)) cs.toArray (by rw [e1]; exact hb)
      simp [execOp, ho, h3]
theorem gk_again_sel {σ : Type} {I : σ → Prop} {F : σ → Fr} {OO RR : σ → List Fact} {μ : σ → Nat} {m : Nat} (h : nx 1000 ks = some (.inv (LInv X I F OO RR μ m))) (s' : σ) (hi : I s') (hm : μ s' < m) (hf : FSub X.n f (F s')) (hO : SelAll (OO s') O) (hR : RR s' ⊆ R) : GK X ks f O R := .mk fun a w hr hk =>
  nx_sound h ⟨s', hi, hm, hr.sub hf, hk.sel hO hR⟩
theorem gk_sel {f' : Fr} {O' R' : List Fact} (hf : FSub X.n f f') (hO : SelAll O' O) (hR : R' ⊆ R) (hg : GK X ks f' O' R') : GK X ks f O R := .mk fun a w hr hk => hg.out a w (hr.sub hf) (hk.sel hO hR)
end
end Go.Proofs.YtaghmffgoomebaaGreat.Gx
/-! Twelfth part: calls that make a slice grow, or hand back one's own; literals as one's own; facts side by side. -/
namespace Go.Proofs.YtaghmffgoomebaaGreat.Gx
open Go.RowKit Mem
set_option linter.unusedVariables false
set_option linter.unusedSimpArgs false
def catO : List Fact → List Fact → Option (List Fact)
  | [], O => some O
  | x :: r, O => match catO r O with | some l => some (x :: l) | none => none
theorem catO_eq : ∀ {L O O' : List Fact}, catO L O = some O' → O' = L ++ O
  | [], O, O', h => by injection h with h; subst h; rfl
  | x :: r, O, O', h => by
    unfold catO at h
    split at h
    · rename_i l hl
      injection h with h
      subst h
      rw [catO_eq hl]; rfl
    · cases h
section
variable {X : Cx} {f : Fr} {O R : List Fact} {ks k : List KI} {ops rest : List Oper} {o : Oper} {N : Fr → List Fact → List Fact → Prop}
theorem mv_call_rt {σ : Type} {I : σ → Prop} {V : σ → Value} {FF OO : σ → List Fact} {fid : Nat} {args : List Value} (h : ∀ w, Kn X.E X.w0 w O R → Calls X.P fid args.toArray w (Ret I V FF w)) {dd : Nat} (hd : o.dst = some dd) {c : Call} {x : Operand} (ho : o.op = .call c) (hc : c.callee = .value x) (hx : look X.n f x = some (.func (.func fid) #[] #[])) (ha : lookL X.n f c.args.toList = some args) (hok : callable X.P fid = true)
    (hcat : ∀ s, catO (FF s) O = some (OO s)) (hg : ∀ s, I s → N ((dd, V s) :: f) (OO s) R) : Mv X f O R o N :=
  mv_call hd ho hc hx ha hok fun w hk => (h w hk).mono fun e w' ⟨s, hi, he, hf⟩ => ⟨_, _, _, he, by rw [catO_eq (hcat s)]; exact hk.fresh hf.bel _ hf.ok hf.dis, hg s hi⟩
theorem mv_call_grow {α : Type} [Inhabited α] {e base sz : Nat} {v : Value} {enc : α → Nat → Value} {L M : List α} {OO : Value → List Fact} {fid : Nat} {args : List Value} (h : ∀ w, Kn X.E X.w0 w O R → Calls X.P fid args.toArray w (fun e' w' => ∃ v', e' = .returned v' ∧ OwnL w' base e sz v' enc (L ++ M) ∧ Grew w w' v v')) {dd : Nat} (hd : o.dst = some dd) {c : Call} {x : Operand} (ho : o.op = .call c) (hc : c.callee = .value x) (hx : look X.n f x = some (.func (.func fid) #[] #[])) (ha : lookL X.n f c.args.toList = some args) (hok : callable X.P fid = true)
    (hu : ∀ v', Upd (own base e sz v enc L) (own base e sz v' enc (L ++ M)) O (OO v')) (hg : ∀ v', N ((dd, v') :: f) (OO v') R) : Mv X f O R o N :=
  mv_call hd ho hc hx ha hok fun w hk => (h w hk).mono fun e w' ⟨v', he, h2, h3⟩ => ⟨v', _, _, he, Kn.grew hk h3 h2 (hu v'), hg v'⟩
/-- A literal of one-cell elements: it is one's own. -/
theorem Kn.lit {E : List Nat} {w0 w : World} {α : Type} [Inhabited α] {g e n : Nat} {cs : List Value} {enc : α → Nat → Value} (M : List α) {O' : List Fact} (h : Kn E w0 w O R) (hn : M.length = n) (hm : n ≤ maxLen) (hcs : cs = M.map (fun x => enc x 0)) (hu : Upd (blk g cs e) (own 0 e 1 (.slice (some ⟨g, 0, none⟩) n n) enc M) O O') : Kn E w0 w O' R := by
  subst hcs
  subst hn
  refine h.upd hu rfl rfl rfl (Nat.le_refl _) (fun b hb hne => rfl) ?_ (fun b hb => ?_)
  · have := h.pO _ hu.mem
    have hfl : flat 1 (LF enc M) M.length = M.map (fun x => enc x 0) := by
      apply List.ext_getElem?
      intro i
      by_cases hi : i < M.length
      · rw [flat_get _ _ _ _ (by omega), List.getElem?_map, List.getElem?_eq_getElem hi]
        simp [LF, List.getD_eq_getElem?_getD, List.getElem?_eq_getElem hi, Nat.mod_one]
      · rw [List.getElem?_eq_none (by rw [flat_length]; omega), List.getElem?_eq_none (by simp; omega)]
    exact ⟨by rw [flat_length], .inr ⟨g, M.length, (M.map (fun x => enc x 0)).toArray, rfl, Nat.zero_le _, this, Nat.le_refl _, hm, by simp, by rw [hfl]; simp [List.take_of_length_le]⟩⟩
  · have hbg : g = b := by
      have h1 : (Value.slice (some ⟨g, 0, none⟩) M.length M.length).ownBlock = some b := hb
      simpa [Value.ownBlock] using h1
    subst hbg
    exact ⟨.inl rfl, h.ltO _ hu.mem g rfl⟩
theorem gk_lit {α : Type} [Inhabited α] (g n : Nat) {e : Nat} {cs : List Value} {enc : α → Nat → Value} (M : List α) {O' : List Fact} (hn : M.length = n) (hm : n ≤ maxLen) (hcs : cs = M.map (fun x => enc x 0)) (hu : Upd (blk g cs e) (own 0 e 1 (.slice (some ⟨g, 0, none⟩) n n) enc M) O O') (hg : GK X ks f O' R) : GK X ks f O R := .mk fun a w hr hk =>
  hg.out a w hr (hk.lit M hn hm hcs hu)
end
end Go.Proofs.YtaghmffgoomebaaGreat.Gx
/-! Thirteenth part: regions that draw their order: orders that meet again are walked on once. -/
namespace Go.Proofs.YtaghmffgoomebaaGreat.Gx
open Go.RowKit Mem
set_option linter.unusedVariables false
set_option linter.unusedSimpArgs false
section
variable {X : Cx} {f : Fr} {O R : List Fact} {ks k : List KI} {ops rest : List Oper} {o : Oper} {S : List Fact} {C : Fr → List Fact → List Fact → Prop} {m : Nat} {ls : List Bool}
theorem SelAll.refl : ∀ (O : List Fact), SelAll O O
  | [] => .nil
  | _ :: r => .cons .here (SelAll.refl r)
theorem gb_say (t : Nat) {v : Value} (u : Value) (hl : look X.n f (.tmp t) = some v) (e : v = u) (hg : GB X S ops m ls C k ((t, u) :: f) O R) : GB X S ops m ls C k f O R := .mk fun a w hr hk => hg.out a w (hr.re hl e) hk
theorem g_elem {α : Type} [Inhabited α] {enc : α → Nat → Value} {L : List α} {A : Option Addr} {sz : Nat} {l : List Oper} (k0 : Nat) (hm : sl A sz enc L ∈ R) (hk : k0 < L.length) (hsz : 0 < sz)
    (hg : ∀ b off y, A = some ⟨b, off, none⟩ → L[k0]? = some y → G X ops l k f O (row b (off + k0 * sz) (encF enc y 0 sz) :: R)) : G X ops l k f O R := .mk fun a w hr hk' => by
  obtain ⟨b, off, y, e1, e2, h⟩ := hk'.elem hm k0 hk hsz
  exact (hg b off y e1 e2).out a w hr h
/-- The one that may come up next. -/
theorem gb_only (j : Nat) (hr : Region.ready .any ops.toArray ls.toArray = [j]) (ho : ops[j]? = some o) (hw : wantG X.n f ops o.guard = some true) (hm : Mv X f O R o (fun f' O' R' => SubF S O' R' ∧ GB X S ops m (ls.set j true) C k f' O' R')) : GB X S ops (m + 1) ls C k f O R :=
  gb_all (by rw [hr]; rfl) fun i _ hi => by
    rw [hr] at hi
    have e : i = j := by simpa using hi
    subst e
    exact ⟨o, ho, hw, hm⟩
end
end Go.Proofs.YtaghmffgoomebaaGreat.Gx
/-! Fourteenth part: slices of slices; calls that write one block of the caller's. -/
namespace Go.Proofs.YtaghmffgoomebaaGreat.Gx
open Go.RowKit Mem
set_option linter.unusedVariables false
set_option linter.unusedSimpArgs false
/-- Where a slice of a slice begins. -/
def shA (a : Option Addr) (l m s : Nat) : Option Addr := if m = l then a else a.map (·.add (l * s))
theorem shA_block {a : Option Addr} {l m s : Nat} {x : Addr} (h : shA a l m s = some x) : ∃ y, a = some y ∧ y.block = x.block := by
  unfold shA at h
  split at h
  · exact ⟨x, h, rfl⟩
  · cases a with
    | none => cases h
    | some y =>
      simp at h
      subst h
      refine ⟨y, rfl, ?_⟩
      unfold Addr.add
      split <;> rfl
theorem elem_of {P : Program} {t e : TypeId} (h : P.underlying t = some (.slice e)) : P.elem t = e := by simp [Program.elem, h]
section
variable {α : Type} [Inhabited α] {w : World} {A : Option Addr} {sz : Nat} {enc : α → Nat → Value} {L : List α}
theorem sl_sub (h : Sl w A sz enc L) (l m k : Nat) (hm : L.length ≤ m) : Sl w (shA A l m sz) sz enc ((L.drop l).take k) := by
  by_cases hl : l < L.length
  · obtain ⟨b, off, e, hs⟩ := Sl.drop h l hl
    have : shA A l m sz = some ⟨b, off + l * sz, none⟩ := by
      unfold shA
      rw [if_neg (by omega), e]
      simp [add_lit]
    rw [this]
    exact Sl.take hs k
  · rw [List.drop_of_length_le (by omega), List.take_nil]
    exact Sl.nil
theorem sl_sub_S {l m k b : Nat} (h : (sl (shA A l m sz) sz enc ((L.drop l).take k)).S b) : (sl A sz enc L).S b := by
  obtain ⟨h1, a, ha, hab⟩ := h
  obtain ⟨y, e1, e2⟩ := shA_block ha
  refine ⟨?_, y, e1, e2.trans hab⟩
  rw [List.length_take, List.length_drop] at h1
  omega
end
section
variable {X : Cx} {f : Fr} {O R : List Fact} {ks k : List KI} {ops rest : List Oper} {o : Oper} {S : List Fact} {N : Fr → List Fact → List Fact → Prop}
theorem run_sl {P : Program} {t e sz : Nat} (hu : P.underlying t = some (.slice e)) (hs : szIs P e sz = true) (w : World) (a : Option Addr) (n c : Nat) : P.underlying t = some (.slice (P.elem t)) ∧ (sizeOf (P.elem t)).run P w = .ok sz w := by
  have he := elem_of hu
  exact ⟨by rw [he]; exact hu, by rw [he]; exact run_sizeOf hs w⟩
theorem ys_slice_l (hT : TabOk X.P X.T) {ty t e sz s : Nat} {z : List Value} {x lo : Operand} {A : Option Addr} {n c : Nat} {kl : IntKind} {iv : Int} (j : Nat) (ho : o.op = .slice ty x (some lo) none none) (hx : look X.n f x = some (.slice A n c)) (hl : look X.n f lo = some (.int kl iv)) (hty : tfind X.T ty = some ⟨t, .slice e sz, s, z⟩)
    (hj : iv = j) (hjn : j ≤ n) : Ys X S f o (.slice (shA A j c sz) (n - j) (c - j)) := fun a w hr hk => by
  obtain ⟨ht, hk1⟩ := tfind_ok hT hty
  simp only at ht
  subst ht
  subst hj
  obtain ⟨hu0, hes⟩ := chk_slice hk1.d
  have hu : X.P.underlying t = some (.slice e) := hu0
  obtain ⟨h1, h2⟩ := run_sl hu hes w A n c
  have h3 := run_slice_l (P := X.P) (w := w) t A n c h1 kl (j : Int) (by omega) (by omega)
  rw [h2] at h3
  simp only [Result.andThen_ok, sliced, Int.toNat_natCast] at h3
  simp [execOp, ho, hr.look hx, hr.look hl, run_sliceAt_slice (P := X.P) w t _ _ _ _ h1, h3, shA]
theorem ys_slice_h (hT : TabOk X.P X.T) {ty t e sz s : Nat} {z : List Value} {x hi : Operand} {A : Option Addr} {n c : Nat} {kl : IntKind} {iv : Int} (j : Nat) (ho : o.op = .slice ty x none (some hi) none) (hx : look X.n f x = some (.slice A n c)) (hl : look X.n f hi = some (.int kl iv)) (hty : tfind X.T ty = some ⟨t, .slice e sz, s, z⟩)
    (hj : iv = j) (hjn : j ≤ c) : Ys X S f o (.slice (shA A 0 c sz) j c) := fun a w hr hk => by
  obtain ⟨ht, hk1⟩ := tfind_ok hT hty
  simp only at ht
  subst ht
  subst hj
  obtain ⟨hu0, hes⟩ := chk_slice hk1.d
  have hu : X.P.underlying t = some (.slice e) := hu0
  obtain ⟨h1, h2⟩ := run_sl hu hes w A n c
  have h3 := run_slice_h (P := X.P) (w := w) t A n c h1 kl (j : Int) (by omega) (by omega)
  rw [h2] at h3
  simp only [Result.andThen_ok, sliced, Int.toNat_natCast, Nat.sub_zero] at h3
  simp [execOp, ho, hr.look hx, hr.look hl, run_sliceAt_slice (P := X.P) w t _ _ _ _ h1, h3, shA]
theorem ys_slice_lh (hT : TabOk X.P X.T) {ty t e sz s : Nat} {z : List Value} {x lo hi : Operand} {A : Option Addr} {n c : Nat} {kl kh : IntKind} {iv ih : Int} (j h : Nat) (ho : o.op = .slice ty x (some lo) (some hi) none) (hx : look X.n f x = some (.slice A n c)) (hl : look X.n f lo = some (.int kl iv)) (hh : look X.n f hi = some (.int kh ih)) (hty : tfind X.T ty = some ⟨t, .slice e sz, s, z⟩)
    (hj : iv = j) (hih : ih = h) (hjh : j ≤ h) (hhc : h ≤ c) : Ys X S f o (.slice (shA A j c sz) (h - j) (c - j)) := fun a w hr hk => by
  obtain ⟨ht, hk1⟩ := tfind_ok hT hty
  simp only at ht
  subst ht
  subst hj
  subst hih
  obtain ⟨hu0, hes⟩ := chk_slice hk1.d
  have hu : X.P.underlying t = some (.slice e) := hu0
  obtain ⟨h1, h2⟩ := run_sl hu hes w A n c
  have h3 := run_slice_lh (P := X.P) (w := w) t A n c h1 kl kh (j : Int) (h : Int) (by omega) (by omega) (by omega)
  rw [h2] at h3
  simp only [Result.andThen_ok, sliced, Int.toNat_natCast] at h3
  simp [execOp, ho, hr.look hx, hr.look hl, hr.look hh, run_sliceAt_slice (P := X.P) w t _ _ _ _ h1, h3, shA]
theorem Ys.yd {v : Value} (h : Ys X [] f o v) : Yd X f O R o v := fun a w hr _ => h a w hr (fun _ h => by cases h)
/-- A part of a slice is a slice. -/
theorem Kn.sub {E : List Nat} {w0 w : World} {α : Type} [Inhabited α] {enc : α → Nat → Value} {L : List α} {A : Option Addr} {sz : Nat} (h : Kn E w0 w O R) (hm : sl A sz enc L ∈ R) (l m k : Nat) (hl : L.length ≤ m) : Kn E w0 w O (sl (shA A l m sz) sz enc ((L.drop l).take k) :: R) :=
  h.addR _ (sl_sub (h.pR _ hm) l m k hl) (fun b hb => h.ltR _ hm b (sl_sub_S hb)) (fun φ hφ b hS hb => h.disR φ hφ _ hm b hS (sl_sub_S hb))
/-! ### a call that writes one old block -/
structure FreshW (g : Nat) (T : TypeId) (cs : List Value) (w w' : World) (L : List Fact) : Prop where
  os : w'.os = w.os
  tape : w'.tape = w.tape
  output : w'.output = w.output
  size : w.heap.size ≤ w'.heap.size
  block : ∀ k, k < w.heap.size → k ≠ g → w'.heap[k]? = w.heap[k]?
  new : w'.heap[g]? = some (.cells cs.toArray T (0, 0))
  ok : ∀ φ ∈ L, φ.p w' ∧ ∀ b, φ.S b → w.heap.size ≤ b ∧ b < w'.heap.size
  dis : L.Pairwise fun φ ψ => ∀ b, φ.S b → ¬ ψ.S b
theorem Kn.startW {w : World} {g : Nat} {cs : List Value} {T : TypeId} (h : w.heap[g]? = some (.cells cs.toArray T (0, 0))) : Kn [g] w w [blk g cs T] [] where
  os := rfl
  tape := rfl
  output := rfl
  size := Nat.le_refl _
  block _ _ _ := rfl
  ownS φ hφ b hb := by
    obtain rfl := List.mem_singleton.1 hφ
    have : b = g := hb
    exact .inr (by simp [this])
  ltO φ hφ b hb := by
    obtain rfl := List.mem_singleton.1 hφ
    have : b = g := hb
    subst this
    rcases Nat.lt_or_ge b w.heap.size with h' | h'
    · exact h'
    · rw [Array.getElem?_eq_none h'] at h; cases h
  ltR φ hφ := by cases hφ
  pO φ hφ := by
    obtain rfl := List.mem_singleton.1 hφ
    exact h
  pR φ hφ := by cases hφ
  disO := List.pairwise_singleton _ _
  disR _ _ ψ hψ := by cases hψ
theorem Kn.outW {w0 w : World} {g : Nat} {T : TypeId} {cs : List Value} {L : List Fact} (h : Kn [g] w0 w O R) (hs : SelAll (blk g cs T :: L) O) : FreshW g T cs w0 w L := by
  have h' := h.sel hs (List.Subset.refl R)
  have hd := h'.disO
  rw [List.pairwise_cons] at hd
  refine ⟨h'.os, h'.tape, h'.output, h'.size, fun k hk hne => h'.block k hk (by simpa using hne), h'.pO _ (.head _), fun φ hφ => ⟨h'.pO φ (.tail _ hφ), fun b hb => ⟨?_, h'.ltO φ (.tail _ hφ) b hb⟩⟩, hd.2⟩
  rcases h'.ownS φ (.tail _ hφ) b hb with h1 | h1
  · exact h1
  · have : b = g := by simpa using h1
    subst this
    exact absurd hb (hd.1 φ hφ b rfl)
def RetW {σ : Type} (g : Nat) (T : TypeId) (RA : List Fact) (I : σ → Prop) (V : σ → Value) (CS : σ → List Value) (FF GG : σ → List Fact) (w : World) (e : Ending) (w' : World) : Prop :=
  ∃ s, I s ∧ e = .returned (V s) ∧ FreshW g T (CS s) w w' (FF s) ∧ ∀ φ ∈ GG s, φ.p w' ∧ ∀ b, φ.S b → ∃ ψ ∈ RA, ψ.S b
theorem RetW.mk {σ : Type} {g : Nat} {T : TypeId} {RA : List Fact} {I : σ → Prop} {V : σ → Value} {CS : σ → List Value} {FF GG : σ → List Fact} {w w' : World} {v : Value} {O R : List Fact} (s : σ) (hi : I s) (hv : v = V s) (h : Kn [g] w w' O R) (hs : SelAll (blk g (CS s) T :: FF s) O) (hG : ∀ φ ∈ GG s, φ ∈ R ∧ ∀ b, φ.S b → ∃ ψ ∈ RA, ψ.S b) : RetW g T RA I V CS FF GG w (.returned v) w' :=
  ⟨s, hi, by rw [hv], h.outW hs, fun φ hφ => ⟨h.pR φ (hG φ hφ).1, (hG φ hφ).2⟩⟩
theorem Kn.freshW {E : List Nat} {w0 w w' : World} {g : Nat} {T : TypeId} {cs cs' : List Value} {N O' RA GG : List Fact} (h : Kn E w0 w O R) (hu : Upd (blk g cs T) (blk g cs' T) O O') (hf : FreshW g T cs' w w' N) (hRA : ∀ ψ ∈ RA, ψ ∈ R) (hG : ∀ φ ∈ GG, φ.p w' ∧ ∀ b, φ.S b → ∃ ψ ∈ RA, ψ.S b) : Kn E w0 w' (N ++ O') (GG ++ R) := by
  have h1 : Kn E w0 w' O' R := h.upd hu hf.os hf.tape hf.output hf.size (fun b hb hne => hf.block b hb hne) hf.new (fun b hb => by
    have : b = g := hb
    subst this
    exact ⟨.inl rfl, Nat.lt_of_lt_of_le (h.ltO _ hu.mem b rfl) hf.size⟩)
  have hlt : ∀ φ ∈ O', ∀ b, φ.S b → b < w.heap.size := fun φ hφ b hb => by
    rcases hu.mem' hφ with e | e
    · subst e; exact h.ltO _ hu.mem b hb
    · exact h.ltO φ e b hb
  exact {
    os := h1.os
    tape := h1.tape
    output := h1.output
    size := h1.size
    block := h1.block
    ownS := fun φ hφ b hb => by
      rcases List.mem_append.1 hφ with h2 | h2
      · exact .inl (Nat.le_trans h.size ((hf.ok φ h2).2 b hb).1)
      · exact h1.ownS φ h2 b hb
    ltO := fun φ hφ b hb => by
      rcases List.mem_append.1 hφ with h2 | h2
      · exact ((hf.ok φ h2).2 b hb).2
      · exact h1.ltO φ h2 b hb
    ltR := fun φ hφ b hb => by
      rcases List.mem_append.1 hφ with h2 | h2
      · obtain ⟨ψ, h3, h4⟩ := (hG φ h2).2 b hb
        exact h1.ltR ψ (hRA ψ h3) b h4
      · exact h1.ltR φ h2 b hb
    pO := fun φ hφ => by
      rcases List.mem_append.1 hφ with h2 | h2
      · exact (hf.ok φ h2).1
      · exact h1.pO φ h2
    pR := fun φ hφ => by
      rcases List.mem_append.1 hφ with h2 | h2
      · exact (hG φ h2).1
      · exact h1.pR φ h2
    disO := by
      rw [List.pairwise_append]
      exact ⟨hf.dis, h1.disO, fun φ hφ ψ hψ b h2 h3 => by have := ((hf.ok φ hφ).2 b h2).1; have := hlt ψ hψ b h3; omega⟩
    disR := fun φ hφ ψ hψ b h2 h3 => by
      have key : ∃ χ ∈ R, χ.S b := by
        rcases List.mem_append.1 hψ with h4 | h4
        · obtain ⟨χ, h5, h6⟩ := (hG ψ h4).2 b h3
          exact ⟨χ, hRA χ h5, h6⟩
        · exact ⟨ψ, h4, h3⟩
      obtain ⟨χ, h5, h6⟩ := key
      rcases List.mem_append.1 hφ with h4 | h4
      · have := ((hf.ok φ h4).2 b h2).1; have := h.ltR χ h5 b h6; omega
      · exact h1.disR φ h4 χ h5 b h2 h6 }
theorem mv_call_w {σ : Type} {g : Nat} {T : TypeId} {cs : List Value} {RA : List Fact} {I : σ → Prop} {V : σ → Value} {CS : σ → List Value} {FF GG : σ → List Fact} {O1 OO RR : σ → List Fact} {fid : Nat} {args : List Value} (h : ∀ w, Kn X.E X.w0 w O R → Calls X.P fid args.toArray w (RetW g T RA I V CS FF GG w)) {dd : Nat} (hd : o.dst = some dd) {c : Call} {x : Operand} (ho : o.op = .call c) (hc : c.callee = .value x) (hx : look X.n f x = some (.func (.func fid) #[] #[])) (ha : lookL X.n f c.args.toList = some args) (hok : callable X.P fid = true)
    (hu : ∀ s, Upd (blk g cs T) (blk g (CS s) T) O (O1 s)) (hRA : ∀ ψ ∈ RA, ψ ∈ R) (hcat : ∀ s, catO (FF s) (O1 s) = some (OO s)) (hcatR : ∀ s, catO (GG s) R = some (RR s)) (hg : ∀ s, I s → N ((dd, V s) :: f) (OO s) (RR s)) : Mv X f O R o N :=
  mv_call hd ho hc hx ha hok fun w hk => (h w hk).mono fun e w' ⟨s, hi, he, hf, hG⟩ => ⟨_, _, _, he, by rw [catO_eq (hcat s), catO_eq (hcatR s)]; exact hk.freshW (hu s) hf hRA hG, hg s hi⟩
end
end Go.Proofs.YtaghmffgoomebaaGreat.Gx
/-! Fifteenth part: min, max; parts of slices. -/
namespace Go.Proofs.YtaghmffgoomebaaGreat.Gx
open Go.RowKit Mem
set_option linter.unusedVariables false
set_option linter.unusedSimpArgs false
section
variable {X : Cx} {f : Fr} {O R : List Fact} {ks k : List KI} {ops rest : List Oper} {o : Oper} {S : List Fact} {N : Fr → List Fact → List Fact → Prop}
theorem ys_min {c : Call} {k1 k2 : IntKind} {x y : Int} (u : Int) (ho : o.op = .call c) (hc : c.callee = .builtin .min) (ha : lookL X.n f c.args.toList = some [.int k1 x, .int k2 y]) (hu : u = if y < x then y else x) : Ys X S f o (.int k1 u) := fun a w hr hk => by
  have e1 : c.args.map a.eval = #[.int k1 x, .int k2 y] := by apply Array.ext'; simpa using lookL_eq hr ha
  subst hu
  have h3 := fun ts t => run_min_int2 (P := X.P) (w := w) ts t k1 k2 x y
  simp [execOp, ho, resolve, hc, e1, invoke, builtin, h3]
theorem ys_max {c : Call} {k1 k2 : IntKind} {x y : Int} (u : Int) (ho : o.op = .call c) (hc : c.callee = .builtin .max) (ha : lookL X.n f c.args.toList = some [.int k1 x, .int k2 y]) (hu : u = if y > x then y else x) : Ys X S f o (.int k1 u) := fun a w hr hk => by
  have e1 : c.args.map a.eval = #[.int k1 x, .int k2 y] := by apply Array.ext'; simpa using lookL_eq hr ha
  subst hu
  have h3 := fun ts t => run_max_int2 (P := X.P) (w := w) ts t k1 k2 x y
  simp [execOp, ho, resolve, hc, e1, invoke, builtin, h3]
theorem Kn.dropS {E : List Nat} {w0 w : World} {α : Type} [Inhabited α] {enc : α → Nat → Value} {L : List α} {A : Option Addr} {sz : Nat} (h : Kn E w0 w O R) (hm : sl A sz enc L ∈ R) (l m : Nat) (hl : L.length ≤ m) : Kn E w0 w O (sl (shA A l m sz) sz enc (L.drop l) :: R) := by
  have := h.sub hm l m L.length hl
  rwa [List.take_of_length_le (by rw [List.length_drop]; omega)] at this
theorem Kn.takeS {E : List Nat} {w0 w : World} {α : Type} [Inhabited α] {enc : α → Nat → Value} {L : List α} {A : Option Addr} {sz : Nat} (h : Kn E w0 w O R) (hm : sl A sz enc L ∈ R) (k0 m : Nat) (hl : L.length ≤ m) : Kn E w0 w O (sl (shA A 0 m sz) sz enc (L.take k0) :: R) := by
  have := h.sub hm 0 m k0 hl
  rwa [List.drop_zero] at this
theorem gk_dropS {α : Type} [Inhabited α] {enc : α → Nat → Value} {L : List α} {A : Option Addr} {sz : Nat} (l m : Nat) (hm : sl A sz enc L ∈ R) (hl : L.length ≤ m) (hg : GK X ks f O (sl (shA A l m sz) sz enc (L.drop l) :: R)) : GK X ks f O R := .mk fun a w hr hk => hg.out a w hr (hk.dropS hm l m hl)
theorem gk_takeS {α : Type} [Inhabited α] {enc : α → Nat → Value} {L : List α} {A : Option Addr} {sz : Nat} (k0 m : Nat) (hm : sl A sz enc L ∈ R) (hl : L.length ≤ m) (hg : GK X ks f O (sl (shA A 0 m sz) sz enc (L.take k0) :: R)) : GK X ks f O R := .mk fun a w hr hk => hg.out a w hr (hk.takeS hm k0 m hl)
theorem gk_nilR {α : Type} [Inhabited α] (A : Option Addr) (sz : Nat) (enc : α → Nat → Value) (hg : GK X ks f O (sl A sz enc ([] : List α) :: R)) : GK X ks f O R := .mk fun a w hr hk =>
  hg.out a w hr (hk.addR _ Sl.nil (fun b hb => absurd hb.1 (by simp)) (fun _ _ b _ hb => absurd hb.1 (by simp)))
theorem SlV.Ok.sub {s : SlV} {m : Nat} (h : s.Ok m) (k : Nat) (hk : k ≤ m) : (SlV.mk (shA s.A k s.c 1) (s.n - k) (s.c - k)).Ok (m - k) := by
  obtain ⟨h1, h2, h3, h4⟩ := h
  refine ⟨by show s.n - k = _; omega, by show s.n - k ≤ s.c - k; omega, by show s.c - k ≤ _; omega, fun h => ?_⟩
  show s.c - k = 0
  have h : shA s.A k s.c 1 = none := h
  unfold shA at h
  split at h
  · omega
  · have : s.A = none := by
      cases hA : s.A with
      | none => rfl
      | some y => rw [hA] at h; cases h
    have := h4 this
    omega
theorem SlV.ok_nil : (SlV.mk none 0 0).Ok 0 := ⟨rfl, Nat.le_refl _, Nat.zero_le _, fun _ => rfl⟩
end
end Go.Proofs.YtaghmffgoomebaaGreat.Gx
/-! Sixteenth part: bytes as a string; strings that are the same. -/
namespace Go.Proofs.YtaghmffgoomebaaGreat.Gx
open Go.RowKit Mem
set_option linter.unusedVariables false
set_option linter.unusedSimpArgs false
theorem beq_str (a b : ByteArray) : (a.toList == b.toList) = decide (a = b) := by
  rw [Bool.eq_iff_iff, beq_iff_eq, decide_eq_true_iff, ByteArray.toList_eq, ByteArray.toList_eq]
  constructor
  · intro h
    obtain ⟨⟨a⟩⟩ := a
    obtain ⟨⟨b⟩⟩ := b
    have h : a = b := h
    rw [h]
  · intro h; rw [h]
theorem bin_str_eql {P : Program} {t : Nat} (a b : ByteArray) (w : World) : (binOp .eql t (.string a) (.string b)).run P w = .ok (.bool (tB (a = b))) w := by
  have e : (a.toList == b.toList) = decide (a = b) := beq_str a b
  rw [tB_eq]
  simp [binOp, Op.stringOp, e]
theorem bin_str_neq {P : Program} {t : Nat} (a b : ByteArray) (w : World) : (binOp .neq t (.string a) (.string b)).run P w = .ok (.bool (tB (¬ a = b))) w := by
  have e : (a.toList == b.toList) = decide (a = b) := beq_str a b
  rw [tB_eq]
  simp [binOp, Op.stringOp, e]
section
variable {X : Cx} {f : Fr} {O R : List Fact} {ks k : List KI} {ops rest : List Oper} {o : Oper} {S : List Fact} {N : Fr → List Fact → List Fact → Prop}
theorem ys_str_eql (hT : TabOk X.P X.T) {t tt s : Nat} {z : List Value} {x y : Operand} {yt : TypeId} {a b : ByteArray} (ho : o.op = .binOp .eql t x y yt) (hx : look X.n f x = some (.string a)) (hy : look X.n f y = some (.string b)) (hty : tfind X.T t = some ⟨tt, .str, s, z⟩) : Ys X S f o (.bool (tB (a = b))) := fun ac w hr _ => by
  obtain ⟨ht, hk1⟩ := tfind_ok hT hty
  simp only at ht
  subst ht
  have hg : (eqGuard .eql tt x y (.string a) (.string b)).run X.P w = .ok () w := by
    unfold eqGuard
    split <;> rfl
  have h3 := bin_str_eql (P := X.P) (t := tt) a b w
  simp only [execOp, ho, hr.look hx, hr.look hy, Sem.run_bind, hg, Result.andThen_ok, h3]
  rfl
theorem ys_str_neq (hT : TabOk X.P X.T) {t tt s : Nat} {z : List Value} {x y : Operand} {yt : TypeId} {a b : ByteArray} (ho : o.op = .binOp .neq t x y yt) (hx : look X.n f x = some (.string a)) (hy : look X.n f y = some (.string b)) (hty : tfind X.T t = some ⟨tt, .str, s, z⟩) : Ys X S f o (.bool (tB (¬ a = b))) := fun ac w hr _ => by
  obtain ⟨ht, hk1⟩ := tfind_ok hT hty
  simp only at ht
  subst ht
  have hg : (eqGuard .neq tt x y (.string a) (.string b)).run X.P w = .ok () w := by
    unfold eqGuard
    split <;> rfl
  have h3 := bin_str_neq (P := X.P) (t := tt) a b w
  simp only [execOp, ho, hr.look hx, hr.look hy, Sem.run_bind, hg, Result.andThen_ok, h3]
  rfl
end
end Go.Proofs.YtaghmffgoomebaaGreat.Gx
/-! Seventeenth part: an operation that yields, as one that may move. -/
namespace Go.Proofs.YtaghmffgoomebaaGreat.Gx
open Go.RowKit Mem
set_option linter.unusedVariables false
theorem mv_yd {X : Cx} {f : Fr} {O R : List Fact} {o : Oper} {N : Fr → List Fact → List Fact → Prop} {d : Nat} {v : Value} (hd : o.dst = some d) (hy : Yd X f O R o v) (hg : N ((d, v) :: f) O R) : Mv X f O R o N := fun a w hr hk K Q hK => by
  unfold Oper.wp
  rw [hy a w hr hk]
  exact hK _ _ _ _ _ hg (hr.put1 hd _) hk
theorem gk_loop_sel {X : Cx} {f : Fr} {O R : List Fact} {ks k : List KI} {σ : Type} (I : σ → Prop) (F : σ → Fr) (OO RR : σ → List Fact) (μ : σ → Nat) (s0 : σ) {c : Code} (h : nx 1000 ks = some (.loop c k)) (h0 : I s0) (hf : FSub X.n f (F s0)) (hO : SelAll (OO s0) O) (hR : RR s0 ⊆ R)
    (step : ∀ s, I s → GK X (.code c :: .inv (LInv X I F OO RR μ (μ s)) :: k) (F s) (OO s) (RR s)) : GK X ks f O R := .mk fun a w hr hk =>
  (gk_loop I F OO RR μ s0 h h0 hf (List.Sublist.refl _) (List.Subset.refl _) step).out a w hr (hk.sel hO hR)
theorem gb_ownv {X : Cx} {S : List Fact} {ops : List Oper} {m : Nat} {ls : List Bool} {C : Fr → List Fact → List Fact → Prop} {f : Fr} {O R : List Fact} {k : List KI} {α : Type} [Inhabited α] {e base sz : Nat} (v : Value) {enc : α → Nat → Value} {L : List α} (hm : own base e sz v enc L ∈ O)
    (hg : ∀ A c, v = .slice A L.length c → L.length ≤ c → c ≤ maxLen → (A = none → c = 0) → GB X S ops m ls C k f O R) : GB X S ops m ls C k f O R := .mk fun a w hr hk => by
  obtain ⟨A, c, e1, h1, h2, h3⟩ := own_val hk hm
  exact (hg A c e1 h1 h2 h3).out a w hr hk
theorem g_ownv {X : Cx} {ops l : List Oper} {f : Fr} {O R : List Fact} {k : List KI} {α : Type} [Inhabited α] {e base sz : Nat} (v : Value) {enc : α → Nat → Value} {L : List α} (hm : own base e sz v enc L ∈ O)
    (hg : ∀ A c, v = .slice A L.length c → L.length ≤ c → c ≤ maxLen → (A = none → c = 0) → G X ops l k f O R) : G X ops l k f O R := .mk fun a w hr hk => by
  obtain ⟨A, c, e1, h1, h2, h3⟩ := own_val hk hm
  exact (hg A c e1 h1 h2 h3).out a w hr hk
end Go.Proofs.YtaghmffgoomebaaGreat.Gx
