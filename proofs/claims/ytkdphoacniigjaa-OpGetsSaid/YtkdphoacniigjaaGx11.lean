/- Eleventh part: slices and nil; an empty slice as one's own; what is built becomes a slice, and is shared; strings' bytes; results that are slices. -/
import Derived.Test.YtkdphoacniigjaaGx10
import Derived.Lib.SliceRun
import Derived.Laws.Tables
namespace Go.Proofs.Ytkdphoacniigjaa.Gx
open Go.RowKit Mem
set_option linter.unusedVariables false
set_option linter.unusedSimpArgs false
section
variable {X : Cx} {f : Fr} {O R : List Fact} {ks k : List KI} {ops rest : List Oper} {o : Oper} {N : Fr → List Fact → List Fact → Prop}
theorem yd_slice_nil (hT : TabOk X.P X.T) {ty t e sz s : Nat} {z : List Value} {x y : Operand} {yt : TypeId} {A : Option Addr} {n c n' c' : Nat} (ho : o.op = .binOp .eql ty x y yt) (hx : look X.n f x = some (.slice A n c)) (hy : look X.n f y = some (.slice none n' c')) (hty : tfind X.T ty = some ⟨t, .slice e sz, s, z⟩) : Yd X f O R o (.bool A.isNone) := fun a w hr hk => by
  obtain ⟨ht, hk1⟩ := tfind_ok hT hty
  simp only at ht
  subst ht
  have hu := (chk_slice hk1.d).1
  have hg : (eqGuard .eql t x y (.slice A n c) (.slice none n' c')).run X.P w = .ok () w := by
    unfold eqGuard
    split <;> rfl
  have h3 := Lib.run_eql_slice_nil (P := X.P) w t e A n c n' c' hu
  simp only [execOp, ho, hr.look hx, hr.look hy, Sem.run_bind, hg, Result.andThen_ok, h3]
  rfl
/-- '[]T{}': it is one's own. -/
theorem Kn.made {E : List Nat} {w0 w : World} {α : Type} [Inhabited α] {g e base sz : Nat} {enc : α → Nat → Value} {O' : List Fact} (h : Kn E w0 w O R) (hu : Upd (blk g [] e) (own base e sz (.slice (some ⟨g, 0, none⟩) 0 0) enc ([] : List α)) O O') (hb : base ≤ g) : Kn E w0 w O' R := by
  refine h.upd hu rfl rfl rfl (Nat.le_refl _) (fun b hb hne => rfl) ?_ (fun b hb => ?_)
  · have := h.pO _ hu.mem
    exact ⟨by simp [flat], .inr ⟨g, 0, #[], rfl, hb, this, Nat.le_refl _, Nat.zero_le _, by simp, by simp [flat]⟩⟩
  · have hbg : g = b := by
      have h1 : (Value.slice (some ⟨g, 0, none⟩) 0 0).ownBlock = some b := hb
      simpa [Value.ownBlock] using h1
    subst hbg
    exact ⟨.inl rfl, h.ltO _ hu.mem g rfl⟩
/-- 'append([]T{}, ..)' begins so. -/
theorem mv_empty (sz : Nat) {α : Type} [Inhabited α] (enc : α → Nat → Value) {dd : Nat} (hd : o.dst = some dd) (hT : TabOk X.P X.T) {ty e t s t' s' : Nat} {z z' : List Value} {d : TD} (ho : o.op = .buildSlice ty 0 #[])
    (hty : tfind X.T ty = some ⟨t, .slice e sz, s, z⟩) (hte : tfind X.T e = some ⟨t', d, s', z'⟩) (hsz : Nat.blt 0 sz = true) (hzl : Nat.beq z'.length sz = true)
    (hg : ∀ g, N ((dd, .slice (some ⟨g, 0, none⟩) 0 0) :: f) (own 0 e sz (.slice (some ⟨g, 0, none⟩) 0 0) enc ([] : List α) :: O) R) : Mv X f O R o N := fun a w hr hk K Q hK => by
  refine mv_buildSlice (N := fun f' O' R' => ∃ g, f' = ((dd, .slice (some ⟨g, 0, none⟩) 0 0) :: f) ∧ O' = (blk g [] e :: O) ∧ R' = R) hd hT ho rfl hty hte (by rw [Nat.zero_mul]; rfl) hsz hzl rfl (fun g => ⟨g, rfl, rfl, rfl⟩) a w hr hk K Q (fun f' O' R' a' w' hN hr' hk' => ?_)
  obtain ⟨g, rfl, rfl, rfl⟩ := hN
  exact hK _ _ _ _ _ (hg g) hr' (hk'.made (Upd.here O) (Nat.zero_le _))
theorem g_made {α : Type} [Inhabited α] (g : Nat) (e sz : Nat) (enc : α → Nat → Value) {l : List Oper} {O' : List Fact} (hu : Upd (blk g [] e) (own 0 e sz (.slice (some ⟨g, 0, none⟩) 0 0) enc ([] : List α)) O O') (hg : G X ops l k f O' R) : G X ops l k f O R := .mk fun a w hr hk =>
  hg.out a w hr (hk.made hu (Nat.zero_le _))
/-- What was built, as a slice. -/
theorem Kn.freeze {E : List Nat} {w0 w : World} {α : Type} [Inhabited α] {e base sz : Nat} {v : Value} {A : Option Addr} {n c : Nat} {enc : α → Nat → Value} {L : List α} {O' : List Fact} (h : Kn E w0 w O R) (hv : v = .slice A n c) (hu : Upd (own base e sz v enc L) (sl A sz enc L) O O') : Kn E w0 w O' R := by
  subst hv
  have ho : OwnL w base e sz (.slice A n c) enc L := h.pO _ hu.mem
  obtain ⟨A', c', e1, hs, _⟩ := OwnL.sl ho
  injection e1 with e2 _ _
  subst e2
  refine h.upd hu rfl rfl rfl (Nat.le_refl _) (fun b hb hne => rfl) hs (fun b hb => ?_)
  obtain ⟨_, a, ha, hab⟩ := hb
  subst ha
  have hS : (own base e sz (.slice (some a) n c) enc L).S b := by
    show (Value.slice (some a) n c).ownBlock = some b
    simp [Value.ownBlock, hab]
  exact ⟨.inl hS, h.ltO _ hu.mem b hS⟩
theorem own_val {E : List Nat} {w0 w : World} {α : Type} [Inhabited α] {e base sz : Nat} {v : Value} {enc : α → Nat → Value} {L : List α} (h : Kn E w0 w O R) (hm : own base e sz v enc L ∈ O) : ∃ A c, v = .slice A L.length c ∧ L.length ≤ c ∧ c ≤ maxLen ∧ (A = none → c = 0) := by
  obtain ⟨A, c, e1, _, h1, h2, h3, _⟩ := OwnL.sl (h.pO _ hm : OwnL w base e sz v enc L)
  exact ⟨A, c, e1, h1, h2, h3⟩
theorem gk_freeze {α : Type} [Inhabited α] {e base sz : Nat} (v : Value) {enc : α → Nat → Value} {L : List α} {OO : Option Addr → List Fact} (hu : ∀ A, Upd (own base e sz v enc L) (sl A sz enc L) O (OO A))
    (hg : ∀ A c, v = .slice A L.length c → L.length ≤ c → c ≤ maxLen → (A = none → c = 0) → GK X ks f (OO A) R) : GK X ks f O R := .mk fun a w hr hk => by
  obtain ⟨A, c, e1, h1, h2, h3⟩ := own_val hk (hu none).mem
  exact (hg A c e1 h1 h2 h3).out a w hr (hk.freeze e1 (hu A))
theorem g_freeze {α : Type} [Inhabited α] {e base sz : Nat} (v : Value) {enc : α → Nat → Value} {L : List α} {l : List Oper} {OO : Option Addr → List Fact} (hu : ∀ A, Upd (own base e sz v enc L) (sl A sz enc L) O (OO A))
    (hg : ∀ A c, v = .slice A L.length c → L.length ≤ c → c ≤ maxLen → (A = none → c = 0) → G X ops l k f (OO A) R) : G X ops l k f O R := .mk fun a w hr hk => by
  obtain ⟨A, c, e1, h1, h2, h3⟩ := own_val hk (hu none).mem
  exact (hg A c e1 h1 h2 h3).out a w hr (hk.freeze e1 (hu A))
/-- What is one's own is shared from now on. -/
theorem Kn.share {E : List Nat} {w0 w : World} {φ : Fact} {O' : List Fact} (h : Kn E w0 w O R) (hs : Sel φ O O') : Kn E w0 w O' (φ :: R) := by
  have hp := h.perm hs.perm
  have hd := hp.disO
  rw [List.pairwise_cons] at hd
  exact {
    os := h.os
    tape := h.tape
    output := h.output
    size := h.size
    block := h.block
    ownS := fun ψ hψ => hp.ownS ψ (.tail _ hψ)
    ltO := fun ψ hψ => hp.ltO ψ (.tail _ hψ)
    ltR := fun ψ hψ b hb => by
      rcases List.mem_cons.1 hψ with rfl | h1
      · exact hp.ltO _ (.head _) b hb
      · exact h.ltR ψ h1 b hb
    pO := fun ψ hψ => hp.pO ψ (.tail _ hψ)
    pR := fun ψ hψ => by
      rcases List.mem_cons.1 hψ with rfl | h1
      · exact hp.pO _ (.head _)
      · exact h.pR ψ h1
    disO := hd.2
    disR := fun ψ hψ χ hχ b h1 h2 => by
      rcases List.mem_cons.1 hχ with rfl | h3
      · exact hd.1 ψ hψ b h2 h1
      · exact hp.disR ψ (.tail _ hψ) χ h3 b h1 h2 }
theorem gk_share {φ : Fact} {O' : List Fact} (hs : Sel φ O O') (hg : GK X ks f O' (φ :: R)) : GK X ks f O R := .mk fun a w hr hk => hg.out a w hr (hk.share hs)
theorem g_share {φ : Fact} {O' : List Fact} {l : List Oper} (hs : Sel φ O O') (hg : G X ops l k f O' (φ :: R)) : G X ops l k f O R := .mk fun a w hr hk => hg.out a w hr (hk.share hs)
/-- A byte of a string. -/
theorem idxV_str {T : Tab} {t tt s : Nat} {z : List Value} {str : ByteArray} {j : Nat} {kk : IntKind} {b : UInt8} (hf : tfind T t = some ⟨tt, .str, s, z⟩) (hb : str.data.toList[j]? = some b) : idxV T t (.string str) (.int kk (j : Int)) = some (.int .u8 (b.toNat : Int)) := by
  unfold idxV
  simp only [hf, Int.toNat_natCast, hb]

/-! ### what a call hands back that is new -/
structure Fresh (w w' : World) (L : List Fact) : Prop where
  bel : Below w.heap.size w w'
  ok : ∀ φ ∈ L, φ.p w' ∧ ∀ b, φ.S b → w.heap.size ≤ b ∧ b < w'.heap.size
  dis : L.Pairwise fun φ ψ => ∀ b, φ.S b → ¬ ψ.S b
theorem Kn.out {w0 w : World} {L : List Fact} (h : Kn [] w0 w O R) (hs : SelAll L O) : Fresh w0 w L := by
  have h' := h.sel hs (List.Subset.refl R)
  exact ⟨h'.toBelow, fun φ hφ => ⟨h'.pO φ hφ, fun b hb => ⟨(h'.ownS φ hφ b hb).resolve_right (by simp), h'.ltO φ hφ b hb⟩⟩, h'.disO⟩
/-- Some s has I; its value V s is handed back, with its facts. -/
def Ret {σ : Type} (I : σ → Prop) (V : σ → Value) (FF : σ → List Fact) (w : World) (e : Ending) (w' : World) : Prop := ∃ s, I s ∧ e = .returned (V s) ∧ Fresh w w' (FF s)
theorem Ret.mk {σ : Type} {I : σ → Prop} {V : σ → Value} {FF : σ → List Fact} {w w' : World} {v : Value} {O R : List Fact} (s : σ) (hi : I s) (hv : v = V s) (h : Kn [] w w' O R) (hs : SelAll (FF s) O) : Ret I V FF w (.returned v) w' := ⟨s, hi, by rw [hv], h.out hs⟩
theorem mv_call_ret {σ : Type} {I : σ → Prop} {V : σ → Value} {FF : σ → List Fact} {fid : Nat} {args : List Value} (h : ∀ w, Kn X.E X.w0 w O R → Calls X.P fid args.toArray w (Ret I V FF w)) {dd : Nat} (hd : o.dst = some dd) {c : Call} {x : Operand} (ho : o.op = .call c) (hc : c.callee = .value x) (hx : look X.n f x = some (.func (.func fid) #[] #[])) (ha : lookL X.n f c.args.toList = some args) (hok : callable X.P fid = true)
    (hg : ∀ s, I s → N ((dd, V s) :: f) (FF s ++ O) R) : Mv X f O R o N :=
  mv_call hd ho hc hx ha hok fun w hk => (h w hk).mono fun e w' ⟨s, hi, he, hf⟩ => ⟨_, _, _, he, hk.fresh hf.bel _ hf.ok hf.dis, hg s hi⟩
/-- A slice, and its numbers. -/
structure SlV where
  A : Option Addr
  n : Nat
  c : Nat
def SlV.v (s : SlV) : Value := .slice s.A s.n s.c
structure SlV.Ok (s : SlV) (m : Nat) : Prop where
  n : s.n = m
  c : s.n ≤ s.c
  mx : s.c ≤ maxLen
  nil : s.A = none → s.c = 0
/-- Where an element of a slice lies, and what it is. -/
theorem Kn.elem {E : List Nat} {w0 w : World} {α : Type} [Inhabited α] {enc : α → Nat → Value} {L : List α} {A : Option Addr} {sz : Nat} (h : Kn E w0 w O R) (hm : sl A sz enc L ∈ R) (k : Nat) (hk : k < L.length) (hsz : 0 < sz) :
    ∃ b off y, A = some ⟨b, off, none⟩ ∧ L[k]? = some y ∧ Kn E w0 w O (row b (off + k * sz) (encF enc y 0 sz) :: R) := by
  obtain ⟨b, off, y, e1, hy, _, _, hc⟩ := Sl.at_ (h.pR _ hm) k hk
  refine ⟨b, off, y, e1, hy, h.addR _ (fun i v hv => ?_) (fun b' hb' => ?_) (fun φ hφ b' hS hb' => ?_)⟩
  · obtain ⟨hi, rfl⟩ := encF_get enc y sz 0 i v hv
    rw [Nat.zero_add]
    exact hc i hi
  · have : b' = b := hb'
    subst this
    exact lt_of_cell (hc 0 hsz)
  · have : b' = b := hb'
    subst this
    exact h.disR φ hφ _ hm b' hS ⟨by omega, ⟨_, e1, rfl⟩⟩
theorem gk_elem {α : Type} [Inhabited α] {enc : α → Nat → Value} {L : List α} {A : Option Addr} {sz : Nat} (k0 : Nat) (hm : sl A sz enc L ∈ R) (hk : k0 < L.length) (hsz : 0 < sz)
    (hg : ∀ b off y, A = some ⟨b, off, none⟩ → L[k0]? = some y → GK X ks f O (row b (off + k0 * sz) (encF enc y 0 sz) :: R)) : GK X ks f O R := .mk fun a w hr hk' => by
  obtain ⟨b, off, y, e1, e2, h⟩ := hk'.elem hm k0 hk hsz
  exact (hg b off y e1 e2).out a w hr h
theorem gk_nilsl {α : Type} [Inhabited α] (A : Option Addr) (sz : Nat) (enc : α → Nat → Value) (hg : GK X ks f (sl A sz enc ([] : List α) :: O) R) : GK X ks f O R := .mk fun a w hr hk =>
  hg.out a w hr (hk.addO _ Sl.nil (fun b hb => absurd hb.1 (by simp)))
theorem g_nilsl {α : Type} [Inhabited α] (A : Option Addr) (sz : Nat) (enc : α → Nat → Value) {l : List Oper} (hg : G X ops l k f (sl A sz enc ([] : List α) :: O) R) : G X ops l k f O R := .mk fun a w hr hk =>
  hg.out a w hr (hk.addO _ Sl.nil (fun b hb => absurd hb.1 (by simp)))
theorem ys_eql {S : List Fact} {t n : Nat} {x y : Operand} {yt : TypeId} {xs ys : List Value} {l : List (Int × Int)} (ho : o.op = .binOp .eql t x y yt) (hx : look X.n f x = some (.agg xs.toArray)) (hy : look X.n f y = some (.agg ys.toArray)) (hp : pairs xs ys = some l) (hn : xs.length = n) (hB : eqOk X.P t n = true) : Ys X S f o (.bool (tB (conjP l))) := fun a w hr hk => by
  unfold eqOk at hB
  rw [Bool.and_eq_true, Bool.and_eq_true] at hB
  have h1 := eq_flat 10000 t n hB.1.1 xs ys l w hn hp
  rw [hB.1.2] at h1
  have h2 : (eqGuard .eql t x y (.agg xs.toArray) (.agg ys.toArray)).run X.P w = .ok () w := run_eqGuard_agg w _ _ _ _ _ _ (by simpa using hB.2)
  have h3 : (Op.equalIn 10000 t (.agg xs.toArray) (.agg ys.toArray)).run X.P w = .ok (tB (conjP l)) w := h1
  simp only [execOp, ho, hr.look hx, hr.look hy, Sem.run_bind, h2, Result.andThen_ok, run_eql_struct, h3]
  rfl
theorem ys_neq {S : List Fact} {t n : Nat} {x y : Operand} {yt : TypeId} {xs ys : List Value} {l : List (Int × Int)} (ho : o.op = .binOp .neq t x y yt) (hx : look X.n f x = some (.agg xs.toArray)) (hy : look X.n f y = some (.agg ys.toArray)) (hp : pairs xs ys = some l) (hn : xs.length = n) (hB : eqOk X.P t n = true) : Ys X S f o (.bool (tB (¬ conjP l))) := fun a w hr hk => by
  unfold eqOk at hB
  rw [Bool.and_eq_true, Bool.and_eq_true] at hB
  have h1 := eq_flat 10000 t n hB.1.1 xs ys l w hn hp
  rw [hB.1.2] at h1
  have h2 : (eqGuard .neq t x y (.agg xs.toArray) (.agg ys.toArray)).run X.P w = .ok () w := run_eqGuard_agg w _ _ _ _ _ _ (by simpa using hB.2)
  have h3 : (Op.equalIn 10000 t (.agg xs.toArray) (.agg ys.toArray)).run X.P w = .ok (tB (conjP l)) w := h1
  rw [← not_tB]
  simp only [execOp, ho, hr.look hx, hr.look hy, Sem.run_bind, h2, Result.andThen_ok, run_neq_struct, h3]
  rfl
theorem ys_index {S : List Fact} (hT : TabOk X.P X.T) {t : Nat} {x i : Operand} {u v : Value} {kk : IntKind} {jj : Int} (ho : o.op = .index t x i) (hx : look X.n f x = some u) (hi : look X.n f i = some (.int kk jj)) (hj : 0 ≤ jj) (hv : idxV X.T t u (.int kk jj) = some v) : Ys X S f o v := fun a w hr hk => by
  unfold idxV at hv
  split at hv
  · rename_i tt s z st k' q hf hq
    obtain ⟨ht, hk1⟩ := tfind_ok hT hf
    simp only at ht
    subst ht
    have hu := chk_str hk1.d
    injection hq with e1 e2
    subst e1
    subst e2
    split at hv
    · rename_i b hb
      injection hv with hv
      subst hv
      have hb' : st[jj.toNat]? = some b := by
        have h1 : jj.toNat < st.data.toList.length := (List.getElem?_eq_some_iff.1 hb).1
        have h2 : jj.toNat < st.size := by simpa using h1
        rw [List.getElem?_eq_getElem h1] at hb
        injection hb with hb
        rw [getElem?_pos st jj.toNat h2]
        congr 1
      simp [execOp, ho, hr.look hx, hr.look hi, Instr.index, asIntOf, run_underlying hu, hj, hb']
    · cases hv
  · cases hv
/-- A list is another one. -/
theorem list_ne {α : Type} {L M : List α} {k : Nat} {x y : α} (hx : L[k]? = some x) (hy : M[k]? = some y) (h : x ≠ y) : L ≠ M := fun e => by
  subst e
  rw [hx] at hy
  injection hy with hy
  exact h hy
theorem list_eq {α : Type} {L M : List α} (hl : L.length = M.length) (h : ∀ i, i < L.length → L[i]? = M[i]?) : L = M := by
  apply List.ext_getElem?
  intro i
  by_cases hi : i < L.length
  · exact h i hi
  · rw [List.getElem?_eq_none (by omega), List.getElem?_eq_none (by omega)]
/-- An array, built. -/
theorem yd_build_arr (hT : TabOk X.P X.T) {ty t n e sz s t' s' : Nat} {z z' cs : List Value} {d : TD} {ps : Array (Nat × Operand)} {l : List (Nat × Value)} (ho : o.op = .build ty ps) (hl : lookAll X.n f ps.toList = some l)
    (hty : tfind X.T ty = some ⟨t, .array n e sz, s, z⟩) (hte : tfind X.T e = some ⟨t', d, s', z'⟩) (hsz : Nat.blt 0 sz = true) (hf : fillL (segs sz (agg? d) 0 n) z l = some cs) : Yd X f O R o (.agg cs.toArray) := fun a w hr hk => by
  obtain ⟨ht, hk1⟩ := tfind_ok hT hty
  obtain ⟨hte1, hk2⟩ := tfind_ok hT hte
  simp only at ht hte1
  subst ht
  subst hte1
  obtain ⟨hu, hes⟩ := chk_array hk1.d
  have hz := hk1.z
  have hsz' : 0 < sz := Nat.le_of_ble_eq_true hsz
  obtain ⟨ie, hie, hies⟩ := szIs_get hes
  cases hi : X.P.info? t with
  | none => simp [hi] at hz
  | some inf =>
    cases hz0 : inf.zero with
    | none => simp [hi, hz0] at hz
    | some zv =>
      simp only [hi, hz0, Option.bind_some, Option.map_some] at hz
      have hz' : zv.cells = z.toArray := by injection hz
      have hfill := fill_eq (P := X.P) (place := fun i => some (i * ie.size, ie.size)) (fun i o n g h => by
        obtain ⟨h1, h2⟩ := segs_get sz (agg? d) _ 0 i o n g h
        subst h1
        subst h2
        rw [hies]
        exact ⟨by simp, by omega⟩) hf
      have hb : X.P.built t l = some cs.toArray := by
        unfold Program.built
        simp only [hi, hu, hz0, hie, hz']
        exact hfill
      have e1 : (ps.map fun x => (x.1, a.eval x.2)).toList = l := by rw [← lookAll_eq hr hl]; simp
      have h3 := run_build (P := X.P) w t (ps.map fun x => (x.1, a.eval x.2)) cs.toArray (by rw [e1]; exact hb)
      simp [execOp, ho, h3]
theorem gk_again_sel {σ : Type} {I : σ → Prop} {F : σ → Fr} {OO RR : σ → List Fact} {μ : σ → Nat} {m : Nat} (h : nx 1000 ks = some (.inv (LInv X I F OO RR μ m))) (s' : σ) (hi : I s') (hm : μ s' < m) (hf : FSub X.n f (F s')) (hO : SelAll (OO s') O) (hR : RR s' ⊆ R) : GK X ks f O R := .mk fun a w hr hk =>
  nx_sound h ⟨s', hi, hm, hr.sub hf, hk.sel hO hR⟩
theorem gk_sel {f' : Fr} {O' R' : List Fact} (hf : FSub X.n f f') (hO : SelAll O' O) (hR : R' ⊆ R) (hg : GK X ks f' O' R') : GK X ks f O R := .mk fun a w hr hk => hg.out a w (hr.sub hf) (hk.sel hO hR)
theorem idxV_nat {T : Tab} {t tt s : Nat} {z : List Value} {l : List Nat} {j x : Nat} {kk : IntKind} (hf : tfind T t = some ⟨tt, .str, s, z⟩) (hb : l[j]? = some x) (h9 : x < 256) : idxV T t (.string ⟨(l.map UInt8.ofNat).toArray⟩) (.int kk (j : Int)) = some (.int .u8 (x : Int)) := by
  have h1 : (⟨(l.map UInt8.ofNat).toArray⟩ : ByteArray).data.toList[j]? = some (UInt8.ofNat x) := by simp [hb]
  rw [idxV_str hf h1, UInt8.toNat_ofNat', Nat.mod_eq_of_lt h9]
end
end Go.Proofs.Ytkdphoacniigjaa.Gx
