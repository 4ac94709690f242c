/- The walk by reckoned steps: slices, strings, calls, drawn regions. -/
import Derived.Test.YtaghmffgoomebaaGreatGxA
import Derived.Lib.SliceRun
import Derived.Laws.Tables
import Derived.Laws.Small
import Derived.Laws.BytesArg
import Derived.Laws.Strings
set_option linter.unusedVariables false
set_option linter.unusedSimpArgs false
namespace Go.Proofs.YtaghmffgoomebaaGreat.Gx
open Go.RowKit Mem
section
variable {X : Cx} {f : Fr} {O R : List Fact} {ks k : List KI} {ops rest : List Oper} {o : Oper} {N : Fr → List Fact → List Fact → Prop}
theorem zbz (hT : TabOk X.P X.T) {ty t e sz s : Nat} {z : List Value} {x y : Operand} {yt : TypeId} {A : Option Addr} {n c n' c' : Nat} (ho : o.op = .binOp .eql ty x y yt) (hx : look X.n f x = some (.slice A n c)) (hy : look X.n f y = some (.slice none n' c')) (hty : tfind X.T ty = some ⟨t, .slice e sz, s, z⟩) : Yd X f O R o (.bool A.isNone) := fun a w hr hk => by
 obtain ⟨ht, hk1⟩ := zal hT hty
 simp only at ht
 subst ht
 have hu := (za7 hk1.d).1
 have hg : (eqGuard .eql t x y (.slice A n c) (.slice none n' c')).run X.P w = .ok () w := by
  unfold eqGuard
  split <;> rfl
 have h3 := Lib.run_eql_slice_nil (P := X.P) w t e A n c n' c' hu
 simp only [execOp, ho, hr.look hx, hr.look hy, Sem.run_bind, hg, Result.andThen_ok, h3]
 rfl
theorem Kn.made {E : List Nat} {w0 w : World} {α : Type} [Inhabited α] {g e base sz : Nat} {enc : α → Nat → Value} {O' : List Fact} (h : Kn E w0 w O R) (hu : Upd (blk g [] e) (own base e sz (.slice (some ⟨g, 0, none⟩) 0 0) enc ([] : List α)) O O') (hb : base ≤ g) : Kn E w0 w O' R := by
 refine h.upd hu rfl rfl rfl (Nat.le_refl _) (fun b hb hne => rfl) ?_ (fun b hb => ?_)
 ·have := h.pO _ hu.mem
  exact ⟨by simp [flat], .inr ⟨g, 0, #[], rfl, hb, this, Nat.le_refl _, Nat.zero_le _, by simp, by simp [flat]⟩⟩
 ·have hbg : g = b := by
   have h1 : (Value.slice (some ⟨g, 0, none⟩) 0 0).ownBlock = some b := hb
   simpa [Value.ownBlock] using h1
  subst hbg
  exact ⟨.inl rfl, h.ltO _ hu.mem g rfl⟩
theorem zcZ (sz : Nat) {α : Type} [Inhabited α] (enc : α → Nat → Value) {dd : Nat} (hd : o.dst = some dd) (hT : TabOk X.P X.T) {ty e t s t' s' : Nat} {z z' : List Value} {d : TD} (ho : o.op = .buildSlice ty 0 #[])
 (hty : tfind X.T ty = some ⟨t, .slice e sz, s, z⟩) (hte : tfind X.T e = some ⟨t', d, s', z'⟩) (hsz : Nat.blt 0 sz = true) (hzl : Nat.beq z'.length sz = true)
 (hg : ∀ g, N ((dd, .slice (some ⟨g, 0, none⟩) 0 0) :: f) (own 0 e sz (.slice (some ⟨g, 0, none⟩) 0 0) enc ([] : List α) :: O) R) : Mv X f O R o N := fun a w hr hk K Q hK => by
 refine zaa (N := fun f' O' R' => ∃ g, f' = ((dd, .slice (some ⟨g, 0, none⟩) 0 0) :: f) ∧ O' = (blk g [] e :: O) ∧ R' = R) hd hT ho rfl hty hte (by rw [Nat.zero_mul]; rfl) hsz hzl rfl (fun g => ⟨g, rfl, rfl, rfl⟩) a w hr hk K Q (fun f' O' R' a' w' hN hr' hk' => ?_)
 obtain ⟨g, rfl, rfl, rfl⟩ := hN
 exact hK _ _ _ _ _ (hg g) hr' (hk'.made (Upd.here O) (Nat.zero_le _))
theorem Kn.freeze {E : List Nat} {w0 w : World} {α : Type} [Inhabited α] {e base sz : Nat} {v : Value} {A : Option Addr} {n c : Nat} {enc : α → Nat → Value} {L : List α} {O' : List Fact} (h : Kn E w0 w O R) (hv : v = .slice A n c) (hu : Upd (own base e sz v enc L) (sl A sz enc L) O O') : Kn E w0 w O' R := by
 subst hv
 have ho : OwnL w base e sz (.slice A n c) enc L := h.pO _ hu.mem
 obtain ⟨A', c', e1, hs, _⟩ := OwnL.sl ho
 injection e1 with e2 _ _
 subst e2
 refine h.upd hu rfl rfl rfl (Nat.le_refl _) (fun b hb hne => rfl) hs (fun b hb => ?_)
 obtain ⟨_, a, ha, hab⟩ := hb
 subst ha
 have hS : (own base e sz (.slice (some a) n c) enc L).S b := by
  show (Value.slice (some a) n c).ownBlock = some b
  simp [Value.ownBlock, hab]
 exact ⟨.inl hS, h.ltO _ hu.mem b hS⟩
theorem zf7 {E : List Nat} {w0 w : World} {α : Type} [Inhabited α] {e base sz : Nat} {v : Value} {enc : α → Nat → Value} {L : List α} (h : Kn E w0 w O R) (hm : own base e sz v enc L ∈ O) : ∃ A c, v = .slice A L.length c ∧ L.length ≤ c ∧ c ≤ maxLen ∧ (A = none → c = 0) := by
 obtain ⟨A, c, e1, _, h1, h2, h3, _⟩ := OwnL.sl (h.pO _ hm : OwnL w base e sz v enc L)
 exact ⟨A, c, e1, h1, h2, h3⟩
theorem zaW {α : Type} [Inhabited α] {e base sz : Nat} (v : Value) {enc : α → Nat → Value} {L : List α} {OO : Option Addr → List Fact} (hu : ∀ A, Upd (own base e sz v enc L) (sl A sz enc L) O (OO A))
 (hg : ∀ A c, v = .slice A L.length c → L.length ≤ c → c ≤ maxLen → (A = none → c = 0) → GK X ks f (OO A) R) : GK X ks f O R := .mk fun a w hr hk => by
 obtain ⟨A, c, e1, h1, h2, h3⟩ := zf7 hk (hu none).mem
 exact (hg A c e1 h1 h2 h3).out a w hr (hk.freeze e1 (hu A))
theorem zbE {α : Type} [Inhabited α] {e base sz : Nat} (v : Value) {enc : α → Nat → Value} {L : List α} {l : List Oper} {OO : Option Addr → List Fact} (hu : ∀ A, Upd (own base e sz v enc L) (sl A sz enc L) O (OO A))
 (hg : ∀ A c, v = .slice A L.length c → L.length ≤ c → c ≤ maxLen → (A = none → c = 0) → G X ops l k f (OO A) R) : G X ops l k f O R := .mk fun a w hr hk => by
 obtain ⟨A, c, e1, h1, h2, h3⟩ := zf7 hk (hu none).mem
 exact (hg A c e1 h1 h2 h3).out a w hr (hk.freeze e1 (hu A))
theorem Kn.share {E : List Nat} {w0 w : World} {φ : Fact} {O' : List Fact} (h : Kn E w0 w O R) (hs : Sel φ O O') : Kn E w0 w O' (φ :: R) := by
 have hp := h.perm hs.perm
 have hd := hp.disO
 rw [List.pairwise_cons] at hd
 exact {
  os := h.os
  tape := h.tape
  output := h.output
  size := h.size
  block := h.block
  ownS := fun ψ hψ => hp.ownS ψ (.tail _ hψ)
  ltO := fun ψ hψ => hp.ltO ψ (.tail _ hψ)
  ltR := fun ψ hψ b hb => by
   rcases List.mem_cons.1 hψ with rfl | h1
   ·exact hp.ltO _ (.head _) b hb
   ·exact h.ltR ψ h1 b hb
  pO := fun ψ hψ => hp.pO ψ (.tail _ hψ)
  pR := fun ψ hψ => by
   rcases List.mem_cons.1 hψ with rfl | h1
   ·exact hp.pO _ (.head _)
   ·exact h.pR ψ h1
  disO := hd.2
  disR := fun ψ hψ χ hχ b h1 h2 => by
   rcases List.mem_cons.1 hχ with rfl | h3
   ·exact hd.1 ψ hψ b h2 h1
   ·exact hp.disR ψ (.tail _ hψ) χ h3 b h1 h2 }
theorem zeo {φ : Fact} {O' : List Fact} (hs : Sel φ O O') (hg : GK X ks f O' (φ :: R)) : GK X ks f O R := .mk fun a w hr hk => hg.out a w hr (hk.share hs)
theorem zbw {φ : Fact} {O' : List Fact} {l : List Oper} (hs : Sel φ O O') (hg : G X ops l k f O' (φ :: R)) : G X ops l k f O R := .mk fun a w hr hk => hg.out a w hr (hk.share hs)
structure Fresh (w w' : World) (L : List Fact) : Prop where
 bel : Below w.heap.size w w'
 ok : ∀ φ ∈ L, φ.p w' ∧ ∀ b, φ.S b → w.heap.size ≤ b ∧ b < w'.heap.size
 dis : L.Pairwise fun φ ψ => ∀ b, φ.S b → ¬ ψ.S b
theorem Kn.out {w0 w : World} {L : List Fact} (h : Kn [] w0 w O R) (hs : SelAll L O) : Fresh w0 w L := by
 have h' := h.sel hs (List.Subset.refl R)
 exact ⟨h'.toBelow, fun φ hφ => ⟨h'.pO φ hφ, fun b hb => ⟨(h'.ownS φ hφ b hb).resolve_right (by simp), h'.ltO φ hφ b hb⟩⟩, h'.disO⟩
def Ret {σ : Type} (I : σ → Prop) (V : σ → Value) (FF : σ → List Fact) (w : World) (e : Ending) (w' : World) : Prop := ∃ s, I s ∧ e = .returned (V s) ∧ Fresh w w' (FF s)
theorem Ret.mk {σ : Type} {I : σ → Prop} {V : σ → Value} {FF : σ → List Fact} {w w' : World} {v : Value} {O R : List Fact} (s : σ) (hi : I s) (hv : v = V s) (h : Kn [] w w' O R) (hs : SelAll (FF s) O) : Ret I V FF w (.returned v) w' := ⟨s, hi, by rw [hv], h.out hs⟩
theorem zhY {σ : Type} {I : σ → Prop} {V : σ → Value} {FF : σ → List Fact} {fid : Nat} {args : List Value} (h : ∀ w, Kn X.E X.w0 w O R → Calls X.P fid args.toArray w (Ret I V FF w)) {dd : Nat} (hd : o.dst = some dd) {c : Call} {x : Operand} (ho : o.op = .call c) (hc : c.callee = .value x) (hx : look X.n f x = some (.func (.func fid) #[] #[])) (ha : lookL X.n f c.args.toList = some args) (hok : callable X.P fid = true)
 (hg : ∀ s, I s → N ((dd, V s) :: f) (FF s ++ O) R) : Mv X f O R o N :=
 zce hd ho hc hx ha hok fun w hk => (h w hk).mono fun e w' ⟨s, hi, he, hf⟩ => ⟨_, _, _, he, hk.fresh hf.bel _ hf.ok hf.dis, hg s hi⟩
structure SlV where
 A : Option Addr
 n : Nat
 c : Nat
def SlV.v (s : SlV) : Value := .slice s.A s.n s.c
structure SlV.Ok (s : SlV) (m : Nat) : Prop where
 n : s.n = m
 c : s.n ≤ s.c
 mx : s.c ≤ maxLen
 nil : s.A = none → s.c = 0
theorem Kn.elem {E : List Nat} {w0 w : World} {α : Type} [Inhabited α] {enc : α → Nat → Value} {L : List α} {A : Option Addr} {sz : Nat} (h : Kn E w0 w O R) (hm : sl A sz enc L ∈ R) (k : Nat) (hk : k < L.length) (hsz : 0 < sz) :
 ∃ b off y, A = some ⟨b, off, none⟩ ∧ L[k]? = some y ∧ Kn E w0 w O (row b (off + k * sz) (encF enc y 0 sz) :: R) := by
 obtain ⟨b, off, y, e1, hy, _, _, hc⟩ := Sl.at_ (h.pR _ hm) k hk
 refine ⟨b, off, y, e1, hy, h.addR _ (fun i v hv => ?_) (fun b' hb' => ?_) (fun φ hφ b' hS hb' => ?_)⟩
 ·obtain ⟨hi, rfl⟩ := zeq enc y sz 0 i v hv
  rw [Nat.zero_add]
  exact hc i hi
 ·have : b' = b := hb'
  subst this
  exact lt_of_cell (hc 0 hsz)
 ·have : b' = b := hb'
  subst this
  exact h.disR φ hφ _ hm b' hS ⟨by omega, ⟨_, e1, rfl⟩⟩
theorem zar {α : Type} [Inhabited α] {enc : α → Nat → Value} {L : List α} {A : Option Addr} {sz : Nat} (k0 : Nat) (hm : sl A sz enc L ∈ R) (hk : k0 < L.length) (hsz : 0 < sz)
 (hg : ∀ b off y, A = some ⟨b, off, none⟩ → L[k0]? = some y → GK X ks f O (row b (off + k0 * sz) (encF enc y 0 sz) :: R)) : GK X ks f O R := .mk fun a w hr hk' => by
 obtain ⟨b, off, y, e1, e2, h⟩ := hk'.elem hm k0 hk hsz
 exact (hg b off y e1 e2).out a w hr h
theorem zba {α : Type} [Inhabited α] (A : Option Addr) (sz : Nat) (enc : α → Nat → Value) (hg : GK X ks f (sl A sz enc ([] : List α) :: O) R) : GK X ks f O R := .mk fun a w hr hk =>
 hg.out a w hr (hk.addO _ Sl.nil (fun b hb => absurd hb.1 (by simp)))
theorem zby {S : List Fact} {t n : Nat} {x y : Operand} {yt : TypeId} {xs ys : List Value} {l : List (Int × Int)} (ho : o.op = .binOp .eql t x y yt) (hx : look X.n f x = some (.agg xs.toArray)) (hy : look X.n f y = some (.agg ys.toArray)) (hp : pairs xs ys = some l) (hn : xs.length = n) (hB : eqOk X.P t n = true) : Ys X S f o (.bool (tB (conjP l))) := fun a w hr hk => by
 unfold eqOk at hB
 rw [Bool.and_eq_true, Bool.and_eq_true] at hB
 have h1 := zgw 10000 t n hB.1.1 xs ys l w hn hp
 rw [hB.1.2] at h1
 have h2 : (eqGuard .eql t x y (.agg xs.toArray) (.agg ys.toArray)).run X.P w = .ok () w := run_eqGuard_agg w _ _ _ _ _ _ (by simpa using hB.2)
 have h3 : (Op.equalIn 10000 t (.agg xs.toArray) (.agg ys.toArray)).run X.P w = .ok (tB (conjP l)) w := h1
 simp only [execOp, ho, hr.look hx, hr.look hy, Sem.run_bind, h2, Result.andThen_ok, run_eql_struct, h3]
 rfl
theorem za8 {S : List Fact} {t n : Nat} {x y : Operand} {yt : TypeId} {xs ys : List Value} {l : List (Int × Int)} (ho : o.op = .binOp .neq t x y yt) (hx : look X.n f x = some (.agg xs.toArray)) (hy : look X.n f y = some (.agg ys.toArray)) (hp : pairs xs ys = some l) (hn : xs.length = n) (hB : eqOk X.P t n = true) : Ys X S f o (.bool (tB (¬ conjP l))) := fun a w hr hk => by
 unfold eqOk at hB
 rw [Bool.and_eq_true, Bool.and_eq_true] at hB
 have h1 := zgw 10000 t n hB.1.1 xs ys l w hn hp
 rw [hB.1.2] at h1
 have h2 : (eqGuard .neq t x y (.agg xs.toArray) (.agg ys.toArray)).run X.P w = .ok () w := run_eqGuard_agg w _ _ _ _ _ _ (by simpa using hB.2)
 have h3 : (Op.equalIn 10000 t (.agg xs.toArray) (.agg ys.toArray)).run X.P w = .ok (tB (conjP l)) w := h1
 rw [← zlb]
 simp only [execOp, ho, hr.look hx, hr.look hy, Sem.run_bind, h2, Result.andThen_ok, run_neq_struct, h3]
 rfl
theorem zpu {α : Type} {L M : List α} {k : Nat} {x y : α} (hx : L[k]? = some x) (hy : M[k]? = some y) (h : x ≠ y) : L ≠ M := fun e => by
 subst e
 rw [hx] at hy
 injection hy with hy
 exact h hy
theorem zpv {α : Type} {L M : List α} (hl : L.length = M.length) (h : ∀ i, i < L.length → L[i]? = M[i]?) : L = M := by
 apply List.ext_getElem?
 intro i
 by_cases hi : i < L.length
 ·exact h i hi
 ·rw [List.getElem?_eq_none (by omega), List.getElem?_eq_none (by omega)]
theorem zbB (hT : TabOk X.P X.T) {ty t n e sz s t' s' : Nat} {z z' cs : List Value} {d : TD} {ps : Array (Nat × Operand)} {l : List (Nat × Value)} (ho : o.op = .build ty ps) (hl : lookAll X.n f ps.toList = some l)
 (hty : tfind X.T ty = some ⟨t, .array n e sz, s, z⟩) (hte : tfind X.T e = some ⟨t', d, s', z'⟩) (hsz : Nat.blt 0 sz = true) (hf : fillL (segs sz (agg? d) 0 n) z l = some cs) : Yd X f O R o (.agg cs.toArray) := fun a w hr hk => by
 obtain ⟨ht, hk1⟩ := zal hT hty
 obtain ⟨hte1, hk2⟩ := zal hT hte
 simp only at ht hte1
 subst ht
 subst hte1
 obtain ⟨hu, hes⟩ := zdQ hk1.d
 have hz := hk1.z
 have hsz' : 0 < sz := Nat.le_of_ble_eq_true hsz
 obtain ⟨ie, hie, hies⟩ := zcq hes
 cases hi : X.P.info? t with
 | none => simp [hi] at hz
 | some inf =>
   cases hz0 : inf.zero with
   | none => simp [hi, hz0] at hz
   | some zv =>
     simp only [hi, hz0, Option.bind_some, Option.map_some] at hz
     have hz' : zv.cells = z.toArray := by injection hz
     have hfill := fill_eq (P := X.P) (place := fun i => some (i * ie.size, ie.size)) (fun i o n g h => by
      obtain ⟨h1, h2⟩ := zfX sz (agg? d) _ 0 i o n g h
      subst h1
      subst h2
      rw [hies]
      exact ⟨by simp, by omega⟩) hf
     have hb : X.P.built t l = some cs.toArray := by
      unfold Program.built
      simp only [hi, hu, hz0, hie, hz']
      exact hfill
     have e1 : (ps.map fun x => (x.1, a.eval x.2)).toList = l := by rw [← zci hr hl]; simp
     have h3 := run_build (P := X.P) w t (ps.map fun x => (x.1, a.eval x.2)) cs.toArray (by rw [e1]; exact hb)
     simp [execOp, ho, h3]
theorem zag {σ : Type} {I : σ → Prop} {F : σ → Fr} {OO RR : σ → List Fact} {μ : σ → Nat} {m : Nat} (h : nx 1000 ks = some (.inv (LInv X I F OO RR μ m))) (s' : σ) (hi : I s') (hm : μ s' < m) (hf : FSub X.n f (F s')) (hO : SelAll (OO s') O) (hR : RR s' ⊆ R) : GK X ks f O R := .mk fun a w hr hk =>
 zaI h ⟨s', hi, hm, hr.sub hf, hk.sel hO hR⟩
theorem zhq {f' : Fr} {O' R' : List Fact} (hf : FSub X.n f f') (hO : SelAll O' O) (hR : R' ⊆ R) (hg : GK X ks f' O' R') : GK X ks f O R := .mk fun a w hr hk => hg.out a w (hr.sub hf) (hk.sel hO hR)
end
end Go.Proofs.YtaghmffgoomebaaGreat.Gx
namespace Go.Proofs.YtaghmffgoomebaaGreat.Gx
open Go.RowKit Mem
def catO : List Fact → List Fact → Option (List Fact)
 | [], O => some O
 | x :: r, O => match catO r O with | some l => some (x :: l) | none => none
theorem zdl : ∀ {L O O' : List Fact}, catO L O = some O' → O' = L ++ O
 | [], O, O', h => by injection h with h; subst h; rfl
 | x :: r, O, O', h => by
   unfold catO at h
   split at h
   ·rename_i l hl
    injection h with h
    subst h
    rw [zdl hl]; rfl
   ·cases h
section
variable {X : Cx} {f : Fr} {O R : List Fact} {ks k : List KI} {ops rest : List Oper} {o : Oper} {N : Fr → List Fact → List Fact → Prop}
theorem za3 {σ : Type} {I : σ → Prop} {V : σ → Value} {FF OO : σ → List Fact} {fid : Nat} {args : List Value} (h : ∀ w, Kn X.E X.w0 w O R → Calls X.P fid args.toArray w (Ret I V FF w)) {dd : Nat} (hd : o.dst = some dd) {c : Call} {x : Operand} (ho : o.op = .call c) (hc : c.callee = .value x) (hx : look X.n f x = some (.func (.func fid) #[] #[])) (ha : lookL X.n f c.args.toList = some args) (hok : callable X.P fid = true)
 (hcat : ∀ s, catO (FF s) O = some (OO s)) (hg : ∀ s, I s → N ((dd, V s) :: f) (OO s) R) : Mv X f O R o N :=
 zce hd ho hc hx ha hok fun w hk => (h w hk).mono fun e w' ⟨s, hi, he, hf⟩ => ⟨_, _, _, he, by rw [zdl (hcat s)]; exact hk.fresh hf.bel _ hf.ok hf.dis, hg s hi⟩
theorem zbk {α : Type} [Inhabited α] {e base sz : Nat} {v : Value} {enc : α → Nat → Value} {L M : List α} {OO : Value → List Fact} {fid : Nat} {args : List Value} (h : ∀ w, Kn X.E X.w0 w O R → Calls X.P fid args.toArray w (fun e' w' => ∃ v', e' = .returned v' ∧ OwnL w' base e sz v' enc (L ++ M) ∧ Grew w w' v v')) {dd : Nat} (hd : o.dst = some dd) {c : Call} {x : Operand} (ho : o.op = .call c) (hc : c.callee = .value x) (hx : look X.n f x = some (.func (.func fid) #[] #[])) (ha : lookL X.n f c.args.toList = some args) (hok : callable X.P fid = true)
 (hu : ∀ v', Upd (own base e sz v enc L) (own base e sz v' enc (L ++ M)) O (OO v')) (hg : ∀ v', N ((dd, v') :: f) (OO v') R) : Mv X f O R o N :=
 zce hd ho hc hx ha hok fun w hk => (h w hk).mono fun e w' ⟨v', he, h2, h3⟩ => ⟨v', _, _, he, Kn.grew hk h3 h2 (hu v'), hg v'⟩
theorem Kn.lit {E : List Nat} {w0 w : World} {α : Type} [Inhabited α] {g e n : Nat} {cs : List Value} {enc : α → Nat → Value} (M : List α) {O' : List Fact} (h : Kn E w0 w O R) (hn : M.length = n) (hm : n ≤ maxLen) (hcs : cs = M.map (fun x => enc x 0)) (hu : Upd (blk g cs e) (own 0 e 1 (.slice (some ⟨g, 0, none⟩) n n) enc M) O O') : Kn E w0 w O' R := by
 subst hcs
 subst hn
 refine h.upd hu rfl rfl rfl (Nat.le_refl _) (fun b hb hne => rfl) ?_ (fun b hb => ?_)
 ·have := h.pO _ hu.mem
  have hfl : flat 1 (LF enc M) M.length = M.map (fun x => enc x 0) := by
   apply List.ext_getElem?
   intro i
   by_cases hi : i < M.length
   ·rw [flat_get _ _ _ _ (by omega), List.getElem?_map, List.getElem?_eq_getElem hi]
    simp [LF, List.getD_eq_getElem?_getD, List.getElem?_eq_getElem hi, Nat.mod_one]
   ·rw [List.getElem?_eq_none (by rw [zaN]; omega), List.getElem?_eq_none (by simp; omega)]
  exact ⟨by rw [zaN], .inr ⟨g, M.length, (M.map (fun x => enc x 0)).toArray, rfl, Nat.zero_le _, this, Nat.le_refl _, hm, by simp, by rw [hfl]; simp [List.take_of_length_le]⟩⟩
 ·have hbg : g = b := by
   have h1 : (Value.slice (some ⟨g, 0, none⟩) M.length M.length).ownBlock = some b := hb
   simpa [Value.ownBlock] using h1
  subst hbg
  exact ⟨.inl rfl, h.ltO _ hu.mem g rfl⟩
theorem zoV {α : Type} [Inhabited α] (g n : Nat) {e : Nat} {cs : List Value} {enc : α → Nat → Value} (M : List α) {O' : List Fact} (hn : M.length = n) (hm : n ≤ maxLen) (hcs : cs = M.map (fun x => enc x 0)) (hu : Upd (blk g cs e) (own 0 e 1 (.slice (some ⟨g, 0, none⟩) n n) enc M) O O') (hg : GK X ks f O' R) : GK X ks f O R := .mk fun a w hr hk =>
 hg.out a w hr (hk.lit M hn hm hcs hu)
end
end Go.Proofs.YtaghmffgoomebaaGreat.Gx
namespace Go.Proofs.YtaghmffgoomebaaGreat.Gx
open Go.RowKit Mem
section
variable {X : Cx} {f : Fr} {O R : List Fact} {ks k : List KI} {ops rest : List Oper} {o : Oper} {S : List Fact} {C : Fr → List Fact → List Fact → Prop} {m : Nat} {ls : List Bool}
theorem SelAll.refl : ∀ (O : List Fact), SelAll O O
 | [] => .nil
 | _ :: r => .cons .here (SelAll.refl r)
theorem zam (t : Nat) {v : Value} (u : Value) (hl : look X.n f (.tmp t) = some v) (e : v = u) (hg : GB X S ops m ls C k ((t, u) :: f) O R) : GB X S ops m ls C k f O R := .mk fun a w hr hk => hg.out a w (hr.re hl e) hk
theorem zht {α : Type} [Inhabited α] {enc : α → Nat → Value} {L : List α} {A : Option Addr} {sz : Nat} {l : List Oper} (k0 : Nat) (hm : sl A sz enc L ∈ R) (hk : k0 < L.length) (hsz : 0 < sz)
 (hg : ∀ b off y, A = some ⟨b, off, none⟩ → L[k0]? = some y → G X ops l k f O (row b (off + k0 * sz) (encF enc y 0 sz) :: R)) : G X ops l k f O R := .mk fun a w hr hk' => by
 obtain ⟨b, off, y, e1, e2, h⟩ := hk'.elem hm k0 hk hsz
 exact (hg b off y e1 e2).out a w hr h
theorem zl3 (j : Nat) (hr : Region.ready .any ops.toArray ls.toArray = [j]) (ho : ops[j]? = some o) (hw : wantG X.n f ops o.guard = some true) (hm : Mv X f O R o (fun f' O' R' => SubF S O' R' ∧ GB X S ops m (ls.set j true) C k f' O' R')) : GB X S ops (m + 1) ls C k f O R :=
 zjm (by rw [hr]; rfl) fun i _ hi => by
  rw [hr] at hi
  have e : i = j := by simpa using hi
  subst e
  exact ⟨o, ho, hw, hm⟩
end
end Go.Proofs.YtaghmffgoomebaaGreat.Gx
namespace Go.Proofs.YtaghmffgoomebaaGreat.Gx
open Go.RowKit Mem
def shA (a : Option Addr) (l m s : Nat) : Option Addr := if m = l then a else a.map (·.add (l * s))
theorem zkF {a : Option Addr} {l m s : Nat} {x : Addr} (h : shA a l m s = some x) : ∃ y, a = some y ∧ y.block = x.block := by
 unfold shA at h
 split at h
 ·exact ⟨x, h, rfl⟩
 ·cases a with
  | none => cases h
  | some y =>
    simp at h
    subst h
    refine ⟨y, rfl, ?_⟩
    unfold Addr.add
    split <;> rfl
theorem zpW {P : Program} {t e : TypeId} (h : P.underlying t = some (.slice e)) : P.elem t = e := by simp [Program.elem, h]
section
variable {α : Type} [Inhabited α] {w : World} {A : Option Addr} {sz : Nat} {enc : α → Nat → Value} {L : List α}
theorem sl_sub (h : Sl w A sz enc L) (l m k : Nat) (hm : L.length ≤ m) : Sl w (shA A l m sz) sz enc ((L.drop l).take k) := by
 by_cases hl : l < L.length
 ·obtain ⟨b, off, e, hs⟩ := Sl.drop h l hl
  have : shA A l m sz = some ⟨b, off + l * sz, none⟩ := by
   unfold shA
   rw [if_neg (by omega), e]
   simp [add_lit]
  rw [this]
  exact Sl.take hs k
 ·rw [List.drop_of_length_le (by omega), List.take_nil]
  exact Sl.nil
theorem zfV {l m k b : Nat} (h : (sl (shA A l m sz) sz enc ((L.drop l).take k)).S b) : (sl A sz enc L).S b := by
 obtain ⟨h1, a, ha, hab⟩ := h
 obtain ⟨y, e1, e2⟩ := zkF ha
 refine ⟨?_, y, e1, e2.trans hab⟩
 rw [List.length_take, List.length_drop] at h1
 omega
end
section
variable {X : Cx} {f : Fr} {O R : List Fact} {ks k : List KI} {ops rest : List Oper} {o : Oper} {S : List Fact} {N : Fr → List Fact → List Fact → Prop}
theorem ziJ {P : Program} {t e sz : Nat} (hu : P.underlying t = some (.slice e)) (hs : szIs P e sz = true) (w : World) (a : Option Addr) (n c : Nat) : P.underlying t = some (.slice (P.elem t)) ∧ (sizeOf (P.elem t)).run P w = .ok sz w := by
 have he := zpW hu
 exact ⟨by rw [he]; exact hu, by rw [he]; exact run_sizeOf hs w⟩
theorem zav (hT : TabOk X.P X.T) {ty t e sz s : Nat} {z : List Value} {x lo : Operand} {A : Option Addr} {n c : Nat} {kl : IntKind} {iv : Int} (j : Nat) (ho : o.op = .slice ty x (some lo) none none) (hx : look X.n f x = some (.slice A n c)) (hl : look X.n f lo = some (.int kl iv)) (hty : tfind X.T ty = some ⟨t, .slice e sz, s, z⟩)
 (hj : iv = j) (hjn : j ≤ n) : Ys X S f o (.slice (shA A j c sz) (n - j) (c - j)) := fun a w hr hk => by
 obtain ⟨ht, hk1⟩ := zal hT hty
 simp only at ht
 subst ht
 subst hj
 obtain ⟨hu0, hes⟩ := za7 hk1.d
 have hu : X.P.underlying t = some (.slice e) := hu0
 obtain ⟨h1, h2⟩ := ziJ hu hes w A n c
 have h3 := run_slice_l (P := X.P) (w := w) t A n c h1 kl (j : Int) (by omega) (by omega)
 rw [h2] at h3
 simp only [Result.andThen_ok, sliced, Int.toNat_natCast] at h3
 simp [execOp, ho, hr.look hx, hr.look hl, run_sliceAt_slice (P := X.P) w t _ _ _ _ h1, h3, shA]
theorem zaU (hT : TabOk X.P X.T) {ty t e sz s : Nat} {z : List Value} {x hi : Operand} {A : Option Addr} {n c : Nat} {kl : IntKind} {iv : Int} (j : Nat) (ho : o.op = .slice ty x none (some hi) none) (hx : look X.n f x = some (.slice A n c)) (hl : look X.n f hi = some (.int kl iv)) (hty : tfind X.T ty = some ⟨t, .slice e sz, s, z⟩)
 (hj : iv = j) (hjn : j ≤ c) : Ys X S f o (.slice (shA A 0 c sz) j c) := fun a w hr hk => by
 obtain ⟨ht, hk1⟩ := zal hT hty
 simp only at ht
 subst ht
 subst hj
 obtain ⟨hu0, hes⟩ := za7 hk1.d
 have hu : X.P.underlying t = some (.slice e) := hu0
 obtain ⟨h1, h2⟩ := ziJ hu hes w A n c
 have h3 := run_slice_h (P := X.P) (w := w) t A n c h1 kl (j : Int) (by omega) (by omega)
 rw [h2] at h3
 simp only [Result.andThen_ok, sliced, Int.toNat_natCast, Nat.sub_zero] at h3
 simp [execOp, ho, hr.look hx, hr.look hl, run_sliceAt_slice (P := X.P) w t _ _ _ _ h1, h3, shA]
theorem zet (hT : TabOk X.P X.T) {ty t e sz s : Nat} {z : List Value} {x lo hi : Operand} {A : Option Addr} {n c : Nat} {kl kh : IntKind} {iv ih : Int} (j h : Nat) (ho : o.op = .slice ty x (some lo) (some hi) none) (hx : look X.n f x = some (.slice A n c)) (hl : look X.n f lo = some (.int kl iv)) (hh : look X.n f hi = some (.int kh ih)) (hty : tfind X.T ty = some ⟨t, .slice e sz, s, z⟩)
 (hj : iv = j) (hih : ih = h) (hjh : j ≤ h) (hhc : h ≤ c) : Ys X S f o (.slice (shA A j c sz) (h - j) (c - j)) := fun a w hr hk => by
 obtain ⟨ht, hk1⟩ := zal hT hty
 simp only at ht
 subst ht
 subst hj
 subst hih
 obtain ⟨hu0, hes⟩ := za7 hk1.d
 have hu : X.P.underlying t = some (.slice e) := hu0
 obtain ⟨h1, h2⟩ := ziJ hu hes w A n c
 have h3 := run_slice_lh (P := X.P) (w := w) t A n c h1 kl kh (j : Int) (h : Int) (by omega) (by omega) (by omega)
 rw [h2] at h3
 simp only [Result.andThen_ok, sliced, Int.toNat_natCast] at h3
 simp [execOp, ho, hr.look hx, hr.look hl, hr.look hh, run_sliceAt_slice (P := X.P) w t _ _ _ _ h1, h3, shA]
theorem Ys.yd {v : Value} (h : Ys X [] f o v) : Yd X f O R o v := fun a w hr _ => h a w hr (fun _ h => by cases h)
theorem Kn.sub {E : List Nat} {w0 w : World} {α : Type} [Inhabited α] {enc : α → Nat → Value} {L : List α} {A : Option Addr} {sz : Nat} (h : Kn E w0 w O R) (hm : sl A sz enc L ∈ R) (l m k : Nat) (hl : L.length ≤ m) : Kn E w0 w O (sl (shA A l m sz) sz enc ((L.drop l).take k) :: R) :=
 h.addR _ (sl_sub (h.pR _ hm) l m k hl) (fun b hb => h.ltR _ hm b (zfV hb)) (fun φ hφ b hS hb => h.disR φ hφ _ hm b hS (zfV hb))
structure FreshW (g : Nat) (T : TypeId) (cs : List Value) (w w' : World) (L : List Fact) : Prop where
 os : w'.os = w.os
 tape : w'.tape = w.tape
 output : w'.output = w.output
 size : w.heap.size ≤ w'.heap.size
 block : ∀ k, k < w.heap.size → k ≠ g → w'.heap[k]? = w.heap[k]?
 new : w'.heap[g]? = some (.cells cs.toArray T (0, 0))
 ok : ∀ φ ∈ L, φ.p w' ∧ ∀ b, φ.S b → w.heap.size ≤ b ∧ b < w'.heap.size
 dis : L.Pairwise fun φ ψ => ∀ b, φ.S b → ¬ ψ.S b
theorem Kn.startW {w : World} {g : Nat} {cs : List Value} {T : TypeId} (h : w.heap[g]? = some (.cells cs.toArray T (0, 0))) : Kn [g] w w [blk g cs T] [] where
 os := rfl
 tape := rfl
 output := rfl
 size := Nat.le_refl _
 block _ _ _ := rfl
 ownS φ hφ b hb := by
  obtain rfl := List.mem_singleton.1 hφ
  have : b = g := hb
  exact .inr (by simp [this])
 ltO φ hφ b hb := by
  obtain rfl := List.mem_singleton.1 hφ
  have : b = g := hb
  subst this
  rcases Nat.lt_or_ge b w.heap.size with h' | h'
  ·exact h'
  ·rw [Array.getElem?_eq_none h'] at h; cases h
 ltR φ hφ := by cases hφ
 pO φ hφ := by
  obtain rfl := List.mem_singleton.1 hφ
  exact h
 pR φ hφ := by cases hφ
 disO := List.pairwise_singleton _ _
 disR _ _ ψ hψ := by cases hψ
theorem Kn.outW {w0 w : World} {g : Nat} {T : TypeId} {cs : List Value} {L : List Fact} (h : Kn [g] w0 w O R) (hs : SelAll (blk g cs T :: L) O) : FreshW g T cs w0 w L := by
 have h' := h.sel hs (List.Subset.refl R)
 have hd := h'.disO
 rw [List.pairwise_cons] at hd
 refine ⟨h'.os, h'.tape, h'.output, h'.size, fun k hk hne => h'.block k hk (by simpa using hne), h'.pO _ (.head _), fun φ hφ => ⟨h'.pO φ (.tail _ hφ), fun b hb => ⟨?_, h'.ltO φ (.tail _ hφ) b hb⟩⟩, hd.2⟩
 rcases h'.ownS φ (.tail _ hφ) b hb with h1 | h1
 ·exact h1
 ·have : b = g := by simpa using h1
  subst this
  exact absurd hb (hd.1 φ hφ b rfl)
def RetW {σ : Type} (g : Nat) (T : TypeId) (RA : List Fact) (I : σ → Prop) (V : σ → Value) (CS : σ → List Value) (FF GG : σ → List Fact) (w : World) (e : Ending) (w' : World) : Prop :=
 ∃ s, I s ∧ e = .returned (V s) ∧ FreshW g T (CS s) w w' (FF s) ∧ ∀ φ ∈ GG s, φ.p w' ∧ ∀ b, φ.S b → ∃ ψ ∈ RA, ψ.S b
theorem RetW.mk {σ : Type} {g : Nat} {T : TypeId} {RA : List Fact} {I : σ → Prop} {V : σ → Value} {CS : σ → List Value} {FF GG : σ → List Fact} {w w' : World} {v : Value} {O R : List Fact} (s : σ) (hi : I s) (hv : v = V s) (h : Kn [g] w w' O R) (hs : SelAll (blk g (CS s) T :: FF s) O) (hG : ∀ φ ∈ GG s, φ ∈ R ∧ ∀ b, φ.S b → ∃ ψ ∈ RA, ψ.S b) : RetW g T RA I V CS FF GG w (.returned v) w' :=
 ⟨s, hi, by rw [hv], h.outW hs, fun φ hφ => ⟨h.pR φ (hG φ hφ).1, (hG φ hφ).2⟩⟩
theorem Kn.freshW {E : List Nat} {w0 w w' : World} {g : Nat} {T : TypeId} {cs cs' : List Value} {N O' RA GG : List Fact} (h : Kn E w0 w O R) (hu : Upd (blk g cs T) (blk g cs' T) O O') (hf : FreshW g T cs' w w' N) (hRA : ∀ ψ ∈ RA, ψ ∈ R) (hG : ∀ φ ∈ GG, φ.p w' ∧ ∀ b, φ.S b → ∃ ψ ∈ RA, ψ.S b) : Kn E w0 w' (N ++ O') (GG ++ R) := by
 have h1 : Kn E w0 w' O' R := h.upd hu hf.os hf.tape hf.output hf.size (fun b hb hne => hf.block b hb hne) hf.new (fun b hb => by
  have : b = g := hb
  subst this
  exact ⟨.inl rfl, Nat.lt_of_lt_of_le (h.ltO _ hu.mem b rfl) hf.size⟩)
 have hlt : ∀ φ ∈ O', ∀ b, φ.S b → b < w.heap.size := fun φ hφ b hb => by
  rcases hu.mem' hφ with e | e
  ·subst e; exact h.ltO _ hu.mem b hb
  ·exact h.ltO φ e b hb
 exact {
  os := h1.os
  tape := h1.tape
  output := h1.output
  size := h1.size
  block := h1.block
  ownS := fun φ hφ b hb => by
   rcases List.mem_append.1 hφ with h2 | h2
   ·exact .inl (Nat.le_trans h.size ((hf.ok φ h2).2 b hb).1)
   ·exact h1.ownS φ h2 b hb
  ltO := fun φ hφ b hb => by
   rcases List.mem_append.1 hφ with h2 | h2
   ·exact ((hf.ok φ h2).2 b hb).2
   ·exact h1.ltO φ h2 b hb
  ltR := fun φ hφ b hb => by
   rcases List.mem_append.1 hφ with h2 | h2
   ·obtain ⟨ψ, h3, h4⟩ := (hG φ h2).2 b hb
    exact h1.ltR ψ (hRA ψ h3) b h4
   ·exact h1.ltR φ h2 b hb
  pO := fun φ hφ => by
   rcases List.mem_append.1 hφ with h2 | h2
   ·exact (hf.ok φ h2).1
   ·exact h1.pO φ h2
  pR := fun φ hφ => by
   rcases List.mem_append.1 hφ with h2 | h2
   ·exact (hG φ h2).1
   ·exact h1.pR φ h2
  disO := by
   rw [List.pairwise_append]
   exact ⟨hf.dis, h1.disO, fun φ hφ ψ hψ b h2 h3 => by have := ((hf.ok φ hφ).2 b h2).1; have := hlt ψ hψ b h3; omega⟩
  disR := fun φ hφ ψ hψ b h2 h3 => by
   have key : ∃ χ ∈ R, χ.S b := by
    rcases List.mem_append.1 hψ with h4 | h4
    ·obtain ⟨χ, h5, h6⟩ := (hG ψ h4).2 b h3
     exact ⟨χ, hRA χ h5, h6⟩
    ·exact ⟨ψ, h4, h3⟩
   obtain ⟨χ, h5, h6⟩ := key
   rcases List.mem_append.1 hφ with h4 | h4
   ·have := ((hf.ok φ h4).2 b h2).1; have := h.ltR χ h5 b h6; omega
   ·exact h1.disR φ h4 χ h5 b h2 h6 }
theorem zaE {σ : Type} {g : Nat} {T : TypeId} {cs : List Value} {RA : List Fact} {I : σ → Prop} {V : σ → Value} {CS : σ → List Value} {FF GG : σ → List Fact} {O1 OO RR : σ → List Fact} {fid : Nat} {args : List Value} (h : ∀ w, Kn X.E X.w0 w O R → Calls X.P fid args.toArray w (RetW g T RA I V CS FF GG w)) {dd : Nat} (hd : o.dst = some dd) {c : Call} {x : Operand} (ho : o.op = .call c) (hc : c.callee = .value x) (hx : look X.n f x = some (.func (.func fid) #[] #[])) (ha : lookL X.n f c.args.toList = some args) (hok : callable X.P fid = true)
 (hu : ∀ s, Upd (blk g cs T) (blk g (CS s) T) O (O1 s)) (hRA : ∀ ψ ∈ RA, ψ ∈ R) (hcat : ∀ s, catO (FF s) (O1 s) = some (OO s)) (hcatR : ∀ s, catO (GG s) R = some (RR s)) (hg : ∀ s, I s → N ((dd, V s) :: f) (OO s) (RR s)) : Mv X f O R o N :=
 zce hd ho hc hx ha hok fun w hk => (h w hk).mono fun e w' ⟨s, hi, he, hf, hG⟩ => ⟨_, _, _, he, by rw [zdl (hcat s), zdl (hcatR s)]; exact hk.freshW (hu s) hf hRA hG, hg s hi⟩
end
end Go.Proofs.YtaghmffgoomebaaGreat.Gx
namespace Go.Proofs.YtaghmffgoomebaaGreat.Gx
open Go.RowKit Mem
section
variable {X : Cx} {f : Fr} {O R : List Fact} {ks k : List KI} {ops rest : List Oper} {o : Oper} {S : List Fact} {N : Fr → List Fact → List Fact → Prop}
theorem zgJ {c : Call} {k1 k2 : IntKind} {x y : Int} (u : Int) (ho : o.op = .call c) (hc : c.callee = .builtin .min) (ha : lookL X.n f c.args.toList = some [.int k1 x, .int k2 y]) (hu : u = if y < x then y else x) : Ys X S f o (.int k1 u) := fun a w hr hk => by
 have e1 : c.args.map a.eval = #[.int k1 x, .int k2 y] := by apply Array.ext'; simpa using zaR hr ha
 subst hu
 have h3 := fun ts t => run_min_int2 (P := X.P) (w := w) ts t k1 k2 x y
 simp [execOp, ho, resolve, hc, e1, invoke, builtin, h3]
theorem zfo {c : Call} {k1 k2 : IntKind} {x y : Int} (u : Int) (ho : o.op = .call c) (hc : c.callee = .builtin .max) (ha : lookL X.n f c.args.toList = some [.int k1 x, .int k2 y]) (hu : u = if y > x then y else x) : Ys X S f o (.int k1 u) := fun a w hr hk => by
 have e1 : c.args.map a.eval = #[.int k1 x, .int k2 y] := by apply Array.ext'; simpa using zaR hr ha
 subst hu
 have h3 := fun ts t => run_max_int2 (P := X.P) (w := w) ts t k1 k2 x y
 simp [execOp, ho, resolve, hc, e1, invoke, builtin, h3]
theorem Kn.dropS {E : List Nat} {w0 w : World} {α : Type} [Inhabited α] {enc : α → Nat → Value} {L : List α} {A : Option Addr} {sz : Nat} (h : Kn E w0 w O R) (hm : sl A sz enc L ∈ R) (l m : Nat) (hl : L.length ≤ m) : Kn E w0 w O (sl (shA A l m sz) sz enc (L.drop l) :: R) := by
 have := h.sub hm l m L.length hl
 rwa [List.take_of_length_le (by rw [List.length_drop]; omega)] at this
theorem Kn.takeS {E : List Nat} {w0 w : World} {α : Type} [Inhabited α] {enc : α → Nat → Value} {L : List α} {A : Option Addr} {sz : Nat} (h : Kn E w0 w O R) (hm : sl A sz enc L ∈ R) (k0 m : Nat) (hl : L.length ≤ m) : Kn E w0 w O (sl (shA A 0 m sz) sz enc (L.take k0) :: R) := by
 have := h.sub hm 0 m k0 hl
 rwa [List.drop_zero] at this
theorem zep {α : Type} [Inhabited α] {enc : α → Nat → Value} {L : List α} {A : Option Addr} {sz : Nat} (l m : Nat) (hm : sl A sz enc L ∈ R) (hl : L.length ≤ m) (hg : GK X ks f O (sl (shA A l m sz) sz enc (L.drop l) :: R)) : GK X ks f O R := .mk fun a w hr hk => hg.out a w hr (hk.dropS hm l m hl)
theorem zpS {α : Type} [Inhabited α] {enc : α → Nat → Value} {L : List α} {A : Option Addr} {sz : Nat} {ll : List Oper} (l m : Nat) (hm : sl A sz enc L ∈ R) (hl : L.length ≤ m) (hg : G X ops ll k f O (sl (shA A l m sz) sz enc (L.drop l) :: R)) : G X ops ll k f O R := .mk fun a w hr hk => hg.out a w hr (hk.dropS hm l m hl)
theorem zen {α : Type} [Inhabited α] {enc : α → Nat → Value} {L : List α} {A : Option Addr} {sz : Nat} (k0 m : Nat) (hm : sl A sz enc L ∈ R) (hl : L.length ≤ m) (hg : GK X ks f O (sl (shA A 0 m sz) sz enc (L.take k0) :: R)) : GK X ks f O R := .mk fun a w hr hk => hg.out a w hr (hk.takeS hm k0 m hl)
theorem zpQ {α : Type} [Inhabited α] {enc : α → Nat → Value} {L : List α} {A : Option Addr} {sz : Nat} {ll : List Oper} (k0 m : Nat) (hm : sl A sz enc L ∈ R) (hl : L.length ≤ m) (hg : G X ops ll k f O (sl (shA A 0 m sz) sz enc (L.take k0) :: R)) : G X ops ll k f O R := .mk fun a w hr hk => hg.out a w hr (hk.takeS hm k0 m hl)
theorem zlR {α : Type} [Inhabited α] (A : Option Addr) (sz : Nat) (enc : α → Nat → Value) (hg : GK X ks f O (sl A sz enc ([] : List α) :: R)) : GK X ks f O R := .mk fun a w hr hk =>
 hg.out a w hr (hk.addR _ Sl.nil (fun b hb => absurd hb.1 (by simp)) (fun _ _ b _ hb => absurd hb.1 (by simp)))
theorem SlV.Ok.sub {s : SlV} {m : Nat} (h : s.Ok m) (k : Nat) (hk : k ≤ m) : (SlV.mk (shA s.A k s.c 1) (s.n - k) (s.c - k)).Ok (m - k) := by
 obtain ⟨h1, h2, h3, h4⟩ := h
 refine ⟨by show s.n - k = _; omega, by show s.n - k ≤ s.c - k; omega, by show s.c - k ≤ _; omega, fun h => ?_⟩
 show s.c - k = 0
 have h : shA s.A k s.c 1 = none := h
 unfold shA at h
 split at h
 ·omega
 ·have : s.A = none := by
   cases hA : s.A with
   | none => rfl
   | some y => rw [hA] at h; cases h
  have := h4 this
  omega
theorem SlV.zdx : (SlV.mk none 0 0).Ok 0 := ⟨rfl, Nat.le_refl _, Nat.zero_le _, fun _ => rfl⟩
end
end Go.Proofs.YtaghmffgoomebaaGreat.Gx
namespace Go.Proofs.YtaghmffgoomebaaGreat.Gx
open Go.RowKit Mem
theorem zmH (a b : ByteArray) : (a.toList == b.toList) = decide (a = b) := by
 rw [Bool.eq_iff_iff, beq_iff_eq, decide_eq_true_iff, ByteArray.toList_eq, ByteArray.toList_eq]
 constructor
 ·intro h
  obtain ⟨⟨a⟩⟩ := a
  obtain ⟨⟨b⟩⟩ := b
  have h : a = b := h
  rw [h]
 ·intro h; rw [h]
theorem ziq {P : Program} {t : Nat} (a b : ByteArray) (w : World) : (binOp .eql t (.string a) (.string b)).run P w = .ok (.bool (tB (a = b))) w := by
 have e : (a.toList == b.toList) = decide (a = b) := zmH a b
 rw [zed]
 simp [binOp, Op.stringOp, e]
theorem zio {P : Program} {t : Nat} (a b : ByteArray) (w : World) : (binOp .neq t (.string a) (.string b)).run P w = .ok (.bool (tB (¬ a = b))) w := by
 have e : (a.toList == b.toList) = decide (a = b) := zmH a b
 rw [zed]
 simp [binOp, Op.stringOp, e]
section
variable {X : Cx} {f : Fr} {O R : List Fact} {ks k : List KI} {ops rest : List Oper} {o : Oper} {S : List Fact} {N : Fr → List Fact → List Fact → Prop}
theorem zbX (hT : TabOk X.P X.T) {t tt s : Nat} {z : List Value} {x y : Operand} {yt : TypeId} {a b : ByteArray} (ho : o.op = .binOp .eql t x y yt) (hx : look X.n f x = some (.string a)) (hy : look X.n f y = some (.string b)) (hty : tfind X.T t = some ⟨tt, .str, s, z⟩) : Ys X S f o (.bool (tB (a = b))) := fun ac w hr _ => by
 obtain ⟨ht, hk1⟩ := zal hT hty
 simp only at ht
 subst ht
 have hg : (eqGuard .eql tt x y (.string a) (.string b)).run X.P w = .ok () w := by
  unfold eqGuard
  split <;> rfl
 have h3 := ziq (P := X.P) (t := tt) a b w
 simp only [execOp, ho, hr.look hx, hr.look hy, Sem.run_bind, hg, Result.andThen_ok, h3]
 rfl
theorem zbW (hT : TabOk X.P X.T) {t tt s : Nat} {z : List Value} {x y : Operand} {yt : TypeId} {a b : ByteArray} (ho : o.op = .binOp .neq t x y yt) (hx : look X.n f x = some (.string a)) (hy : look X.n f y = some (.string b)) (hty : tfind X.T t = some ⟨tt, .str, s, z⟩) : Ys X S f o (.bool (tB (¬ a = b))) := fun ac w hr _ => by
 obtain ⟨ht, hk1⟩ := zal hT hty
 simp only at ht
 subst ht
 have hg : (eqGuard .neq tt x y (.string a) (.string b)).run X.P w = .ok () w := by
  unfold eqGuard
  split <;> rfl
 have h3 := zio (P := X.P) (t := tt) a b w
 simp only [execOp, ho, hr.look hx, hr.look hy, Sem.run_bind, hg, Result.andThen_ok, h3]
 rfl
end
end Go.Proofs.YtaghmffgoomebaaGreat.Gx
namespace Go.Proofs.YtaghmffgoomebaaGreat.Gx
open Go.RowKit Mem
theorem zaC {X : Cx} {f : Fr} {O R : List Fact} {o : Oper} {N : Fr → List Fact → List Fact → Prop} {d : Nat} {v : Value} (hd : o.dst = some d) (hy : Yd X f O R o v) (hg : N ((d, v) :: f) O R) : Mv X f O R o N := fun a w hr hk K Q hK => by
 unfold Oper.wp
 rw [hy a w hr hk]
 exact hK _ _ _ _ _ hg (hr.put1 hd _) hk
theorem zap {X : Cx} {f : Fr} {O R : List Fact} {ks k : List KI} {σ : Type} (I : σ → Prop) (F : σ → Fr) (OO RR : σ → List Fact) (μ : σ → Nat) (s0 : σ) {c : Code} (h : nx 1000 ks = some (.loop c k)) (h0 : I s0) (hf : FSub X.n f (F s0)) (hO : SelAll (OO s0) O) (hR : RR s0 ⊆ R)
 (step : ∀ s, I s → GK X (.code c :: .inv (LInv X I F OO RR μ (μ s)) :: k) (F s) (OO s) (RR s)) : GK X ks f O R := .mk fun a w hr hk =>
 (zlT I F OO RR μ s0 h h0 hf (List.Sublist.refl _) (List.Subset.refl _) step).out a w hr (hk.sel hO hR)
theorem zai {X : Cx} {S : List Fact} {ops : List Oper} {m : Nat} {ls : List Bool} {C : Fr → List Fact → List Fact → Prop} {f : Fr} {O R : List Fact} {k : List KI} {α : Type} [Inhabited α] {e base sz : Nat} (v : Value) {enc : α → Nat → Value} {L : List α} (hm : own base e sz v enc L ∈ O)
 (hg : ∀ A c, v = .slice A L.length c → L.length ≤ c → c ≤ maxLen → (A = none → c = 0) → GB X S ops m ls C k f O R) : GB X S ops m ls C k f O R := .mk fun a w hr hk => by
 obtain ⟨A, c, e1, h1, h2, h3⟩ := zf7 hk hm
 exact (hg A c e1 h1 h2 h3).out a w hr hk
theorem zc5 {X : Cx} {ops l : List Oper} {f : Fr} {O R : List Fact} {k : List KI} {α : Type} [Inhabited α] {e base sz : Nat} (v : Value) {enc : α → Nat → Value} {L : List α} (hm : own base e sz v enc L ∈ O)
 (hg : ∀ A c, v = .slice A L.length c → L.length ≤ c → c ≤ maxLen → (A = none → c = 0) → G X ops l k f O R) : G X ops l k f O R := .mk fun a w hr hk => by
 obtain ⟨A, c, e1, h1, h2, h3⟩ := zf7 hk hm
 exact (hg A c e1 h1 h2 h3).out a w hr hk
end Go.Proofs.YtaghmffgoomebaaGreat.Gx
namespace Go.Proofs.YtaghmffgoomebaaGreat.Gx
open Go.RowKit Mem
section
variable {X : Cx} {f : Fr} {O R S : List Fact} {o : Oper} {ops rest : List Oper} {m : Nat} {ls : List Bool} {C : Fr → List Fact → List Fact → Prop} {k ks : List KI}
theorem uD {β : Type} {φ : Fact} {ψ : β → Fact} {OO : β → List Fact} (h : ∀ b, Upd φ (ψ b) O (OO b) := by intro _; first | ((repeat (first | with_reducible exact Upd.here _ | with_reducible apply Upd.there)); done) | ((repeat (first | exact Upd.here _ | apply Upd.there)); done) | fail) : ∀ b, Upd φ (ψ b) O (OO b) := h
theorem fS {p : Prop} (h : p := by repeat (first | exact trivial | refine ⟨rfl, ?_⟩)) : p := h
theorem sE {φ : Fact} {O' : List Fact} (h : Sel φ O O' := by repeat (first | with_reducible exact Sel.here | with_reducible apply Sel.there)) : Sel φ O O' := h
theorem sM {p : Prop} (h : p := by simp only [maxLen, List.length_cons, List.length_nil]; omega) : p := h
theorem sN {p : Prop} (h : p := by simp only [List.length_cons, List.length_nil]; omega) : p := h
theorem oM {p : Prop} (h : p := by omega) : p := h
theorem dK {p : Prop} (h : p := by decide +kernel) : p := h
theorem kR {p : Prop} (h : p := by kernel_rfl) : p := h
theorem m1 {α : Type} {a b : α} (h : a ∈ [b]) : a = b := List.mem_singleton.1 h
theorem gY (hT : TabOk X.P X.T) (i : Nat) {v : Value} {p : Prop} {d : Nat} (hg : GB X S ops m (ls.set i true) C k ((d, v) :: f) O R) (ho : ops[i]? = some o := by exact rfl) (hB : takeC ops ls i = true := by decide +kernel) (hw : wantG X.n f ops o.guard = some true := by exact rfl) (hdd : o.dst = some d := by exact rfl) (he : ev X.T true X.n f o.op = some (v, p) := by exact rfl) (hp : p := by first | exact trivial | omega | (simp only [inR]; omega)) (hS : SubF S O R := by repeat (first | exact zef | refine zdt (by first | exact .inl mE | exact .inr mE) ?_)) : GB X S ops (m + 1) ls C k f O R := zaz i ho hB hw hdd (zcc hT he hp) hS hg
theorem gZ (i : Nat) {d : Nat} (hg : GB X S ops m (ls.set i true) C k ((d, undef) :: f) O R) (ho : ops[i]? = some o := by exact rfl) (hB : takeC ops ls i = true := by decide +kernel) (hw : wantG X.n f ops o.guard = some false := by exact rfl) (hdd : o.dst = some d := by exact rfl) (hS : SubF S O R := by repeat (first | exact zef | refine zdt (by first | exact .inl mE | exact .inr mE) ?_)) : GB X S ops (m + 1) ls C k f O R := zpP i ho hB hw hdd hS hg
theorem gN {j : Nat} (hr : GBall X S ops m ls C k f O R (j + 1)) (h : (Region.ready .any ops.toArray ls.toArray).contains j = false := by decide +kernel) : GBall X S ops m ls C k f O R j := zl0 h hr
theorem gP (j : Nat) (hm : Mv X f O R o (fun f' O' R' => SubF S O' R' ∧ GB X S ops m (ls.set j true) C k f' O' R')) (hr : Region.ready .any ops.toArray ls.toArray = [j] := by decide +kernel) (ho : ops[j]? = some o := by exact rfl) (hw : wantG X.n f ops o.guard = some true := by exact rfl) : GB X S ops (m + 1) ls C k f O R := zl3 j hr ho hw hm
theorem gPe {i j : Nat} (e : i = j) (hm : Mv X f O R o (fun f' O' R' => SubF S O' R' ∧ GB X S ops m (ls.set j true) C k f' O' R')) (hr : Region.ready .any ops.toArray ls.toArray = [j] := by decide +kernel) (ho : ops[j]? = some o := by exact rfl) (hw : wantG X.n f ops o.guard = some true := by exact rfl) : GB X S ops (m + 1) ls C k f O R := zl3 j hr ho hw hm
theorem gW (hT : TabOk X.P X.T) (i : Nat) {v : Value} {d : Nat} (hg : GB X S ops m (ls.set i true) C k ((d, v) :: f) O R) (ho : ops[i]? = some o := by exact rfl) (hB : takeC ops ls i = true := by decide +kernel) (hw : wantG X.n f ops o.guard = some true := by exact rfl) (hdd : o.dst = some d := by exact rfl) (hy : Ys X S f o v := by first | exact zbp hT rfl rfl mE rfl rfl | exact zbn hT rfl rfl mE rfl rfl | exact za1 hT rfl rfl mE rfl rfl) (hS : SubF S O R := by repeat (first | exact zef | refine zdt (by first | exact .inl mE | exact .inr mE) ?_)) : GB X S ops (m + 1) ls C k f O R := zaz i ho hB hw hdd hy hS hg
theorem gA2 (i j : Nat) {o' : Oper} (h1 : Mv X f O R o (fun f' O' R' => SubF S O' R' ∧ GB X S ops m (ls.set i true) C k f' O' R')) (h2 : Mv X f O R o' (fun f' O' R' => SubF S O' R' ∧ GB X S ops m (ls.set j true) C k f' O' R')) (hr : (!(Region.ready .any ops.toArray ls.toArray).isEmpty && (Region.ready .any ops.toArray ls.toArray).all fun x => x == i || x == j) = true := by decide +kernel) (a1 : ops[i]? = some o := by exact rfl) (a2 : wantG X.n f ops o.guard = some true := by exact rfl) (b1 : ops[j]? = some o' := by exact rfl) (b2 : wantG X.n f ops o'.guard = some true := by exact rfl) : GB X S ops (m + 1) ls C k f O R := by
 rw [Bool.and_eq_true] at hr
 refine zjm (by simpa using hr.1) fun x _ hx => ?_
 have h := List.all_eq_true.1 hr.2 x hx
 rw [Bool.or_eq_true, beq_iff_eq, beq_iff_eq] at h
 rcases h with rfl | rfl
 ·exact ⟨o, a1, a2, h1⟩
 ·exact ⟨o', b1, b2, h2⟩
theorem gA3 (i j l : Nat) {o' o'' : Oper} (h1 : Mv X f O R o (fun f' O' R' => SubF S O' R' ∧ GB X S ops m (ls.set i true) C k f' O' R')) (h2 : Mv X f O R o' (fun f' O' R' => SubF S O' R' ∧ GB X S ops m (ls.set j true) C k f' O' R')) (h3 : Mv X f O R o'' (fun f' O' R' => SubF S O' R' ∧ GB X S ops m (ls.set l true) C k f' O' R')) (hr : (!(Region.ready .any ops.toArray ls.toArray).isEmpty && (Region.ready .any ops.toArray ls.toArray).all fun x => x == i || x == j || x == l) = true := by decide +kernel) (a1 : ops[i]? = some o := by exact rfl) (a2 : wantG X.n f ops o.guard = some true := by exact rfl) (b1 : ops[j]? = some o' := by exact rfl) (b2 : wantG X.n f ops o'.guard = some true := by exact rfl) (c1 : ops[l]? = some o'' := by exact rfl) (c2 : wantG X.n f ops o''.guard = some true := by exact rfl) : GB X S ops (m + 1) ls C k f O R := by
 rw [Bool.and_eq_true] at hr
 refine zjm (by simpa using hr.1) fun x _ hx => ?_
 have h := List.all_eq_true.1 hr.2 x hx
 rw [Bool.or_eq_true, Bool.or_eq_true, beq_iff_eq, beq_iff_eq, beq_iff_eq] at h
 rcases h with (rfl | rfl) | rfl
 ·exact ⟨o, a1, a2, h1⟩
 ·exact ⟨o', b1, b2, h2⟩
 ·exact ⟨o'', c1, c2, h3⟩
theorem cB {fid : Nat} {args : List Value} {v : Value} {dd : Nat} {c : Call} {x : Operand} (h : ∀ w, Kn X.E X.w0 w O R → Calls X.P fid args.toArray w fun e w' => e = .returned v ∧ Below w.heap.size w w') (hg : G X ops rest k ((dd, v) :: f) O R) (hw : wantG X.n f ops o.guard = some true := by exact rfl) (hd : o.dst = some dd := by exact rfl) (ho : o.op = .call c := by exact rfl) (hc : c.callee = .value x := by exact rfl) (hx : look X.n f x = some (.func (.func fid) #[] #[]) := by exact rfl) (ha : lookL X.n f c.args.toList = some args := by exact rfl) (hok : callable X.P fid = true := by kernel_rfl) (hdf : noDefer o.op = true := by rfl) : G X ops (o :: rest) k f O R := g_mv hw (zau h hd ho hc hx ha hok hg) hdf
theorem cb {N : Fr → List Fact → List Fact → Prop} {fid : Nat} {args : List Value} {v : Value} {dd : Nat} {c : Call} {x : Operand} (h : ∀ w, Kn X.E X.w0 w O R → Calls X.P fid args.toArray w fun e w' => e = .returned v ∧ Below w.heap.size w w') (hg : N ((dd, v) :: f) O R) (hd : o.dst = some dd := by exact rfl) (ho : o.op = .call c := by exact rfl) (hc : c.callee = .value x := by exact rfl) (hx : look X.n f x = some (.func (.func fid) #[] #[]) := by exact rfl) (ha : lookL X.n f c.args.toList = some args := by exact rfl) (hok : callable X.P fid = true := by kernel_rfl) : Mv X f O R o N := zau h hd ho hc hx ha hok hg
theorem cR {σ : Type} {I : σ → Prop} {V : σ → Value} {FF OO : σ → List Fact} {fid : Nat} {args : List Value} {dd : Nat} {c : Call} {x : Operand} (h : ∀ w, Kn X.E X.w0 w O R → Calls X.P fid args.toArray w (Ret I V FF w)) (hg : ∀ s, I s → G X ops rest k ((dd, V s) :: f) (OO s) R) (hw : wantG X.n f ops o.guard = some true := by exact rfl) (hd : o.dst = some dd := by exact rfl) (ho : o.op = .call c := by exact rfl) (hc : c.callee = .value x := by exact rfl) (hx : look X.n f x = some (.func (.func fid) #[] #[]) := by exact rfl) (ha : lookL X.n f c.args.toList = some args := by exact rfl) (hok : callable X.P fid = true := by kernel_rfl) (hcat : ∀ s, catO (FF s) O = some (OO s) := by exact fun _ => rfl) (hdf : noDefer o.op = true := by rfl) : G X ops (o :: rest) k f O R := g_mv hw (za3 h hd ho hc hx ha hok hcat hg) hdf
theorem gL2 {α β : Type} (I : α → β → Prop) (F : α → β → Fr) (OO RR : α → β → List Fact) (μ : α → β → Nat) (a0 : α) (b0 : β) {cd : Code} (h0 : I a0 b0) (step : ∀ a b, I a b → GK X (.code cd :: .inv (LInv X (fun q : α × β => match q with | (a, b) => I a b) (fun q : α × β => match q with | (a, b) => F a b) (fun q : α × β => match q with | (a, b) => OO a b) (fun q : α × β => match q with | (a, b) => RR a b) (fun q : α × β => match q with | (a, b) => μ a b) (μ a b)) :: k) (F a b) (OO a b) (RR a b)) (h : nx 1000 ks = some (.loop cd k) := by exact rfl) (hf : FSub X.n f (F a0 b0) := by repeat (first | exact trivial | refine ⟨rfl, ?_⟩)) (hO : SelAll (OO a0 b0) O := by exact sA) (hR : RR a0 b0 ⊆ R := by exact sS) : GK X ks f O R := zap (fun q : α × β => match q with | (a, b) => I a b) (fun q : α × β => match q with | (a, b) => F a b) (fun q : α × β => match q with | (a, b) => OO a b) (fun q : α × β => match q with | (a, b) => RR a b) (fun q : α × β => match q with | (a, b) => μ a b) (a0, b0) h h0 hf hO hR fun q hq => match q, hq with | (a, b), hq => step a b hq
theorem gL3 {α β γ : Type} (I : α → β → γ → Prop) (F : α → β → γ → Fr) (OO RR : α → β → γ → List Fact) (μ : α → β → γ → Nat) (a0 : α) (b0 : β) (c0 : γ) {cd : Code} (h0 : I a0 b0 c0) (step : ∀ a b c, I a b c → GK X (.code cd :: .inv (LInv X (fun q : α × β × γ => match q with | (a, b, c) => I a b c) (fun q : α × β × γ => match q with | (a, b, c) => F a b c) (fun q : α × β × γ => match q with | (a, b, c) => OO a b c) (fun q : α × β × γ => match q with | (a, b, c) => RR a b c) (fun q : α × β × γ => match q with | (a, b, c) => μ a b c) (μ a b c)) :: k) (F a b c) (OO a b c) (RR a b c)) (h : nx 1000 ks = some (.loop cd k) := by exact rfl) (hf : FSub X.n f (F a0 b0 c0) := by repeat (first | exact trivial | refine ⟨rfl, ?_⟩)) (hO : SelAll (OO a0 b0 c0) O := by exact sA) (hR : RR a0 b0 c0 ⊆ R := by exact sS) : GK X ks f O R := zap (fun q : α × β × γ => match q with | (a, b, c) => I a b c) (fun q : α × β × γ => match q with | (a, b, c) => F a b c) (fun q : α × β × γ => match q with | (a, b, c) => OO a b c) (fun q : α × β × γ => match q with | (a, b, c) => RR a b c) (fun q : α × β × γ => match q with | (a, b, c) => μ a b c) (a0, b0, c0) h h0 hf hO hR fun q hq => match q, hq with | (a, b, c), hq => step a b c hq
theorem gL4 {α β γ δ : Type} (I : α → β → γ → δ → Prop) (F : α → β → γ → δ → Fr) (OO RR : α → β → γ → δ → List Fact) (μ : α → β → γ → δ → Nat) (a0 : α) (b0 : β) (c0 : γ) (d0 : δ) {cd : Code} (h0 : I a0 b0 c0 d0) (step : ∀ a b c d, I a b c d → GK X (.code cd :: .inv (LInv X (fun q : α × β × γ × δ => match q with | (a, b, c, d) => I a b c d) (fun q : α × β × γ × δ => match q with | (a, b, c, d) => F a b c d) (fun q : α × β × γ × δ => match q with | (a, b, c, d) => OO a b c d) (fun q : α × β × γ × δ => match q with | (a, b, c, d) => RR a b c d) (fun q : α × β × γ × δ => match q with | (a, b, c, d) => μ a b c d) (μ a b c d)) :: k) (F a b c d) (OO a b c d) (RR a b c d)) (h : nx 1000 ks = some (.loop cd k) := by exact rfl) (hf : FSub X.n f (F a0 b0 c0 d0) := by repeat (first | exact trivial | refine ⟨rfl, ?_⟩)) (hO : SelAll (OO a0 b0 c0 d0) O := by exact sA) (hR : RR a0 b0 c0 d0 ⊆ R := by exact sS) : GK X ks f O R := zap (fun q : α × β × γ × δ => match q with | (a, b, c, d) => I a b c d) (fun q : α × β × γ × δ => match q with | (a, b, c, d) => F a b c d) (fun q : α × β × γ × δ => match q with | (a, b, c, d) => OO a b c d) (fun q : α × β × γ × δ => match q with | (a, b, c, d) => RR a b c d) (fun q : α × β × γ × δ => match q with | (a, b, c, d) => μ a b c d) (a0, b0, c0, d0) h h0 hf hO hR fun q hq => match q, hq with | (a, b, c, d), hq => step a b c d hq
end
end Go.Proofs.YtaghmffgoomebaaGreat.Gx
