/- The walk by reckoned steps: a store into one element of one's own slice. The walk by reckoned steps: a store of a whole element into one's own slice. The walk by reckoned steps: interface values, their methods; calls that turn one fact into another. The walk by reckoned steps: facts packed as one; methods on values behind a pointer. -/
import Derived.Test.YtaghmffgoomebaaGreatGxP
set_option linter.unusedVariables false
set_option linter.unusedSimpArgs false
namespace Go.Proofs.YtaghmffgoomebaaGreat.Gx
open Go.RowKit Mem
theorem zmc {α : Type} [Inhabited α] {sz : Nat} {enc : α → Nat → Value} {L : List α} {i j : Nat} {x y : α} (hx : L[i]? = some x) (hj : j < sz) (hy : ∀ b, b < sz → b ≠ j → enc y b = enc x b) : (flatF sz enc L).set (i * sz + j) (enc y j) = flatF sz enc (L.set i y) := by
 have hi := (List.getElem?_eq_some_iff.1 hx).1
 have hlen : (flatF sz enc L).length = L.length * sz := zaq _ _ L
 have hlen2 : (flatF sz enc (L.set i y)).length = L.length * sz := by rw [zaq, List.length_set]
 apply List.ext_getElem?
 intro p
 by_cases hp : p < L.length * sz
 ·have hsz : 0 < sz := by omega
  obtain ⟨a, b, ha, hb, rfl⟩ : ∃ a b, a < L.length ∧ b < sz ∧ p = a * sz + b := by
   refine ⟨p / sz, p % sz, ?_, Nat.mod_lt _ hsz, ?_⟩
   ·exact Nat.div_lt_of_lt_mul (by rw [Nat.mul_comm]; exact hp)
   ·rw [Nat.mul_comm]; exact (Nat.div_add_mod p sz).symm
  obtain ⟨z, hz⟩ : ∃ z, L[a]? = some z := ⟨L[a], List.getElem?_eq_getElem ha⟩
  by_cases e : a = i
  ·subst e
   have e2 : (L.set a y)[a]? = some y := by simp [ha]
   rw [zbe sz enc (L.set a y) a b y e2 hb]
   by_cases e3 : b = j
   ·subst e3
    rw [List.getElem?_set_self (by rw [hlen]; exact hp)]
   ·rw [List.getElem?_set_ne (by omega), zbe sz enc L a b x hx hb, hy b hb e3]
  ·have e2 : (L.set i y)[a]? = some z := by rw [List.getElem?_set_ne (fun h => e h.symm)]; exact hz
   rw [zbe sz enc (L.set i y) a b z e2 hb, List.getElem?_set_ne, zbe sz enc L a b z hz hb]
   intro h
   have h1 : (i * sz + j) / sz = (a * sz + b) / sz := by rw [h]
   rw [Nat.mul_comm, Nat.mul_add_div hsz, Nat.div_eq_of_lt hj, Nat.mul_comm a, Nat.mul_add_div hsz, Nat.div_eq_of_lt hb] at h1
   omega
 ·rw [List.getElem?_eq_none (by rw [List.length_set]; omega), List.getElem?_eq_none (by omega)]
theorem znE {α : Type} [Inhabited α] {sz : Nat} {enc : α → Nat → Value} {L : List α} {rest : List Value} {i j : Nat} {x y : α} {v : Value} (hx : L[i]? = some x) (hj : j < sz) (hy : ∀ b, b < sz → b ≠ j → enc y b = enc x b) (hv : v = enc y j) : lay (flatF sz enc L ++ rest) (i * sz + j) [v] = flatF sz enc (L.set i y) ++ rest := by
 have hi := (List.getElem?_eq_some_iff.1 hx).1
 have h1 : i * sz + j < (flatF sz enc L).length := by
  rw [zaq]
  have : (i + 1) * sz ≤ L.length * sz := Nat.mul_le_mul_right _ hi
  rw [Nat.add_mul] at this
  omega
 have h2 : lay (flatF sz enc L ++ rest) (i * sz + j) [v] = (flatF sz enc L ++ rest).set (i * sz + j) v := by
  unfold lay
  rw [List.set_eq_take_append_cons_drop, if_pos (by rw [List.length_append]; omega)]
  simp
 rw [h2, List.set_append_left _ _ h1, hv, zmc hx hj hy]
theorem Upd.via {φ ψ : Fact} {O O' : List Fact} (h : Upd φ ψ O O') : ∃ OO : Fact → List Fact, ∀ χ, Upd φ χ O (OO χ) ∧ Upd χ ψ (OO χ) O' ∧ ∀ χ', Upd χ χ' (OO χ) (OO χ') := by
 induction h with
 | here O => exact ⟨fun χ => χ :: O, fun χ => ⟨.here _, .here _, fun _ => .here _⟩⟩
 | there ζ h ih =>
   obtain ⟨OO, h⟩ := ih
   exact ⟨fun χ => ζ :: OO χ, fun χ => ⟨.there _ (h χ).1, .there _ (h χ).2.1, fun χ' => .there _ ((h χ).2.2 χ')⟩⟩
section
variable {X : Cx} {f : Fr} {O O' R : List Fact} {ks k : List KI} {o : Oper} {N : Fr → List Fact → List Fact → Prop}
theorem Mv.via {w1 : True} (h : ∀ a w, Rel X.n X.ds a f → Kn X.E X.w0 w O R → ∃ O1 R1, Kn X.E X.w0 w O1 R1 ∧ Mv X f O1 R1 o N) : Mv X f O R o N := fun a w hr hk K Q hK => by
 obtain ⟨O1, R1, h1, h2⟩ := h a w hr hk
 exact h2 a w hr h1 K Q hK
theorem zbL (hT : TabOk X.P X.T) {α : Type} [Inhabited α] {ty : Nat} {ad vl : Operand} {off t sz s g n c base e : Nat} {d : TD} {z : List Value} {v : Value} {enc : α → Nat → Value} {L : List α} (i j : Nat) (x y : α) (ho : o.op = .store ty ad vl)
 (hx : look X.n f ad = some (.pointer (some ⟨g, off, none⟩))) (hoff : off = i * sz + j) (hv : look X.n f vl = some v) (hty : tfind X.T ty = some ⟨t, d, s, z⟩) (hc : cellsN v s (agg? d) = some [v]) (h1 : oneB v = true)
 (hL : L[i]? = some x) (hj : j < sz) (hy : ∀ b, b < sz → b ≠ j → enc y b = enc x b) (hyv : v = enc y j)
 (hu : Upd (own base e sz (.slice (some ⟨g, 0, none⟩) n c) enc L) (own base e sz (.slice (some ⟨g, 0, none⟩) n c) enc (L.set i y)) O O') (hd : o.dst = none) (hg : N f O' R) : Mv X f O R o N := by
 obtain ⟨OO, hOO⟩ := hu.via
 refine Mv.via (w1 := trivial) fun a w hr hk => ?_
 have hsz : 0 < sz := by omega
 obtain ⟨rest, k1, k2, k3, k4, k5, k6⟩ := Kn.zhR (O'' := fun cs => OO (blk g cs e)) hsz hk (fun cs => (hOO _).1)
 refine ⟨_, R, k1, ?_⟩
 have hi := (List.getElem?_eq_some_iff.1 hL).1
 have hlen : i * sz + j + 1 ≤ L.length * sz := by
  have : (i + 1) * sz ≤ L.length * sz := Nat.mul_le_mul_right _ hi
  rw [Nat.add_mul] at this
  omega
 have hfl : (flatF sz enc L).length = L.length * sz := zaq _ _ L
 have hfl2 : (flatF sz enc (L.set i y)).length = L.length * sz := by rw [zaq, List.length_set]
 have hlay : lay (flatF sz enc L ++ rest) off [v] = flatF sz enc (L.set i y) ++ rest := by rw [hoff]; exact znE hL hj hy hyv
 have hmv : Mv X f (OO (blk g (flatF sz enc L ++ rest) e)) R o (fun f' O1 R1 => f' = f ∧ R1 = R ∧ O1 = OO (blk g (flatF sz enc (L.set i y) ++ rest) e)) := by
  refine zbq (cs := flatF sz enc L ++ rest) (T := e) hT ho hx hv hty hc (by simp [h1]) (O' := OO (blk g (flatF sz enc (L.set i y) ++ rest) e)) ?_ (by rw [List.length_append, hoff]; simp; omega) hd ⟨rfl, rfl, rfl⟩
  rw [hlay]
  exact (hOO _).2.2 _
 intro a w hr hk K Q hK
 refine hmv a w hr hk K Q fun a' w' f' O1 R1 ⟨q1, q2, q3⟩ hr' hk' => ?_
 subst q1
 subst q2
 subst q3
 refine hK _ _ _ _ _ hg hr' ?_
 exact Kn.zin hsz hk' (by rw [List.length_append] at k2 ⊢; omega) (by rw [List.length_set]; exact k3) k4 k5 k6 (by rw [k3, List.take_append_of_le_length (by omega), List.take_of_length_le (by omega)]) (hOO _).2.1
end
end Go.Proofs.YtaghmffgoomebaaGreat.Gx
namespace Go.Proofs.YtaghmffgoomebaaGreat.Gx
open Go.RowKit Mem
end Go.Proofs.YtaghmffgoomebaaGreat.Gx
namespace Go.Proofs.YtaghmffgoomebaaGreat.Gx
open Go.RowKit Mem
def notIface (P : Program) (t : TypeId) : Bool := match P.underlying t with | some (.interface _) => false | some _ => true | none => false
section
variable {X : Cx} {f : Fr} {O R S : List Fact} {ks k : List KI} {ops rest : List Oper} {o : Oper} {N : Fr → List Fact → List Fact → Prop}
theorem zd9 {P : Program} {t : TypeId} (h : notIface P t = true) (w : World) : ∃ d, (underlying t).run P w = .ok d w ∧ P.underlying t = some d ∧ ∀ ms, d ≠ .interface ms := by
 unfold notIface at h
 cases hu : P.underlying t with
 | none => rw [hu] at h; cases h
 | some d =>
   refine ⟨d, by simp [run_underlying hu], rfl, fun ms e => ?_⟩
   subst e
   rw [hu] at h
   cases h
theorem zbx {t : Nat} {x : Operand} {v : Value} (ho : o.op = .makeInterface t x) (hx : look X.n f x = some v) (hn : notIface X.P t = true) : Ys X S f o (.iface t v) := fun ac w hr _ => by
 obtain ⟨d, h1, _, h2⟩ := zd9 hn w
 simp only [execOp, ho, hr.look hx, Instr.makeInterface, Sem.run_bind, h1, Result.andThen_ok]
 cases d <;> first | rfl | exact absurd rfl (h2 _)
theorem zdp {t xt : Nat} {x : Operand} {v : Value} (ho : o.op = .typeAssert x xt t false) (hx : look X.n f x = some (.iface t v)) (hn : notIface X.P t = true) : Ys X S f o v := fun ac w hr _ => by
 obtain ⟨d, h1, _, h2⟩ := zd9 hn w
 simp only [execOp, ho, hr.look hx, Instr.typeAssert, Sem.run_bind, h1, Result.andThen_ok]
 cases d <;> first | (simp; done) | exact absurd rfl (h2 _)
def IMeth (P : Program) (recv : Value) (name : String) (args : List Value) (w : World) (R : Ending → World → Prop) : Prop := ∃ f rs, (callMethod recv name args.toArray).run P w = .ok (.enter f rs) w ∧ Calls P f rs w R
theorem zpf {P : Program} {a : Act} {c : Call} {x : Operand} {recv : Value} {name : String} {args : List Value} {fid : FuncId} {rs : Array Value} {w : World} (ho : o.op = .call c) (hc : c.callee = .invoke x name) (hx : a.eval x = recv) (ha : c.args.toList.map a.eval = args)
 (h : (callMethod recv name args.toArray).run P w = .ok (.enter fid rs) w) : (execOp a.eval o).run P w = .ok (.enter fid rs) w := by
 have e : c.args.map a.eval = args.toArray := by apply Array.ext'; simpa using ha
 have e2 : (#[recv] ++ args.toArray).extract 1 (#[recv] ++ args.toArray).size = args.toArray := by
  apply Array.ext'
  simp
 simp only [execOp, ho, resolve, hc, hx, e, Sem.run_bind, Sem.run_pure, Result.andThen_ok, invoke]
 have e3 : (#[recv] ++ args.toArray)[0]? = some recv := by simp
 simp only [e3, e2]
 exact h
theorem zoJ {dd : Nat} (hd : o.dst = some dd) {c : Call} {x : Operand} {recv : Value} {name : String} {args : List Value} (ho : o.op = .call c) (hc : c.callee = .invoke x name) (hx : look X.n f x = some recv) (ha : lookL X.n f c.args.toList = some args)
 (h : ∀ w, Kn X.E X.w0 w O R → IMeth X.P recv name args w fun e w' => ∃ v O' R', e = .returned v ∧ Kn X.E X.w0 w' O' R' ∧ N ((dd, v) :: f) O' R') : Mv X f O R o N := fun a w hr hk K Q hK => by
 obtain ⟨fid, rs, h1, h2⟩ := h w hk
 unfold Oper.wp
 rw [zpf ho hc (hr.look hx) (zaR hr ha) h1]
 refine h2.mono ?_
 rintro e w' ⟨v, O', R', rfl, hk', hg⟩
 exact hK _ _ _ _ _ hg (hr.put1 hd _) hk'
theorem zbI {dd : Nat} (hd : o.dst = some dd) {c : Call} {x : Operand} {recv v : Value} {name : String} {args : List Value} (ho : o.op = .call c) (hc : c.callee = .invoke x name) (hx : look X.n f x = some recv) (ha : lookL X.n f c.args.toList = some args)
 (h : ∀ w, Kn X.E X.w0 w O R → IMeth X.P recv name args w fun e w' => e = .returned v ∧ Below w.heap.size w w') (hg : N ((dd, v) :: f) O R) : Mv X f O R o N :=
 zoJ hd ho hc hx ha fun w hk => by
  obtain ⟨fid, rs, h1, h2⟩ := h w hk
  exact ⟨fid, rs, h1, h2.mono fun e w' ⟨he, hw⟩ => ⟨v, O, R, he, hk.below hw, hg⟩⟩
structure Mod (w w' : World) (φ ψ : Fact) : Prop where
 os : w'.os = w.os
 tape : w'.tape = w.tape
 output : w'.output = w.output
 size : w.heap.size ≤ w'.heap.size
 block : ∀ b, b < w.heap.size → ¬ φ.S b → w'.heap[b]? = w.heap[b]?
 p : ψ.p w'
 S : ∀ b, ψ.S b → (φ.S b ∨ w.heap.size ≤ b) ∧ b < w'.heap.size
theorem Kn.mod {E : List Nat} {w0 w w' : World} {φ ψ : Fact} {O' : List Fact} (h : Kn E w0 w O R) (hm : Mod w w' φ ψ) (hu : Upd φ ψ O O') : Kn E w0 w' O' R := h.upd hu hm.os hm.tape hm.output hm.size hm.block hm.p hm.S
def RetM {σ : Type} (φ : Fact) (I : σ → Prop) (V : σ → Value) (ψ : σ → Fact) (w : World) (e : Ending) (w' : World) : Prop := ∃ s, I s ∧ e = .returned (V s) ∧ Mod w w' φ (ψ s)
theorem zbH {σ : Type} {φ : Fact} {I : σ → Prop} {V : σ → Value} {ψ : σ → Fact} {OO : σ → List Fact} {dd : Nat} (hd : o.dst = some dd) {c : Call} {x : Operand} {recv : Value} {name : String} {args : List Value} (ho : o.op = .call c) (hc : c.callee = .invoke x name) (hx : look X.n f x = some recv) (ha : lookL X.n f c.args.toList = some args)
 (h : ∀ w, Kn X.E X.w0 w O R → IMeth X.P recv name args w (RetM φ I V ψ w)) (hu : ∀ s, Upd φ (ψ s) O (OO s)) (hg : ∀ s, I s → N ((dd, V s) :: f) (OO s) R) : Mv X f O R o N :=
 zoJ hd ho hc hx ha fun w hk => by
  obtain ⟨fid, rs, h1, h2⟩ := h w hk
  exact ⟨fid, rs, h1, h2.mono fun e w' ⟨s, hi, he, hm⟩ => ⟨_, _, R, he, hk.mod hm (hu s), hg s hi⟩⟩
theorem zax {σ : Type} {φ : Fact} {I : σ → Prop} {V : σ → Value} {ψ : σ → Fact} {OO : σ → List Fact} {fid : Nat} {args : List Value} (h : ∀ w, Kn X.E X.w0 w O R → Calls X.P fid args.toArray w (RetM φ I V ψ w)) {dd : Nat} (hd : o.dst = some dd) {c : Call} {x : Operand} (ho : o.op = .call c) (hc : c.callee = .value x) (hx : look X.n f x = some (.func (.func fid) #[] #[])) (ha : lookL X.n f c.args.toList = some args) (hok : callable X.P fid = true)
 (hu : ∀ s, Upd φ (ψ s) O (OO s)) (hg : ∀ s, I s → N ((dd, V s) :: f) (OO s) R) : Mv X f O R o N :=
 zce hd ho hc hx ha hok fun w hk => (h w hk).mono fun e w' ⟨s, hi, he, hm⟩ => ⟨_, _, R, he, hk.mod hm (hu s), hg s hi⟩
theorem Kn.startM {w : World} {φ : Fact} {E : List Nat} {R : List Fact} (h : Rd1 w φ) (hE : ∀ b, φ.S b → b ∈ E) (hR : ∀ ψ, ψ ∈ R → Rd1 w ψ ∧ ∀ b, φ.S b → ¬ ψ.S b) : Kn E w w [φ] R where
 os := rfl
 tape := rfl
 output := rfl
 size := Nat.le_refl _
 block _ _ _ := rfl
 ownS ψ hψ b hb := by
  obtain rfl := List.mem_singleton.1 hψ
  exact .inr (hE b hb)
 ltO ψ hψ := by
  obtain rfl := List.mem_singleton.1 hψ
  exact h.2
 ltR ψ hψ := (hR ψ hψ).1.2
 pO ψ hψ := by
  obtain rfl := List.mem_singleton.1 hψ
  exact h.1
 pR ψ hψ := (hR ψ hψ).1.1
 disO := List.pairwise_singleton _ _
 disR ψ hψ χ hχ b h1 h2 := by
  obtain rfl := List.mem_singleton.1 hψ
  exact (hR χ hχ).2 b h1 h2
theorem Kn.outM {w w' : World} {φ ψ : Fact} {E : List Nat} (h : Kn E w w' O R) (hE : ∀ b, b ∈ E → φ.S b) (hm : ψ ∈ O) : Mod w w' φ ψ where
 os := h.os
 tape := h.tape
 output := h.output
 size := h.size
 block b hb hS := h.block b hb fun hbE => hS (hE b hbE)
 p := h.pO _ hm
 S b hb := ⟨(h.ownS _ hm b hb).symm.imp (hE b) id, h.ltO _ hm b hb⟩
theorem RetM.mk {σ : Type} {φ : Fact} {I : σ → Prop} {V : σ → Value} {ψ : σ → Fact} {w w' : World} {v : Value} {E : List Nat} (s : σ) (hi : I s) (hv : v = V s) (h : Kn E w w' O R) (hE : ∀ b, b ∈ E → φ.S b) (hm : ψ s ∈ O) : RetM φ I V ψ w (.returned v) w' := ⟨s, hi, by rw [hv], h.outM hE hm⟩
end
def andF (l : List Fact) : Fact := allF l id
theorem Kn.andO {E : List Nat} {w0 w : World} {l O R : List Fact} (h : Kn E w0 w (andF l :: O) R) (hd : l.Pairwise fun φ ψ => ∀ b, φ.S b → ¬ ψ.S b) : Kn E w0 w (l ++ O) R where
 os := h.os
 tape := h.tape
 output := h.output
 size := h.size
 block := h.block
 ownS φ hφ b hb := by
  rcases List.mem_append.1 hφ with h1 | h1
  ·exact h.ownS _ (.head _) b ⟨φ, h1, hb⟩
  ·exact h.ownS _ (.tail _ h1) b hb
 ltO φ hφ b hb := by
  rcases List.mem_append.1 hφ with h1 | h1
  ·exact h.ltO _ (.head _) b ⟨φ, h1, hb⟩
  ·exact h.ltO _ (.tail _ h1) b hb
 ltR := h.ltR
 pO φ hφ := by
  rcases List.mem_append.1 hφ with h1 | h1
  ·exact h.pO _ (.head _) φ h1
  ·exact h.pO _ (.tail _ h1)
 pR := h.pR
 disO := by
  have h1 := List.pairwise_cons.1 h.disO
  rw [List.pairwise_append]
  exact ⟨hd, h1.2, fun φ hφ ψ hψ b h2 h3 => h1.1 ψ hψ b ⟨φ, hφ, h2⟩ h3⟩
 disR φ hφ ψ hψ b h1 h2 := by
  rcases List.mem_append.1 hφ with h3 | h3
  ·exact h.disR _ (.head _) ψ hψ b ⟨φ, h3, h1⟩ h2
  ·exact h.disR _ (.tail _ h3) ψ hψ b h1 h2
theorem Kn.andI {E : List Nat} {w0 w : World} {l O R : List Fact} (h : Kn E w0 w (l ++ O) R) : Kn E w0 w (andF l :: O) R where
 os := h.os
 tape := h.tape
 output := h.output
 size := h.size
 block := h.block
 ownS φ hφ b hb := by
  rcases List.mem_cons.1 hφ with rfl | h1
  ·obtain ⟨ψ, h2, h3⟩ := hb; exact h.ownS ψ (List.mem_append_left _ h2) b h3
  ·exact h.ownS _ (List.mem_append_right _ h1) b hb
 ltO φ hφ b hb := by
  rcases List.mem_cons.1 hφ with rfl | h1
  ·obtain ⟨ψ, h2, h3⟩ := hb; exact h.ltO ψ (List.mem_append_left _ h2) b h3
  ·exact h.ltO _ (List.mem_append_right _ h1) b hb
 ltR := h.ltR
 pO φ hφ := by
  rcases List.mem_cons.1 hφ with rfl | h1
  ·exact fun ψ h2 => h.pO ψ (List.mem_append_left _ h2)
  ·exact h.pO _ (List.mem_append_right _ h1)
 pR := h.pR
 disO := by
  have h1 := List.pairwise_append.1 h.disO
  exact List.pairwise_cons.2 ⟨fun ψ hψ b ⟨φ, hφ, h2⟩ h3 => h1.2.2 φ hφ ψ hψ b h2 h3, h1.2.1⟩
 disR φ hφ ψ hψ b h1 h2 := by
  rcases List.mem_cons.1 hφ with rfl | h3
  ·obtain ⟨χ, h4, h5⟩ := h1; exact h.disR χ (List.mem_append_left _ h4) ψ hψ b h5 h2
  ·exact h.disR _ (List.mem_append_right _ h3) ψ hψ b h1 h2
theorem Upd.mod {φ ψ : Fact} {O O' : List Fact} (h : Upd φ ψ O O') : True := trivial
end Go.Proofs.YtaghmffgoomebaaGreat.Gx
namespace Go.Proofs.YtaghmffgoomebaaGreat.Gx
open Go.RowKit Mem
def DisL (l : List Fact) : Prop := l.Pairwise fun φ ψ => ∀ b, φ.S b → ¬ ψ.S b
def packF (l : List Fact) : Fact := ⟨fun b => ∃ φ, φ ∈ l ∧ φ.S b, fun w => DisL l ∧ ∀ φ, φ ∈ l → φ.p w, fun w w' h hp => ⟨hp.1, fun φ hφ => φ.loc w w' (fun b hb => h b ⟨φ, hφ, hb⟩) (hp.2 φ hφ)⟩⟩
section
variable {X : Cx} {f : Fr} {E : List Nat} {w0 w w' : World} {O O1 R l : List Fact} {ks k : List KI} {ops lo : List Oper}
theorem Kn.unpack (h : Kn E w0 w (packF l :: O) R) : Kn E w0 w (l ++ O) R := by
 have hp := h.pO _ (.head _)
 refine Kn.andO (l := l) ?_ hp.1
 exact {
  os := h.os
  tape := h.tape
  output := h.output
  size := h.size
  block := h.block
  ownS := fun φ hφ b hb => by
   rcases List.mem_cons.1 hφ with rfl | h1
   ·exact h.ownS _ (.head _) b hb
   ·exact h.ownS _ (.tail _ h1) b hb
  ltO := fun φ hφ b hb => by
   rcases List.mem_cons.1 hφ with rfl | h1
   ·exact h.ltO _ (.head _) b hb
   ·exact h.ltO _ (.tail _ h1) b hb
  ltR := h.ltR
  pO := fun φ hφ => by
   rcases List.mem_cons.1 hφ with rfl | h1
   ·exact hp.2
   ·exact h.pO _ (.tail _ h1)
  pR := h.pR
  disO := List.pairwise_cons.2 ⟨fun ψ hψ b hb => (List.pairwise_cons.1 h.disO).1 ψ hψ b hb, (List.pairwise_cons.1 h.disO).2⟩
  disR := fun φ hφ ψ hψ b h1 h2 => by
   rcases List.mem_cons.1 hφ with rfl | h3
   ·exact h.disR _ (.head _) ψ hψ b h1 h2
   ·exact h.disR _ (.tail _ h3) ψ hψ b h1 h2 }
theorem Kn.pack (h : Kn E w0 w (l ++ O) R) : Kn E w0 w (packF l :: O) R := by
 have hd : DisL l := (List.pairwise_append.1 h.disO).1
 have h2 := h.andI
 exact {
  os := h2.os
  tape := h2.tape
  output := h2.output
  size := h2.size
  block := h2.block
  ownS := fun φ hφ b hb => by
   rcases List.mem_cons.1 hφ with rfl | h1
   ·exact h2.ownS _ (.head _) b hb
   ·exact h2.ownS _ (.tail _ h1) b hb
  ltO := fun φ hφ b hb => by
   rcases List.mem_cons.1 hφ with rfl | h1
   ·exact h2.ltO _ (.head _) b hb
   ·exact h2.ltO _ (.tail _ h1) b hb
  ltR := h2.ltR
  pO := fun φ hφ => by
   rcases List.mem_cons.1 hφ with rfl | h1
   ·exact ⟨hd, h2.pO _ (.head _)⟩
   ·exact h2.pO _ (.tail _ h1)
  pR := h2.pR
  disO := List.pairwise_cons.2 ⟨fun ψ hψ b hb => (List.pairwise_cons.1 h2.disO).1 ψ hψ b hb, (List.pairwise_cons.1 h2.disO).2⟩
  disR := fun φ hφ ψ hψ b h3 h4 => by
   rcases List.mem_cons.1 hφ with rfl | h5
   ·exact h2.disR _ (.head _) ψ hψ b h3 h4
   ·exact h2.disR _ (.tail _ h5) ψ hψ b h3 h4 }
theorem zbM (hs : Sel (packF l) O O1) (hg : GK X ks f (l ++ O1) R) : GK X ks f O R := .mk fun a w hr hk => hg.out a w hr (Kn.unpack (hk.perm hs.perm))
theorem zbJ (hs : Sel (packF l) O O1) (hg : G X ops lo k f (l ++ O1) R) : G X ops lo k f O R := .mk fun a w hr hk => hg.out a w hr (Kn.unpack (hk.perm hs.perm))
theorem zbv (l r : List Fact) (hs : SelAll (l ++ r) O) (hg : GK X ks f (packF l :: r) R) : GK X ks f O R := .mk fun a w hr hk => hg.out a w hr (Kn.pack (hk.sel hs (List.Subset.refl _)))
theorem zcD (l r : List Fact) (hs : SelAll (l ++ r) O) (hg : G X ops lo k f (packF l :: r) R) : G X ops lo k f O R := .mk fun a w hr hk => hg.out a w hr (Kn.pack (hk.sel hs (List.Subset.refl _)))
theorem Rd1.unpack {φ : Fact} (h : Rd1 w (packF l)) (hm : φ ∈ l) : Rd1 w φ := ⟨h.1.2 φ hm, fun b hb => h.2 b ⟨φ, hm, hb⟩⟩
theorem Kn.startP {R : List Fact} (h : Rd1 w (packF l)) (hE : ∀ b, (packF l).S b → b ∈ E) (hR : ∀ ψ, ψ ∈ R → Rd1 w ψ ∧ ∀ b, (packF l).S b → ¬ ψ.S b) : Kn E w w l R := by
 have := (Kn.startM h hE hR).unpack
 simpa using this
theorem RetM.mkP {σ : Type} {I : σ → Prop} {V : σ → Value} {ll : σ → List Fact} {v : Value} (s : σ) (hi : I s) (hv : v = V s) (h : Kn E w w' O R) (hE : ∀ b, b ∈ E → (packF l).S b) (hm : SelAll (ll s) O) : RetM (packF l) I V (fun s => packF (ll s)) w (.returned v) w' :=
 RetM.mk s hi hv (Kn.pack (O := []) (by simpa using h.sel hm (List.Subset.refl _))) hE (.head _)
theorem zcw {α : Type} [Inhabited α] {base e sz : Nat} {v : Value} {enc : α → Nat → Value} {L : List α} (h : Rd1 w (own base e sz v enc L)) : ∃ A c, v = .slice A L.length c ∧ L.length ≤ c ∧ c ≤ maxLen ∧ (A = none → c = 0) ∧ Rd1 w (sl A sz enc L) := by
 have hk : Kn [] w w [] [own base e sz v enc L] := (Rds.cons h .nil).kn
 have ho : OwnL w base e sz v enc L := h.1
 obtain ⟨A, c, hv, hs, h1, h2, h3⟩ := OwnL.sl ho
 refine ⟨A, c, hv, h1, h2, h3.1, hs, fun b hb => ?_⟩
 obtain ⟨_, a, ha, hab⟩ := hb
 exact h.2 b (by
  subst hv
  subst ha
  subst hab
  rfl)
end
def methOf (P : Program) (t : TypeId) (name : String) : Option (FuncId × Bool) :=
 match P.info? t with
 | some i => (match i.methods.find? (·.name == name) with
   | some m => (match m.path.toList, m.func with | [], some fp => some fp | _, _ => none)
   | none => none)
 | none => none
theorem znx {P : Program} {t e : TypeId} {name : String} {fid : FuncId} {g off : Nat} {x : Value} {args : List Value} {w : World} (hm : methOf P t name = some (fid, false)) (hu : P.underlying t = some (.pointer e)) (hok : callable P fid = true) (hl : (loadVar e ⟨g, off, none⟩).run P w = .ok x w) :
 (callMethod (.iface t (.pointer (some ⟨g, off, none⟩))) name args.toArray).run P w = .ok (.enter fid (x :: args).toArray) w := by
 unfold methOf at hm
 cases hi : P.info? t with
 | none => rw [hi] at hm; cases hm
 | some i =>
   rw [hi] at hm
   simp only at hm
   cases hf : i.methods.find? (·.name == name) with
   | none => rw [hf] at hm; cases hm
   | some m =>
     rw [hf] at hm
     simp only at hm
     cases hp : m.path.toList with
     | cons _ _ => rw [hp] at hm; simp at hm
     | nil =>
       rw [hp] at hm
       cases hfn : m.func with
       | none => rw [hfn] at hm; simp at hm
       | some fp =>
         rw [hfn] at hm
         have hfp : fp = (fid, false) := by injection hm
         have hpe : m.path = #[] := by apply Array.ext'; simpa using hp
         unfold callable at hok
         split at hok
         ·rename_i fn hfn2
          rw [Bool.and_eq_true] at hok
          have hn : ¬ fn.name = "runtime.NumGoroutine" := by simpa using hok.2
          have hb : ¬ fn.body = none := fun e => by rw [e] at hok; simp at hok
          have hb' : fn.body.isNone = false := by
           cases h : fn.body with
           | none => exact absurd h hb
           | some b => rfl
          have hsz : P.types.size + Made.depth = (P.types.size + Made.depth - 1) + 1 := by unfold Made.depth; omega
          have e1 : (#[x] ++ args.toArray) = (x :: args).toArray := by simp
          have hchk : ∀ nm, (Builtin.ssaWrapNilChk_ #[t] t #[.pointer (some ⟨g, off, none⟩), strVal "", strVal nm]).run P w = .ok (.pointer (some ⟨g, off, none⟩)) w := fun nm => rfl
          have hmeth : ∀ n, (method (n + 1) t (.pointer (some ⟨g, off, none⟩)) name).run P w = .ok (fid, x) w := fun n => by
           simp [method, typeInfo, hi, hf, hpe, follow, hfn, hfp, receiverAt, run_underlying hu, Place.get, hchk, asAddr, hl]
          have hprog : (program : Sem Program).run P w = .ok P w := rfl
          unfold callMethod
          simp only [Sem.run_bind, hprog, Result.andThen_ok]
          rw [hsz, hmeth]
          simp [callFunc, hfn2, hn, hb, hb']
         ·cases hok
end Go.Proofs.YtaghmffgoomebaaGreat.Gx
