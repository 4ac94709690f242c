/- The walk by reckoned steps: interface values, their methods; calls that turn one fact into another. -/
import Derived.Test.YtmmijcannahjhaaGxQ
namespace Go.Proofs.Ytmmijcannahjhaa.Gx
open Go.RowKit Mem
set_option linter.unusedVariables false
set_option linter.unusedSimpArgs false
def notIface (P : Program) (t : TypeId) : Bool := match P.underlying t with | some (.interface _) => false | some _ => true | none => false
section
variable {X : Cx} {f : Fr} {O R S : List Fact} {ks k : List KI} {ops rest : List Oper} {o : Oper} {N : Fr → List Fact → List Fact → Prop}
theorem notIface_run {P : Program} {t : TypeId} (h : notIface P t = true) (w : World) : ∃ d, (underlying t).run P w = .ok d w ∧ P.underlying t = some d ∧ ∀ ms, d ≠ .interface ms := by
  unfold notIface at h
  cases hu : P.underlying t with
  | none => rw [hu] at h; cases h
  | some d =>
    refine ⟨d, by simp [run_underlying hu], rfl, fun ms e => ?_⟩
    subst e
    rw [hu] at h
    cases h
theorem ys_makeIface {t : Nat} {x : Operand} {v : Value} (ho : o.op = .makeInterface t x) (hx : look X.n f x = some v) (hn : notIface X.P t = true) : Ys X S f o (.iface t v) := fun ac w hr _ => by
  obtain ⟨d, h1, _, h2⟩ := notIface_run hn w
  simp only [execOp, ho, hr.look hx, Instr.makeInterface, Sem.run_bind, h1, Result.andThen_ok]
  cases d <;> first | rfl | exact absurd rfl (h2 _)
theorem ys_typeAssert {t xt : Nat} {x : Operand} {v : Value} (ho : o.op = .typeAssert x xt t false) (hx : look X.n f x = some (.iface t v)) (hn : notIface X.P t = true) : Ys X S f o v := fun ac w hr _ => by
  obtain ⟨d, h1, _, h2⟩ := notIface_run hn w
  simp only [execOp, ho, hr.look hx, Instr.typeAssert, Sem.run_bind, h1, Result.andThen_ok]
  cases d <;> first | (simp; done) | exact absurd rfl (h2 _)
/-- A method of an interface value, by its name. -/
def IMeth (P : Program) (recv : Value) (name : String) (args : List Value) (w : World) (R : Ending → World → Prop) : Prop := ∃ f rs, (callMethod recv name args.toArray).run P w = .ok (.enter f rs) w ∧ Calls P f rs w R
theorem run_inv {P : Program} {a : Act} {c : Call} {x : Operand} {recv : Value} {name : String} {args : List Value} {fid : FuncId} {rs : Array Value} {w : World} (ho : o.op = .call c) (hc : c.callee = .invoke x name) (hx : a.eval x = recv) (ha : c.args.toList.map a.eval = args)
    (h : (callMethod recv name args.toArray).run P w = .ok (.enter fid rs) w) : (execOp a.eval o).run P w = .ok (.enter fid rs) w := by
  have e : c.args.map a.eval = args.toArray := by apply Array.ext'; simpa using ha
  have e2 : (#[recv] ++ args.toArray).extract 1 (#[recv] ++ args.toArray).size = args.toArray := by
    apply Array.ext'
    simp
  simp only [execOp, ho, resolve, hc, hx, e, Sem.run_bind, Sem.run_pure, Result.andThen_ok, invoke]
  have e3 : (#[recv] ++ args.toArray)[0]? = some recv := by simp
  simp only [e3, e2]
  exact h
theorem mv_inv {dd : Nat} (hd : o.dst = some dd) {c : Call} {x : Operand} {recv : Value} {name : String} {args : List Value} (ho : o.op = .call c) (hc : c.callee = .invoke x name) (hx : look X.n f x = some recv) (ha : lookL X.n f c.args.toList = some args)
    (h : ∀ w, Kn X.E X.w0 w O R → IMeth X.P recv name args w fun e w' => ∃ v O' R', e = .returned v ∧ Kn X.E X.w0 w' O' R' ∧ N ((dd, v) :: f) O' R') : Mv X f O R o N := fun a w hr hk K Q hK => by
  obtain ⟨fid, rs, h1, h2⟩ := h w hk
  unfold Oper.wp
  rw [run_inv ho hc (hr.look hx) (lookL_eq hr ha) h1]
  refine h2.mono ?_
  rintro e w' ⟨v, O', R', rfl, hk', hg⟩
  exact hK _ _ _ _ _ hg (hr.put1 hd _) hk'
theorem mv_inv_bel {dd : Nat} (hd : o.dst = some dd) {c : Call} {x : Operand} {recv v : Value} {name : String} {args : List Value} (ho : o.op = .call c) (hc : c.callee = .invoke x name) (hx : look X.n f x = some recv) (ha : lookL X.n f c.args.toList = some args)
    (h : ∀ w, Kn X.E X.w0 w O R → IMeth X.P recv name args w fun e w' => e = .returned v ∧ Below w.heap.size w w') (hg : N ((dd, v) :: f) O R) : Mv X f O R o N :=
  mv_inv hd ho hc hx ha fun w hk => by
    obtain ⟨fid, rs, h1, h2⟩ := h w hk
    exact ⟨fid, rs, h1, h2.mono fun e w' ⟨he, hw⟩ => ⟨v, O, R, he, hk.below hw, hg⟩⟩
/-- One fact has become another one; all else is as it was. -/
structure Mod (w w' : World) (φ ψ : Fact) : Prop where
  os : w'.os = w.os
  tape : w'.tape = w.tape
  output : w'.output = w.output
  size : w.heap.size ≤ w'.heap.size
  block : ∀ b, b < w.heap.size → ¬ φ.S b → w'.heap[b]? = w.heap[b]?
  p : ψ.p w'
  S : ∀ b, ψ.S b → (φ.S b ∨ w.heap.size ≤ b) ∧ b < w'.heap.size
theorem Kn.mod {E : List Nat} {w0 w w' : World} {φ ψ : Fact} {O' : List Fact} (h : Kn E w0 w O R) (hm : Mod w w' φ ψ) (hu : Upd φ ψ O O') : Kn E w0 w' O' R := h.upd hu hm.os hm.tape hm.output hm.size hm.block hm.p hm.S
/-- A call that turns one fact into another. -/
def RetM {σ : Type} (φ : Fact) (I : σ → Prop) (V : σ → Value) (ψ : σ → Fact) (w : World) (e : Ending) (w' : World) : Prop := ∃ s, I s ∧ e = .returned (V s) ∧ Mod w w' φ (ψ s)
theorem mv_inv_mod {σ : Type} {φ : Fact} {I : σ → Prop} {V : σ → Value} {ψ : σ → Fact} {OO : σ → List Fact} {dd : Nat} (hd : o.dst = some dd) {c : Call} {x : Operand} {recv : Value} {name : String} {args : List Value} (ho : o.op = .call c) (hc : c.callee = .invoke x name) (hx : look X.n f x = some recv) (ha : lookL X.n f c.args.toList = some args)
    (h : ∀ w, Kn X.E X.w0 w O R → IMeth X.P recv name args w (RetM φ I V ψ w)) (hu : ∀ s, Upd φ (ψ s) O (OO s)) (hg : ∀ s, I s → N ((dd, V s) :: f) (OO s) R) : Mv X f O R o N :=
  mv_inv hd ho hc hx ha fun w hk => by
    obtain ⟨fid, rs, h1, h2⟩ := h w hk
    exact ⟨fid, rs, h1, h2.mono fun e w' ⟨s, hi, he, hm⟩ => ⟨_, _, R, he, hk.mod hm (hu s), hg s hi⟩⟩
theorem mv_call_mod {σ : Type} {φ : Fact} {I : σ → Prop} {V : σ → Value} {ψ : σ → Fact} {OO : σ → List Fact} {fid : Nat} {args : List Value} (h : ∀ w, Kn X.E X.w0 w O R → Calls X.P fid args.toArray w (RetM φ I V ψ w)) {dd : Nat} (hd : o.dst = some dd) {c : Call} {x : Operand} (ho : o.op = .call c) (hc : c.callee = .value x) (hx : look X.n f x = some (.func (.func fid) #[] #[])) (ha : lookL X.n f c.args.toList = some args) (hok : callable X.P fid = true)
    (hu : ∀ s, Upd φ (ψ s) O (OO s)) (hg : ∀ s, I s → N ((dd, V s) :: f) (OO s) R) : Mv X f O R o N :=
  mv_call hd ho hc hx ha hok fun w hk => (h w hk).mono fun e w' ⟨s, hi, he, hm⟩ => ⟨_, _, R, he, hk.mod hm (hu s), hg s hi⟩
/-- The beginning of such a call. -/
theorem Kn.startM {w : World} {φ : Fact} {E : List Nat} {R : List Fact} (h : Rd1 w φ) (hE : ∀ b, φ.S b → b ∈ E) (hR : ∀ ψ, ψ ∈ R → Rd1 w ψ ∧ ∀ b, φ.S b → ¬ ψ.S b) : Kn E w w [φ] R where
  os := rfl
  tape := rfl
  output := rfl
  size := Nat.le_refl _
  block _ _ _ := rfl
  ownS ψ hψ b hb := by
    obtain rfl := List.mem_singleton.1 hψ
    exact .inr (hE b hb)
  ltO ψ hψ := by
    obtain rfl := List.mem_singleton.1 hψ
    exact h.2
  ltR ψ hψ := (hR ψ hψ).1.2
  pO ψ hψ := by
    obtain rfl := List.mem_singleton.1 hψ
    exact h.1
  pR ψ hψ := (hR ψ hψ).1.1
  disO := List.pairwise_singleton _ _
  disR ψ hψ χ hχ b h1 h2 := by
    obtain rfl := List.mem_singleton.1 hψ
    exact (hR χ hχ).2 b h1 h2
/-- Its end. -/
theorem Kn.outM {w w' : World} {φ ψ : Fact} {E : List Nat} (h : Kn E w w' O R) (hE : ∀ b, b ∈ E → φ.S b) (hm : ψ ∈ O) : Mod w w' φ ψ where
  os := h.os
  tape := h.tape
  output := h.output
  size := h.size
  block b hb hS := h.block b hb fun hbE => hS (hE b hbE)
  p := h.pO _ hm
  S b hb := ⟨(h.ownS _ hm b hb).symm.imp (hE b) id, h.ltO _ hm b hb⟩
theorem RetM.mk {σ : Type} {φ : Fact} {I : σ → Prop} {V : σ → Value} {ψ : σ → Fact} {w w' : World} {v : Value} {E : List Nat} (s : σ) (hi : I s) (hv : v = V s) (h : Kn E w w' O R) (hE : ∀ b, b ∈ E → φ.S b) (hm : ψ s ∈ O) : RetM φ I V ψ w (.returned v) w' := ⟨s, hi, by rw [hv], h.outM hE hm⟩
theorem Mod.of_below {w w' : World} {φ : Fact} (h : Rd1 w φ) (hb : Below w.heap.size w w') : Mod w w' φ φ := ⟨hb.os, hb.tape, hb.output, hb.size, fun b h1 _ => hb.block b h1, φ.loc w w' (fun b hS => hb.block b (h.2 b hS)) h.1, fun b hS => ⟨.inl hS, Nat.lt_of_lt_of_le (h.2 b hS) hb.size⟩⟩
end
/-- Facts of one's own, side by side, as one. -/
def andF (l : List Fact) : Fact := allF l id
theorem Kn.andO {E : List Nat} {w0 w : World} {l O R : List Fact} (h : Kn E w0 w (andF l :: O) R) (hd : l.Pairwise fun φ ψ => ∀ b, φ.S b → ¬ ψ.S b) : Kn E w0 w (l ++ O) R where
  os := h.os
  tape := h.tape
  output := h.output
  size := h.size
  block := h.block
  ownS φ hφ b hb := by
    rcases List.mem_append.1 hφ with h1 | h1
    · exact h.ownS _ (.head _) b ⟨φ, h1, hb⟩
    · exact h.ownS _ (.tail _ h1) b hb
  ltO φ hφ b hb := by
    rcases List.mem_append.1 hφ with h1 | h1
    · exact h.ltO _ (.head _) b ⟨φ, h1, hb⟩
    · exact h.ltO _ (.tail _ h1) b hb
  ltR := h.ltR
  pO φ hφ := by
    rcases List.mem_append.1 hφ with h1 | h1
    · exact h.pO _ (.head _) φ h1
    · exact h.pO _ (.tail _ h1)
  pR := h.pR
  disO := by
    have h1 := List.pairwise_cons.1 h.disO
    rw [List.pairwise_append]
    exact ⟨hd, h1.2, fun φ hφ ψ hψ b h2 h3 => h1.1 ψ hψ b ⟨φ, hφ, h2⟩ h3⟩
  disR φ hφ ψ hψ b h1 h2 := by
    rcases List.mem_append.1 hφ with h3 | h3
    · exact h.disR _ (.head _) ψ hψ b ⟨φ, h3, h1⟩ h2
    · exact h.disR _ (.tail _ h3) ψ hψ b h1 h2
theorem Kn.andI {E : List Nat} {w0 w : World} {l O R : List Fact} (h : Kn E w0 w (l ++ O) R) : Kn E w0 w (andF l :: O) R where
  os := h.os
  tape := h.tape
  output := h.output
  size := h.size
  block := h.block
  ownS φ hφ b hb := by
    rcases List.mem_cons.1 hφ with rfl | h1
    · obtain ⟨ψ, h2, h3⟩ := hb; exact h.ownS ψ (List.mem_append_left _ h2) b h3
    · exact h.ownS _ (List.mem_append_right _ h1) b hb
  ltO φ hφ b hb := by
    rcases List.mem_cons.1 hφ with rfl | h1
    · obtain ⟨ψ, h2, h3⟩ := hb; exact h.ltO ψ (List.mem_append_left _ h2) b h3
    · exact h.ltO _ (List.mem_append_right _ h1) b hb
  ltR := h.ltR
  pO φ hφ := by
    rcases List.mem_cons.1 hφ with rfl | h1
    · exact fun ψ h2 => h.pO ψ (List.mem_append_left _ h2)
    · exact h.pO _ (List.mem_append_right _ h1)
  pR := h.pR
  disO := by
    have h1 := List.pairwise_append.1 h.disO
    exact List.pairwise_cons.2 ⟨fun ψ hψ b ⟨φ, hφ, h2⟩ h3 => h1.2.2 φ hφ ψ hψ b h2 h3, h1.2.1⟩
  disR φ hφ ψ hψ b h1 h2 := by
    rcases List.mem_cons.1 hφ with rfl | h3
    · obtain ⟨χ, h4, h5⟩ := h1; exact h.disR χ (List.mem_append_left _ h4) ψ hψ b h5 h2
    · exact h.disR _ (List.mem_append_right _ h3) ψ hψ b h1 h2
theorem Upd.mod {φ ψ : Fact} {O O' : List Fact} (h : Upd φ ψ O O') : True := trivial
end Go.Proofs.Ytmmijcannahjhaa.Gx

