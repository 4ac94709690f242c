/- The walk by reckoned steps: functions that have captured variables: made, and called. -/
import Derived.Test.YtbcdcjiibalnnaaGxL
namespace Go.Proofs.Ytbcdcjiibalnnaa.Gx
open Go.RowKit Mem
set_option linter.unusedVariables false
set_option linter.unusedSimpArgs false
theorem run_callc {P : Program} {a : Act} {o : Oper} {c : Call} {fid : Nat} {args caps : List Value} (ho : o.op = .call c) (hc : a.eval (match c.callee with | .value x => x | _ => .const undef) = .func (.func fid) #[] caps.toArray) (hcv : ∃ x, c.callee = .value x) (ha : c.args.toList.map a.eval = args)
    (hok : callable P fid = true) (w : World) : (execOp a.eval o).run P w = .ok (.enter fid (args ++ caps).toArray) w := by
  obtain ⟨x, hx⟩ := hcv
  rw [hx] at hc
  unfold callable at hok
  split at hok
  · rename_i fn hfn
    rw [Bool.and_eq_true] at hok
    have hn : (fn.name == "runtime.NumGoroutine") = false := by simpa using hok.2
    have hb : fn.body.isNone = false := by
      cases h : fn.body with
      | none => rw [h] at hok; simp at hok
      | some b => rfl
    have e : c.args.map a.eval = args.toArray := by apply Array.ext'; simpa using ha
    have hn' : ¬ fn.name = "runtime.NumGoroutine" := by simpa using hn
    have hb' : ¬ fn.body = none := fun e => by rw [e] at hb; cases hb
    simp only at hc
    simp [execOp, ho, resolve, hx, hc, Deferred.ofValue, invoke, callFunc, hfn, hn', hb', e]
  · cases hok
section
variable {X : Cx} {f : Fr} {O R : List Fact} {ks k : List KI} {ops rest : List Oper} {o : Oper} {N : Fr → List Fact → List Fact → Prop}
theorem mv_callc {dd : Nat} (hd : o.dst = some dd) {c : Call} {x : Operand} {fid : Nat} {args caps : List Value} (ho : o.op = .call c) (hc : c.callee = .value x) (hx : look X.n f x = some (.func (.func fid) #[] caps.toArray)) (ha : lookL X.n f c.args.toList = some args) (hok : callable X.P fid = true)
    (h : ∀ w, Kn X.E X.w0 w O R → Calls X.P fid (args ++ caps).toArray w fun e w' => ∃ v O' R', e = .returned v ∧ Kn X.E X.w0 w' O' R' ∧ N ((dd, v) :: f) O' R') : Mv X f O R o N := fun a w hr hk K Q hK => by
  unfold Oper.wp
  rw [run_callc ho (by rw [hc]; exact hr.look hx) ⟨x, hc⟩ (lookL_eq hr ha) hok w]
  refine (h w hk).mono ?_
  rintro e w' ⟨v, O', R', rfl, hk', hg⟩
  exact hK _ _ _ _ _ hg (hr.put1 hd _) hk'
theorem mv_callc_bel {fid : Nat} {args caps : List Value} {v : Value} (h : ∀ w, Kn X.E X.w0 w O R → Calls X.P fid (args ++ caps).toArray w fun e w' => e = .returned v ∧ Below w.heap.size w w') {dd : Nat} (hd : o.dst = some dd) {c : Call} {x : Operand} (ho : o.op = .call c) (hc : c.callee = .value x) (hx : look X.n f x = some (.func (.func fid) #[] caps.toArray)) (ha : lookL X.n f c.args.toList = some args) (hok : callable X.P fid = true)
    (hg : N ((dd, v) :: f) O R) : Mv X f O R o N :=
  mv_callc hd ho hc hx ha hok fun w hk => (h w hk).mono fun e w' ⟨he, hw⟩ => ⟨v, O, R, he, hk.below hw, hg⟩
theorem mv_callc_ret {σ : Type} {I : σ → Prop} {V : σ → Value} {FF OO : σ → List Fact} {fid : Nat} {args caps : List Value} (h : ∀ w, Kn X.E X.w0 w O R → Calls X.P fid (args ++ caps).toArray w (Ret I V FF w)) {dd : Nat} (hd : o.dst = some dd) {c : Call} {x : Operand} (ho : o.op = .call c) (hc : c.callee = .value x) (hx : look X.n f x = some (.func (.func fid) #[] caps.toArray)) (ha : lookL X.n f c.args.toList = some args) (hok : callable X.P fid = true)
    (hcat : ∀ s, catO (FF s) O = some (OO s)) (hg : ∀ s, I s → N ((dd, V s) :: f) (OO s) R) : Mv X f O R o N :=
  mv_callc hd ho hc hx ha hok fun w hk => (h w hk).mono fun e w' ⟨s, hi, he, hf⟩ => ⟨_, _, _, he, by rw [catO_eq (hcat s)]; exact hk.fresh hf.bel _ hf.ok hf.dis, hg s hi⟩
/-- A function made of another one and captured variables. -/
theorem ys_makeFunc {S : List Fact} {fid : Nat} {cs : Array Operand} {vs : List Value} (ho : o.op = .makeFunc (.func fid) #[] cs) (hv : lookL X.n f cs.toList = some vs) : Ys X S f o (.func (.func fid) #[] vs.toArray) := fun ac w hr _ => by
  have e1 : cs.map ac.eval = vs.toArray := by apply Array.ext'; simpa using lookL_eq hr hv
  simp [execOp, ho, Instr.makeFunc, e1]
end
end Go.Proofs.Ytbcdcjiibalnnaa.Gx

