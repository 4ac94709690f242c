/- The walk by reckoned steps: more. -/
import Derived.Test.YtmmijcannahjhaaTab
namespace Go.Proofs.Ytmmijcannahjhaa.Gx
open Go.RowKit Mem
set_option linter.unusedVariables false
set_option linter.unusedSimpArgs false
section
variable {X : Cx} {f : Fr} {O R : List Fact} {ks k : List KI} {ops rest : List Oper} {o : Oper} {S : List Fact} {N : Fr → List Fact → List Fact → Prop}
/-- An element of an array at hand. -/
theorem yd_index_arr (hT : TabOk X.P X.T) {ty t n e s t' s' : Nat} {z z' : List Value} {d : TD} {x i : Operand} {cs : Array Value} {v : Value} {kk : IntKind} {jj : Int} (j : Nat) (ho : o.op = .index ty x i) (hx : look X.n f x = some (.agg cs)) (hi : look X.n f i = some (.int kk jj))
    (hty : tfind X.T ty = some ⟨t, .array n e 1, s, z⟩) (hte : tfind X.T e = some ⟨t', d, s', z'⟩) (ha : agg? d = false) (hj : jj = j) (hn : j < n) (hv : cs.toList[j]? = some v) : Yd X f O R o v := fun a w hr hk => by
  obtain ⟨ht, hk1⟩ := tfind_ok hT hty
  obtain ⟨hte1, hk2⟩ := tfind_ok hT hte
  simp only at ht hte1
  subst ht
  subst hte1
  subst hj
  obtain ⟨hu0, hes0⟩ := chk_array hk1.d
  have hu : X.P.underlying t = some (.array n t') := hu0
  have hes : szIs X.P t' 1 = true := hes0
  have h1 : (isAgg t').run X.P w = .ok (agg? d) w := run_isAgg hk2.d w
  rw [ha] at h1
  have hv' : cs[j]? = some v := by simpa using hv
  have hn' : (j : Int) < (n : Int) := by omega
  simp [execOp, ho, hr.look hx, hr.look hi, Instr.index, asIntOf, run_underlying hu, hn', run_sizeOf hes w, part, h1, hv']
  intro h; omega
end
end Go.Proofs.Ytmmijcannahjhaa.Gx

