/- The walk by reckoned steps: pointers compared. -/
import Derived.Test.YtdjhocgfdbnkmaaGxH
namespace Go.Proofs.Ytdjhocgfdbnkmaa.Gx
open Go.RowKit Mem
set_option linter.unusedVariables false
set_option linter.unusedSimpArgs false
section
variable {P : Program} {t : Nat}
theorem equal_same {e n : Nat} (hu : P.underlying t = some (.pointer e)) (hs : szIs P e n = true) (hn : Nat.blt 0 n = true) (a : Addr) (w : World) : (Op.equal t (.pointer (some a)) (.pointer (some a))).run P w = .ok true w := by
  have hn' : n ≠ 0 := by intro h; subst h; cases hn
  show (Op.equalIn (9999 + 1) t (.pointer (some a)) (.pointer (some a))).run P w = _
  generalize 9999 = d
  unfold Op.equalIn
  simp only [Sem.run_bind, run_underlying hu, Result.andThen_ok, run_sizeOf hs, if_pos hn', ne_eq, hn', not_false_eq_true, if_true]
  unfold sameAddr
  simp
end
section
variable {X : Cx} {f : Fr} {O R : List Fact} {ks k : List KI} {ops rest : List Oper} {o : Oper} {S : List Fact}
theorem ys_same_eql (hT : TabOk X.P X.T) {ty t n s : Nat} {z : List Value} {x y : Operand} {yt : TypeId} {a : Addr} (ho : o.op = .binOp .eql ty x y yt) (hx : look X.n f x = some (.pointer (some a))) (hy : look X.n f y = some (.pointer (some a))) (hty : tfind X.T ty = some ⟨t, .ptr n, s, z⟩) (hn : Nat.blt 0 n = true) : Ys X S f o (.bool true) := fun ac w hr _ => by
  obtain ⟨ht, hk1⟩ := tfind_ok hT hty
  simp only at ht
  subst ht
  obtain ⟨e, hu, hs⟩ := chk_ptr hk1.d
  have hg : (eqGuard .eql t x y (.pointer (some a)) (.pointer (some a))).run X.P w = .ok () w := by
    unfold eqGuard
    split <;> rfl
  have h3 := bin_eql (P := X.P) w rfl (equal_same hu hs hn a w)
  simp only [execOp, ho, hr.look hx, hr.look hy, Sem.run_bind, hg, Result.andThen_ok, h3]
  rfl
theorem ys_same_neq (hT : TabOk X.P X.T) {ty t n s : Nat} {z : List Value} {x y : Operand} {yt : TypeId} {a : Addr} (ho : o.op = .binOp .neq ty x y yt) (hx : look X.n f x = some (.pointer (some a))) (hy : look X.n f y = some (.pointer (some a))) (hty : tfind X.T ty = some ⟨t, .ptr n, s, z⟩) (hn : Nat.blt 0 n = true) : Ys X S f o (.bool false) := fun ac w hr _ => by
  obtain ⟨ht, hk1⟩ := tfind_ok hT hty
  simp only at ht
  subst ht
  obtain ⟨e, hu, hs⟩ := chk_ptr hk1.d
  have hg : (eqGuard .neq t x y (.pointer (some a)) (.pointer (some a))).run X.P w = .ok () w := by
    unfold eqGuard
    split <;> rfl
  have h3 := bin_neq (P := X.P) w rfl (equal_same hu hs hn a w)
  simp only [execOp, ho, hr.look hx, hr.look hy, Sem.run_bind, hg, Result.andThen_ok, h3]
  rfl
end
end Go.Proofs.Ytdjhocgfdbnkmaa.Gx
