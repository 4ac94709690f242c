/- The walk by reckoned steps: strings in order. -/
import Derived.Test.YtdkgmgfadpnhbaaGxZ
namespace Go.Proofs.Ytdkgmgfadpnhbaa.Gx
open Go.RowKit Mem
set_option linter.unusedVariables false
set_option linter.unusedSimpArgs false
theorem bytes_less : ∀ (x y : List UInt8), Op.bytesLess x y = decide (x < y)
  | [], [] => by simp [Op.bytesLess]
  | _ :: _, [] => by simp [Op.bytesLess]
  | [], _ :: _ => by simp [Op.bytesLess]
  | a :: x, b :: y => by
    rw [Op.bytesLess, bytes_less x y]
    simp only [List.cons_lt_cons_iff]
    by_cases h1 : a < b <;> by_cases h2 : a = b <;> by_cases h3 : x < y <;> simp [h1, h2, h3]
/-- Go's order of strings. -/
def ltS (a b : ByteArray) : Prop := Op.bytesLess a.toList b.toList = true
theorem ltS_iff {a b : ByteArray} : ltS a b ↔ a.data.toList < b.data.toList := by
  unfold ltS
  rw [bytes_less, ByteArray.toList_eq, ByteArray.toList_eq, decide_eq_true_eq]
theorem ltS_asymm {a b : ByteArray} (h : ltS a b) : ¬ ltS b a := fun h2 => by
  rw [ltS_iff] at h h2
  exact List.lt_asymm h h2
theorem ltS_ntr {a b c : ByteArray} (h1 : ¬ ltS a b) (h2 : ¬ ltS b c) : ¬ ltS a c := by
  rw [ltS_iff] at h1 h2 ⊢
  exact List.not_lt.2 (List.le_trans (List.not_lt.1 h2) (List.not_lt.1 h1))
theorem ltS_total {a b : ByteArray} (h1 : ¬ ltS a b) (h2 : ¬ ltS b a) : a = b := by
  rw [ltS_iff] at h1 h2
  have h := List.le_antisymm (List.not_lt.1 h2) (List.not_lt.1 h1)
  exact ByteArray.ext (Array.ext' h)
section
variable {X : Cx} {f : Fr} {o : Oper} {S : List Fact}
theorem ys_str_lss (hT : TabOk X.P X.T) {t tt s : Nat} {z : List Value} {x y : Operand} {yt : TypeId} {a b : ByteArray} (ho : o.op = .binOp .lss t x y yt) (hx : look X.n f x = some (.string a)) (hy : look X.n f y = some (.string b)) (hty : tfind X.T t = some ⟨tt, .str, s, z⟩) : Ys X S f o (.bool (tB (ltS a b))) := fun ac w hr _ => by
  obtain ⟨ht, hk1⟩ := tfind_ok hT hty
  simp only at ht
  subst ht
  have hg : (eqGuard .lss tt x y (.string a) (.string b)).run X.P w = .ok () w := by
    unfold eqGuard
    rfl
  have h3 : (binOp .lss tt (.string a) (.string b)).run X.P w = .ok (.bool (tB (ltS a b))) w := by
    have e : tB (ltS a b) = Op.bytesLess a.toList b.toList := by
      by_cases h : ltS a b
      · rw [tB_true h]; exact h.symm
      · rw [tB_false h]; unfold ltS at h; simpa using h
    rw [e]
    simp [binOp, Op.stringOp]
  simp only [execOp, ho, hr.look hx, hr.look hy, Sem.run_bind, hg, Result.andThen_ok, h3]
  rfl
end
end Go.Proofs.Ytdkgmgfadpnhbaa.Gx

