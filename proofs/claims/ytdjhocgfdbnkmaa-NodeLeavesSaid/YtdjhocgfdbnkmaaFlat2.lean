/- Slices of integers in a cell. -/
import Derived.Test.YtdjhocgfdbnkmaaFlat
import Derived.Test.YtdjhocgfdbnkmaaSl
namespace Go.Proofs.Ytdjhocgfdbnkmaa.Mem
open Go.RowKit Go.ChangeShapes Go.WideShapes Go.Deep
set_option linter.unusedVariables false
set_option linter.unusedSimpArgs false
section
variable {H : Type} {enc : TypeId × Value → H} {P : Program} {w : World}
theorem leaf_ints {t e : TypeId} {k : IntKind} {v : Value} (ht : P.underlying t = some (.slice e)) (he : P.underlying e = some (.int k)) (hC : P.cellsOf e = 1) (h : Leaf enc P w t v) :
    ∃ (A : Option Addr) (n c : Nat) (L : List Int), v = .slice A n c ∧ n = L.length ∧ Sl w A 1 (IE k) L ∧ n ≤ c ∧ c ≤ maxLen ∧ (A = none → c = 0) ∧ ∀ x ∈ L, (Lit.int k x).wf = true := by
  have hl : leaves P 8 e = some [e] := by unfold leaves; rw [he]
  obtain ⟨A, n, c, F, rfl, hA, h1, h2, h3, h4⟩ := leaf_slice ht hl (by rw [hC]; rfl) (by simp) h
  have key : ∀ i, ∃ a, i < n → F i 0 = .int k a ∧ (Lit.int k a).wf = true := by
    intro i
    by_cases hi : i < n
    · obtain ⟨a, e1, e2⟩ := leaf_int he (h4 i hi 0 e rfl)
      exact ⟨a, fun _ => ⟨e1, e2⟩⟩
    · exact ⟨0, fun h => absurd h hi⟩
  refine ⟨A, n, c, (List.range n).map fun i => Classical.choose (key i), rfl, by simp, ?_, h1, h2, fun h => (h3 h).2, ?_⟩
  · unfold Sl
    have hlen : ((List.range n).map fun i => Classical.choose (key i)).length = n := by simp
    rw [hlen]
    refine Arr.congr hA (fun i hi j hj => ?_)
    have hj0 : j = 0 := by
      have : j < 1 := hj
      omega
    subst hj0
    rw [LF_at (k := i) (x := Classical.choose (key i)) (by simp [hi])]
    exact (Classical.choose_spec (key i) hi).1
  · intro x hx
    obtain ⟨i, hi, rfl⟩ := List.mem_map.1 hx
    exact (Classical.choose_spec (key i) (by simpa using hi)).2
end
end Go.Proofs.Ytdjhocgfdbnkmaa.Mem
