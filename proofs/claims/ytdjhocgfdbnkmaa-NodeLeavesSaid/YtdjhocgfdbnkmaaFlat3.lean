/- A slice's cells as a list of data. -/
import Derived.Test.YtdjhocgfdbnkmaaFlat2
namespace Go.Proofs.Ytdjhocgfdbnkmaa.Mem
open Go.RowKit Go.ChangeShapes Go.WideShapes Go.Deep
set_option linter.unusedVariables false
set_option linter.unusedSimpArgs false
theorem arr_list {α : Type} [Inhabited α] {enc : α → Nat → Value} {sz : Nat} {Q : α → Prop} {F : Nat → Nat → Value} {A : Option Addr} {n : Nat} {w : World} (hA : Arr w A n sz F) (h : ∀ i, i < n → ∃ y, (∀ j, j < sz → F i j = enc y j) ∧ Q y) :
    ∃ L : List α, n = L.length ∧ Sl w A sz enc L ∧ ∀ y ∈ L, Q y := by
  have key : ∀ i, ∃ y, i < n → (∀ j, j < sz → F i j = enc y j) ∧ Q y := by
    intro i
    by_cases hi : i < n
    · obtain ⟨y, hy⟩ := h i hi
      exact ⟨y, fun _ => hy⟩
    · exact ⟨default, fun h => absurd h hi⟩
  refine ⟨(List.range n).map fun i => Classical.choose (key i), by simp, ?_, ?_⟩
  · unfold Sl
    have hlen : ((List.range n).map fun i => Classical.choose (key i)).length = n := by simp
    rw [hlen]
    refine Arr.congr hA (fun i hi j hj => ?_)
    rw [LF_at (k := i) (x := Classical.choose (key i)) (by simp [hi])]
    exact (Classical.choose_spec (key i) hi).1 j hj
  · intro x hx
    obtain ⟨i, hi, rfl⟩ := List.mem_map.1 hx
    exact (Classical.choose_spec (key i) (by simpa using hi)).2
end Go.Proofs.Ytdjhocgfdbnkmaa.Mem
