/- Arguments by value, opened: an array of integers, a struct of one-cell fields. -/
import Derived.Test.YtgpfedmfbkhhcaaMem
import Derived.OpenShut
import Derived.ProofKit
namespace Go.Proofs.Ytgpfedmfbkhhcaa.Mem
open Go.RowKit Go.ChangeShapes Go.WideShapes Go.Deep
set_option linter.unusedVariables false
set_option linter.unusedSimpArgs false
section
variable {H : Type} {enc : TypeId × Value → H} {P : Program} {w : World}
theorem okWide_array {t e : TypeId} {n : Nat} {r : Reach} {base : Nat} {v : Value} (ht : P.underlying t = some (.array n e)) (h : Value.okWide P w r base t v) : ∃ cs, v = .agg cs ∧ cs.size = P.cellsOf t := by
  simp only [Value.okWide, ht] at h
  obtain ⟨cs, h1, h2, _⟩ := h
  exact ⟨cs, h1, h2⟩
theorem list_of (l : List Value) : l = (List.range l.length).map (fun i => l.getD i undef) := by
  apply List.ext_getElem?
  intro i
  by_cases h : i < l.length
  · rw [List.getElem?_map, List.getElem?_range h, List.getElem?_eq_getElem h]
    simp [List.getD_eq_getElem?_getD, List.getElem?_eq_getElem h]
  · rw [List.getElem?_eq_none (by omega), List.getElem?_eq_none (by simp; omega)]

theorem open_array_ints {t e : TypeId} {n : Nat} {k : IntKind} {base : Nat} {v : Value} {d : DataW H} {p : List MemPlace} (ht : P.underlying t = some (.array n e)) (he : P.underlying e = some (.int k)) (hC : P.cellsOf e = 1) (hn : P.cellsOf t = n)
    (hv : Value.okWide P w .any base t v) (h : DataW.Trod enc P w 0 (fun _ => true) true t v d p) :
    ∃ Z : Nat → Int, v = .agg ((List.range n).map fun i => Value.int k (Z i)).toArray ∧ ∀ i, i < n → (Lit.int k (Z i)).wf = true := by
  obtain ⟨cs, rfl, hsz⟩ := okWide_array ht hv
  obtain ⟨fuel, hf⟩ := h
  obtain ⟨xs, m, _, hx, hl, hlen, hg⟩ := DataW.trod_array ht hf
  obtain ⟨l⟩ := cs
  have hll : l.length = n := by simpa [hn] using hsz
  have key : ∀ i, ∃ a, i < n → l[i]? = some (.int k a) ∧ (Lit.int k a).wf = true := by
    intro i
    by_cases hi : i < n
    · have h1 := hg i hi
      rw [hC, Nat.mul_one] at h1
      have h2 : ((Value.agg ⟨l⟩).cells.toList.drop i).take 1 = [l[i]'(by omega)] := by
        show (l.drop i).take 1 = _
        rw [List.drop_eq_getElem_cons (by omega)]; rfl
      rw [h2, List.getElem?_eq_getElem (by omega)] at h1
      obtain ⟨a, e0, _, wa⟩ := DataW.trod_int he h1
      exact ⟨a, fun _ => ⟨by rw [List.getElem?_eq_getElem (by omega)]; simpa using e0, wa⟩⟩
    · exact ⟨0, fun h => absurd h hi⟩
  refine ⟨fun i => Classical.choose (key i), ?_, fun i hi => (Classical.choose_spec (key i) hi).2⟩
  congr 1
  show (⟨l⟩ : Array Value) = (List.toArray _)
  congr 1
  apply List.ext_getElem?
  intro i
  by_cases h : i < n
  · rw [List.getElem?_map, List.getElem?_range h, (Classical.choose_spec (key i) h).1]; rfl
  · rw [List.getElem?_eq_none (by omega), List.getElem?_eq_none (by simp; omega)]

/-- A slice in a one-cell field. -/
theorem slice_field {t e : TypeId} {m : Nat} {v : Value} {y : DataW H × List MemPlace} (ht : P.underlying t = some (.slice e)) (h : DataW.trod enc P w 0 (fun _ => true) true m t [v] = some y) :
    ∃ A n c, v = .slice A n c := by
  rcases open_slice ht h with ⟨hcs, _⟩ | ⟨a, len, cap, m, n, D, Pl, hcs, _⟩
  · exact ⟨_, _, _, by simpa using hcs⟩
  · exact ⟨_, _, _, by simpa using hcs⟩
theorem open_struct {t : TypeId} {fs : Array Field} {base : Nat} {v : Value} {d : DataW H} {p : List MemPlace} (ht : P.underlying t = some (.struct fs)) (hone : oneCellFields P fs = true) (hC : P.cellsOf t = fs.size)
    (hv : Value.okWide P w .any base t v) (h : DataW.Trod enc P w 0 (fun _ => true) true t v d p) :
    ∃ V : Nat → Value, v = .agg ((List.range fs.size).map V).toArray ∧ ∀ (j : Nat) (f : Field), fs[j]? = some f → ∃ m y, DataW.trod enc P w 0 (fun _ => true) true m f.type [V j] = some y := by
  obtain ⟨cs, rfl, hsz⟩ := okWide_struct ht hv
  obtain ⟨fuel, hf⟩ := h
  obtain ⟨xs, m, _, hx, hl, hlen, hg⟩ := DataW.trod_struct ht hf
  obtain ⟨l⟩ := cs
  have hll : l.length = fs.size := by simpa [hC] using hsz
  refine ⟨fun i => l.getD i undef, ?_, fun j f hj => ?_⟩
  · congr 1
    show (⟨l⟩ : Array Value) = (List.toArray _)
    congr 1
    rw [← hll]; exact list_of l
  · obtain ⟨ho, hk⟩ := hone_of hone j f hj
    have hjl : j < fs.size := (Array.getElem?_eq_some_iff.1 hj).1
    have h1 := hg j f hj
    rw [ho, hk] at h1
    have h2 : ((Value.agg ⟨l⟩).cells.toList.drop j).take 1 = [l[j]'(by omega)] := by
      show (l.drop j).take 1 = _
      rw [List.drop_eq_getElem_cons (by omega)]; rfl
    rw [h2] at h1
    have hxs : xs[j]? = some (xs[j]'(by omega)) := List.getElem?_eq_getElem (by omega)
    refine ⟨m, xs[j]'(by omega), ?_⟩
    show DataW.trod enc P w 0 _ true m f.type [l.getD j undef] = _
    rw [List.getD_eq_getElem?_getD, List.getElem?_eq_getElem (by omega)]
    exact h1.trans hxs
end
end Go.Proofs.Ytgpfedmfbkhhcaa.Mem

