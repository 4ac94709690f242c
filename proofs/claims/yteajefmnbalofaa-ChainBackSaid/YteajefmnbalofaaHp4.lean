/- container/heap: Remove, Fix. -/
import Derived.Test.YteajefmnbalofaaHp3
namespace Go.Proofs.Yteajefmnbalofaa.Hp
open Go.RowKit Mem Gx
set_option linter.unusedVariables false
set_option linter.unusedSimpArgs false
set_option maxRecDepth 100000
set_option maxHeartbeats 1000000
variable {σ α : Type} (H : HO σ α)
theorem uinv_of {lt : α → α → Prop} {L : List α} {n i : Nat} (hd : DInv lt L n i False) (he : ∀ k, 0 < k → k < n → k ≠ i → Edge lt L k) : UInv lt L n i := ⟨he, hd.g⟩
/-- The end of Remove: the last one goes. -/
theorem hrem_end {lt : α → α → Prop} {L L2 : List α} {n : Nat} {x : α} (hn : L.length = n + 1) (hp : L2.Perm L) (hx2 : L2[n]? = some x) (hh : HeapN lt L2 n) : ∃ L3, L2 = L3 ++ [x] ∧ (L3 ++ [x]).Perm L ∧ HeapN lt L3 L3.length ∧ L3.length = n := by
  have hl2 : L2.length = n + 1 := by rw [hp.length_eq, hn]
  have hsn := take_snoc hx2 hl2
  refine ⟨L2.take n, hsn, by rw [← hsn]; exact hp, heap_take hh (by omega), by rw [List.length_take]; omega⟩
end Go.Proofs.Yteajefmnbalofaa.Hp

