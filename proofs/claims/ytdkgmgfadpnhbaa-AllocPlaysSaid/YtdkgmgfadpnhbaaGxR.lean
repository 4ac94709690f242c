/- Ranges over a nil map. -/
import Derived.Laws.IdiomRangeMap
import Derived.Test.YtdkgmgfadpnhbaaGxM
namespace Go.Proofs.Ytdkgmgfadpnhbaa.Gx
open Go.RowKit Mem
set_option linter.unusedVariables false
set_option linter.unusedSimpArgs false
/-- How many haven't come. -/
def leftN (n : Nat) (Q : List Nat) : Nat := ((List.range n).filter fun i => decide (i ∉ Q)).length
theorem leftN_lt {n i : Nat} {Q : List Nat} (hi : i < n) (hq : i ∉ Q) : leftN n (i :: Q) < leftN n Q := by
  unfold leftN
  exact filter_lt (fun j => decide (j ∉ Q)) (fun j => decide (j ∉ i :: Q)) (fun x hx => by simp at hx ⊢; exact hx.2) i (by simpa using hq) (by simp) _ (List.mem_range.2 hi)
section
variable {X : Cx} {f : Fr} {O O' R : List Fact} {o : Oper} {N : Fr → List Fact → List Fact → Prop}
def itn (r : Nat) : Fact := ⟨fun x => x = r, fun w => w.heap[r]? = some (.mapIter none 0 #[] 0), fun w w' h hp => (h r rfl).trans hp⟩
theorem mv_rangeN {dd : Nat} (hd : o.dst = some dd) {ty tk te : Nat} {x : Operand} (ho : o.op = .range ty x) (hx : look X.n f x = some (.map none)) (ht : X.P.underlying ty = some (.map tk te)) (hg : ∀ r, N ((dd, .pointer (some ⟨r, 0, none⟩)) :: f) (itn r :: O) R) : Mv X f O R o N := fun a w hr hk K Q hK => by
  have hrun := run_range_nilMap (P := X.P) w ty tk te ht
  unfold Oper.wp
  have : (execOp a.eval o).run X.P w = .ok (.value (.pointer (some ⟨w.heap.size, 0, none⟩))) (w.alloc (.mapIter none 0 #[] 0)) := by
    simp [execOp, ho, hr.look hx, hrun]
  rw [this]
  refine hK _ _ _ _ _ (hg w.heap.size) (hr.put1 hd _) (hk.fresh (bel_alloc (Below.refl _ _) _) [itn w.heap.size] (fun φ hφ => ?_) (List.pairwise_singleton _ _))
  obtain rfl := List.mem_singleton.1 hφ
  refine ⟨heap_alloc_new w _, fun c hc => ?_⟩
  have : c = w.heap.size := hc
  subst this
  exact ⟨Nat.le_refl _, by simp⟩
theorem run_next_nil {P : Program} {w : World} {r : Nat} (ty : TypeId) (h : w.heap[r]? = some (.mapIter none 0 #[] 0)) : (Instr.next (.pointer (some ⟨r, 0, none⟩)) false ty).run P w = .ok (.tuple #[.bool false]) w := by
  simp only [Instr.next, getObj, Sem.run_bind, Sem.run, h, Result.andThen]
  rfl
theorem mv_nextN {dd : Nat} (hd : o.dst = some dd) {r : Nat} {x : Operand} (ho : o.op = .next x false) (hx : look X.n f x = some (.pointer (some ⟨r, 0, none⟩))) (hm : itn r ∈ O) (hg : N ((dd, .tuple #[.bool false]) :: f) O R) : Mv X f O R o N := fun a w hr hk K Q hK => by
  have hrun := run_next_nil (P := X.P) (w := w) o.type (hk.pO _ hm)
  unfold Oper.wp
  have : (execOp a.eval o).run X.P w = .ok (.value (.tuple #[.bool false])) w := by
    simp [execOp, ho, hr.look hx, hrun]
  rw [this]
  exact hK _ _ _ _ _ hg (hr.put1 hd _) hk
end
end Go.Proofs.Ytdkgmgfadpnhbaa.Gx

