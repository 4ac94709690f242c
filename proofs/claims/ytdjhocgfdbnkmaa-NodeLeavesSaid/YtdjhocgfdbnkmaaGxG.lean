/- The walk by reckoned steps: a block that is shared, cell by cell; what is known of all. -/
import Derived.Test.YtdjhocgfdbnkmaaGxF
namespace Go.Proofs.Ytdjhocgfdbnkmaa.Gx
open Go.RowKit Mem
set_option linter.unusedVariables false
set_option linter.unusedSimpArgs false
section
variable {X : Cx} {f : Fr} {O R : List Fact} {ks k : List KI} {ops lo : List Oper} {E : List Nat} {w0 w : World} {g : Nat} {cs : List Value} {T : TypeId}
theorem Kn.rowR (h : Kn E w0 w O R) (hm : blk g cs T ∈ R) : Kn E w0 w O (row g 0 cs :: R) := by
  have hb : w.heap[g]? = some (.cells cs.toArray T (0, 0)) := h.pR _ hm
  exact h.addR _ (fun i v hv => by rw [Nat.zero_add, cell_of_row w g i cs.toArray T (0, 0) hb]; simpa using hv) (fun b hb => h.ltR _ hm b hb) (fun φ hφ b hS hb => h.disR φ hφ _ hm b hS hb)
theorem gk_rowR (hm : blk g cs T ∈ R) (hg : GK X ks f O (row g 0 cs :: R)) : GK X ks f O R := .mk fun a w hr hk => hg.out a w hr (hk.rowR hm)
theorem g_rowR (hm : blk g cs T ∈ R) (hg : G X ops lo k f O (row g 0 cs :: R)) : G X ops lo k f O R := .mk fun a w hr hk => hg.out a w hr (hk.rowR hm)
variable {α : Type} {l : List α} {F : α → Fact} {x : α}
theorem g_allR' (hm : allF l F ∈ R) (hx : x ∈ l) (hg : G X ops lo k f O (F x :: R)) : G X ops lo k f O R := .mk fun a w hr hk => hg.out a w hr (hk.allR hm hx)
theorem g_allNil (F : α → Fact) (hg : G X ops lo k f O (allF ([] : List α) F :: R)) : G X ops lo k f O R := .mk fun a w hr hk => hg.out a w hr (hk.allNil F)
theorem g_allSnoc (hm : allF l F ∈ R) (hx : F x ∈ R) (hg : G X ops lo k f O (allF (l ++ [x]) F :: R)) : G X ops lo k f O R := .mk fun a w hr hk => hg.out a w hr (hk.allSnoc hm hx)
/-- What may be read in a world. -/
def Rd1 (w : World) (φ : Fact) : Prop := φ.p w ∧ ∀ b, φ.S b → b < w.heap.size
inductive Rds (w : World) : List Fact → Prop
  | nil : Rds w []
  | cons {φ : Fact} {l : List Fact} (h : Rd1 w φ) (t : Rds w l) : Rds w (φ :: l)
theorem Rds.kn {w : World} {R : List Fact} (h : Rds w R) : Kn [] w w [] R := by
  induction h with
  | nil => exact Kn.start w
  | cons h _ ih => exact ih.addR _ h.1 h.2 (fun φ hφ => by cases hφ)
theorem Rds.mem {w : World} {R : List Fact} {φ : Fact} (h : Rds w R) (hm : φ ∈ R) : Rd1 w φ := by
  induction h with
  | nil => cases hm
  | cons h _ ih =>
    rcases List.mem_cons.1 hm with h1 | h1
    · rw [h1]; exact h
    · exact ih h1
theorem Kn.rO {φ : Fact} (h : Kn E w0 w O R) (hm : φ ∈ O) : Rd1 w φ := ⟨h.pO _ hm, h.ltO _ hm⟩
theorem Kn.rR {φ : Fact} (h : Kn E w0 w O R) (hm : φ ∈ R) : Rd1 w φ := ⟨h.pR _ hm, h.ltR _ hm⟩
theorem Rd1.row (h : Rd1 w (blk g cs T)) : Rd1 w (row g 0 cs) := by
  have hb : w.heap[g]? = some (.cells cs.toArray T (0, 0)) := h.1
  exact ⟨fun i v hv => by rw [Nat.zero_add, cell_of_row w g i cs.toArray T (0, 0) hb]; simpa using hv, h.2⟩
end
end Go.Proofs.Ytdjhocgfdbnkmaa.Gx
