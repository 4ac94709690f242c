/- The walk by reckoned steps: facts of all in a list. -/
import Derived.Test.YtdjhocgfdbnkmaaGxE
namespace Go.Proofs.Ytdjhocgfdbnkmaa.Gx
open Go.RowKit Mem
set_option linter.unusedVariables false
set_option linter.unusedSimpArgs false
/-- What holds of each of a list. -/
def allF {α : Type} (l : List α) (F : α → Fact) : Fact := ⟨fun b => ∃ x, x ∈ l ∧ (F x).S b, fun w => ∀ x, x ∈ l → (F x).p w, fun w w' h hp x hx => (F x).loc w w' (fun b hb => h b ⟨x, hx, hb⟩) (hp x hx)⟩
section
variable {X : Cx} {f : Fr} {O R : List Fact} {ks k : List KI} {ops : List Oper} {E : List Nat} {w0 w : World} {α : Type} {l : List α} {F : α → Fact} {x : α}
theorem Kn.allR (h : Kn E w0 w O R) (hm : allF l F ∈ R) (hx : x ∈ l) : Kn E w0 w O (F x :: R) :=
  h.addR (F x) (h.pR _ hm x hx) (fun b hb => h.ltR _ hm b ⟨x, hx, hb⟩) (fun φ hφ b hS hb => h.disR φ hφ _ hm b hS ⟨x, hx, hb⟩)
theorem Kn.allNil (h : Kn E w0 w O R) (F : α → Fact) : Kn E w0 w O (allF ([] : List α) F :: R) :=
  h.addR _ (fun x hx => by cases hx) (fun b ⟨x, hx, _⟩ => by cases hx) (fun φ hφ b hS ⟨x, hx, _⟩ => by cases hx)
theorem Kn.allSnoc (h : Kn E w0 w O R) (hm : allF l F ∈ R) (hx : F x ∈ R) : Kn E w0 w O (allF (l ++ [x]) F :: R) := by
  refine h.addR _ (fun y hy => ?_) (fun b hb => ?_) (fun φ hφ b hS hb => ?_)
  · rcases List.mem_append.1 hy with h1 | h1
    · exact h.pR _ hm y h1
    · obtain rfl := List.mem_singleton.1 h1
      exact h.pR _ hx
  · obtain ⟨y, hy, hb⟩ := hb
    rcases List.mem_append.1 hy with h1 | h1
    · exact h.ltR _ hm b ⟨y, h1, hb⟩
    · obtain rfl := List.mem_singleton.1 h1
      exact h.ltR _ hx b hb
  · obtain ⟨y, hy, hb⟩ := hb
    rcases List.mem_append.1 hy with h1 | h1
    · exact h.disR φ hφ _ hm b hS ⟨y, h1, hb⟩
    · obtain rfl := List.mem_singleton.1 h1
      exact h.disR φ hφ _ hx b hS hb
theorem gk_allR (hm : allF l F ∈ R) (hx : x ∈ l) (hg : GK X ks f O (F x :: R)) : GK X ks f O R := .mk fun a w hr hk => hg.out a w hr (hk.allR hm hx)
theorem g_allR (hm : allF l F ∈ R) (hx : x ∈ l) (hg : G X ops ops k f O (F x :: R)) : G X ops ops k f O R := .mk fun a w hr hk => hg.out a w hr (hk.allR hm hx)
theorem gk_allNil (F : α → Fact) (hg : GK X ks f O (allF ([] : List α) F :: R)) : GK X ks f O R := .mk fun a w hr hk => hg.out a w hr (hk.allNil F)
theorem gk_allSnoc (hm : allF l F ∈ R) (hx : F x ∈ R) (hg : GK X ks f O (allF (l ++ [x]) F :: R)) : GK X ks f O R := .mk fun a w hr hk => hg.out a w hr (hk.allSnoc hm hx)
end
end Go.Proofs.Ytdjhocgfdbnkmaa.Gx
