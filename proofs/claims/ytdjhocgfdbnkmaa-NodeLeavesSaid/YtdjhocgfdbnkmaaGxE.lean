/- The walk by reckoned steps: a call that is handed a slice which it makes grow. -/
import Derived.Test.YtdjhocgfdbnkmaaGxD
namespace Go.Proofs.Ytdjhocgfdbnkmaa.Gx
open Go.RowKit Mem
set_option linter.unusedVariables false
set_option linter.unusedSimpArgs false
def ownE (v : Value) : List Nat := match v.ownBlock with | some b => [b] | none => []
theorem ownE_mem {v : Value} {b : Nat} : b ∈ ownE v ↔ v.ownBlock = some b := by
  unfold ownE
  cases h : v.ownBlock with
  | none => simp
  | some c => simp [eq_comm]
theorem Kn.startG {w : World} {α : Type} [Inhabited α] {base e sz : Nat} {v : Value} {enc : α → Nat → Value} {L : List α} (h : OwnL w base e sz v enc L) : Kn (ownE v) w w [own base e sz v enc L] [] where
  os := rfl
  tape := rfl
  output := rfl
  size := Nat.le_refl _
  block _ _ _ := rfl
  ownS φ hφ b hb := by
    obtain rfl := List.mem_singleton.1 hφ
    exact .inr (ownE_mem.2 hb)
  ltO φ hφ b hb := by
    obtain rfl := List.mem_singleton.1 hφ
    exact (OwnL.lt' h b hb).2
  ltR φ hφ := by cases hφ
  pO φ hφ := by
    obtain rfl := List.mem_singleton.1 hφ
    exact h
  pR φ hφ := by cases hφ
  disO := List.pairwise_singleton _ _
  disR _ _ ψ hψ := by cases hψ
theorem Kn.outG {w0 w : World} {O R : List Fact} {α : Type} [Inhabited α] {base e sz : Nat} {v v' : Value} {enc : α → Nat → Value} {L : List α} (h : Kn (ownE v) w0 w O R) (hm : own base e sz v' enc L ∈ O) (hL : 0 < L.length) : OwnL w base e sz v' enc L ∧ Grew w0 w v v' := by
  have ho : OwnL w base e sz v' enc L := h.pO _ hm
  refine ⟨ho, ⟨h.os, h.tape, h.output, h.size, fun i hi hne => h.block i hi (fun hE => hne (ownE_mem.1 hE).symm)⟩, ?_⟩
  obtain ⟨A, c, e1, hs, _⟩ := OwnL.sl ho
  obtain ⟨b, off, e2, _⟩ := hs hL
  subst e2
  have hb : v'.ownBlock = some b := by rw [e1]; rfl
  rcases h.ownS _ hm b hb with h1 | h1
  · exact .inr ⟨b, hb, h1⟩
  · exact .inl (hb.trans (ownE_mem.1 h1).symm)
end Go.Proofs.Ytdjhocgfdbnkmaa.Gx
