/- Seventeenth part: an operation that yields, as one that may move. -/
import Derived.Test.YtkdphoacniigjaaGx16
namespace Go.Proofs.Ytkdphoacniigjaa.Gx
open Go.RowKit Mem
set_option linter.unusedVariables false
theorem mv_yd {X : Cx} {f : Fr} {O R : List Fact} {o : Oper} {N : Fr → List Fact → List Fact → Prop} {d : Nat} {v : Value} (hd : o.dst = some d) (hy : Yd X f O R o v) (hg : N ((d, v) :: f) O R) : Mv X f O R o N := fun a w hr hk K Q hK => by
  unfold Oper.wp
  rw [hy a w hr hk]
  exact hK _ _ _ _ _ hg (hr.put1 hd _) hk
theorem gk_loop_sel {X : Cx} {f : Fr} {O R : List Fact} {ks k : List KI} {σ : Type} (I : σ → Prop) (F : σ → Fr) (OO RR : σ → List Fact) (μ : σ → Nat) (s0 : σ) {c : Code} (h : nx 1000 ks = some (.loop c k)) (h0 : I s0) (hf : FSub X.n f (F s0)) (hO : SelAll (OO s0) O) (hR : RR s0 ⊆ R)
    (step : ∀ s, I s → GK X (.code c :: .inv (LInv X I F OO RR μ (μ s)) :: k) (F s) (OO s) (RR s)) : GK X ks f O R := .mk fun a w hr hk =>
  (gk_loop I F OO RR μ s0 h h0 hf (List.Sublist.refl _) (List.Subset.refl _) step).out a w hr (hk.sel hO hR)
theorem gb_ownv {X : Cx} {S : List Fact} {ops : List Oper} {m : Nat} {ls : List Bool} {C : Fr → List Fact → List Fact → Prop} {f : Fr} {O R : List Fact} {k : List KI} {α : Type} [Inhabited α] {e base sz : Nat} (v : Value) {enc : α → Nat → Value} {L : List α} (hm : own base e sz v enc L ∈ O)
    (hg : ∀ A c, v = .slice A L.length c → L.length ≤ c → c ≤ maxLen → (A = none → c = 0) → GB X S ops m ls C k f O R) : GB X S ops m ls C k f O R := .mk fun a w hr hk => by
  obtain ⟨A, c, e1, h1, h2, h3⟩ := own_val hk hm
  exact (hg A c e1 h1 h2 h3).out a w hr hk
theorem g_ownv {X : Cx} {ops l : List Oper} {f : Fr} {O R : List Fact} {k : List KI} {α : Type} [Inhabited α] {e base sz : Nat} (v : Value) {enc : α → Nat → Value} {L : List α} (hm : own base e sz v enc L ∈ O)
    (hg : ∀ A c, v = .slice A L.length c → L.length ≤ c → c ≤ maxLen → (A = none → c = 0) → G X ops l k f O R) : G X ops l k f O R := .mk fun a w hr hk => by
  obtain ⟨A, c, e1, h1, h2, h3⟩ := own_val hk hm
  exact (hg A c e1 h1 h2 h3).out a w hr hk
end Go.Proofs.Ytkdphoacniigjaa.Gx
