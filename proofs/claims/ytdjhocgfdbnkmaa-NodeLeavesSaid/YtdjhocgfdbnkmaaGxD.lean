/- The walk by reckoned steps: elements of one's own slices. -/
import Derived.Test.YtdjhocgfdbnkmaaGxC
namespace Go.Proofs.Ytdjhocgfdbnkmaa.Gx
open Go.RowKit Mem
set_option linter.unusedVariables false
set_option linter.unusedSimpArgs false
section
variable {X : Cx} {f : Fr} {O R : List Fact} {ks k : List KI} {ops rest : List Oper} {o : Oper} {S : List Fact} {N : Fr → List Fact → List Fact → Prop}
/-- A slice's element, wherever it is known to lie. -/
theorem ys_load_el (hT : TabOk X.P X.T) {ty : Nat} {x : Operand} {g g' o0 off t sz' : Nat} {d : TD} {z : List Value} {v : Value} {α : Type} [Inhabited α] {sz : Nat} {enc : α → Nat → Value} {L : List α} (i : Nat) (y : α) (dd : Nat) (ho : o.op = .load ty x) (hx : look X.n f x = some (.pointer (some ⟨g', off, none⟩)))
    (hg : g' = g) (hoff : off = o0 + i * sz + dd) (hy : L[i]? = some y) (hS : ∀ w, (∀ φ ∈ S, φ.p w) → Sl w (some ⟨g, o0, none⟩) sz enc L) (hty : tfind X.T ty = some ⟨t, d, sz', z⟩) (hv : loadV (agg? d) sz' (encF enc y 0 sz) dd = some v) : Ys X S f o v := fun a w hr h => by
  subst hg
  have hl : i < L.length := by
    rcases Nat.lt_or_ge i L.length with h1 | h1
    · exact h1
    · rw [List.getElem?_eq_none h1] at hy; cases hy
  obtain ⟨b, off', y', e1, hy', _, _, hc⟩ := Sl.at_ (hS w h) i hl
  rw [hy] at hy'
  injection hy' with hy'
  subst hy'
  injection e1 with e1
  injection e1 with e1 e2
  subst e1
  subst e2
  have hty' := tfind_ok hT hty
  have e1 := hty'.1
  simp only at e1
  subst e1
  have := run_loadVar_at hty'.2.d hty'.2.sz w g' (o0 + i * sz) (encF enc y 0 sz) (fun j u hu => by
    obtain ⟨h2, h3⟩ := encF_get enc y sz 0 j u hu
    rw [h3, Nat.zero_add]
    exact hc j h2) hv
  rw [← hoff] at this
  simp [execOp, ho, hr.look hx, Instr.loadAt, Instr.sureAddr, this]
theorem at_own {α : Type} [Inhabited α] {base e sz n c : Nat} {A : Option Addr} {enc : α → Nat → Value} {L : List α} (h : own base e sz (.slice A n c) enc L ∈ S) : ∀ w, (∀ φ ∈ S, φ.p w) → Sl w A sz enc L := fun w hS => by
  obtain ⟨A', c', hv, hs, _⟩ := OwnL.sl (hS _ h : OwnL w base e sz (.slice A n c) enc L)
  injection hv with h1 h2 h3
  subst h1
  exact hs
theorem at_sl {α : Type} [Inhabited α] {sz : Nat} {A : Option Addr} {enc : α → Nat → Value} {L : List α} (h : sl A sz enc L ∈ S) : ∀ w, (∀ φ ∈ S, φ.p w) → Sl w A sz enc L := fun w hS => hS _ h
theorem Ys.ydS {v : Value} (h : Ys X S f o v) (hS : SubF S O R) : Yd X f O R o v := fun a w hr hk => h a w hr (fun φ hφ => by
  rcases hS φ hφ with h | h
  · exact hk.pO _ h
  · exact hk.pR _ h)
theorem g_ownp {α : Type} [Inhabited α] {e base sz : Nat} (v : Value) {enc : α → Nat → Value} {L : List α} {l : List Oper} (hm : own base e sz v enc L ∈ O) (hL : 0 < L.length)
    (hg : ∀ b off c, v = .slice (some ⟨b, off, none⟩) L.length c → L.length ≤ c → c ≤ maxLen → G X ops l k f O R) : G X ops l k f O R := .mk fun a w hr hk => by
  obtain ⟨A, c, e1, hs, h1, h2, h3, _⟩ := OwnL.sl (hk.pO _ hm : OwnL w base e sz v enc L)
  obtain ⟨b, off, e2, _⟩ := hs hL
  subst e2
  exact (hg b off c e1 h1 h2).out a w hr hk
/-- Where one's own slice lies. -/
theorem gk_ownp {α : Type} [Inhabited α] {e base sz : Nat} (v : Value) {enc : α → Nat → Value} {L : List α} (hm : own base e sz v enc L ∈ O) (hL : 0 < L.length)
    (hg : ∀ b off c, v = .slice (some ⟨b, off, none⟩) L.length c → L.length ≤ c → c ≤ maxLen → GK X ks f O R) : GK X ks f O R := .mk fun a w hr hk => by
  obtain ⟨A, c, e1, hs, h1, h2, h3, _⟩ := OwnL.sl (hk.pO _ hm : OwnL w base e sz v enc L)
  obtain ⟨b, off, e2, _⟩ := hs hL
  subst e2
  exact (hg b off c e1 h1 h2).out a w hr hk
/-- Two ways that lead to one place: 'refine join1 (p := ?G) (fun J => ?r) ?g'; at the end of each way: g_wk ..; exact J.out. (J is shut: else a tactic that looks for False takes it.) -/
structure Later (p : Prop) : Prop where
  out : p
theorem join1 {p q : Prop} (r : Later p → q) (g : p) : q := r ⟨g⟩
theorem g_wk {l : List Oper} {f' : Fr} {O' R' : List Fact} (hf : FSub X.n f f') (hO : SelAll O' O) (hR : R' ⊆ R) (hg : G X ops l k f' O' R') : G X ops l k f O R := .mk fun a w hr hk => hg.out a w (hr.sub hf) (hk.sel hO hR)
end
end Go.Proofs.Ytdjhocgfdbnkmaa.Gx
