/- Thirteenth part: regions that draw their order: orders that meet again are walked on once. -/
import Derived.Test.YtkdphoacniigjaaGx12
namespace Go.Proofs.Ytkdphoacniigjaa.Gx
open Go.RowKit Mem
set_option linter.unusedVariables false
set_option linter.unusedSimpArgs false
section
variable {X : Cx} {f : Fr} {O R : List Fact} {ks k : List KI} {ops rest : List Oper} {o : Oper} {S : List Fact} {C : Fr → List Fact → List Fact → Prop} {m : Nat} {ls : List Bool}
theorem SelAll.refl : ∀ (O : List Fact), SelAll O O
  | [] => .nil
  | _ :: r => .cons .here (SelAll.refl r)
theorem gb_weak {f' : Fr} {O' R' : List Fact} (hf : FSub X.n f f') (hO : SelAll O' O) (hR : R' ⊆ R) (hg : GB X S ops m ls C k f' O' R') : GB X S ops m ls C k f O R := .mk fun a w hr hk => hg.out a w (hr.sub hf) (hk.sel hO hR)
theorem gb_say (t : Nat) {v : Value} (u : Value) (hl : look X.n f (.tmp t) = some v) (e : v = u) (hg : GB X S ops m ls C k ((t, u) :: f) O R) : GB X S ops m ls C k f O R := .mk fun a w hr hk => hg.out a w (hr.re hl e) hk
theorem gb_split {t : Nat} {b : Bool} {p q : Prop} (hl : look X.n f (.tmp t) = some (.bool b)) (ht : Tells b p q)
    (h1 : p → GB X S ops m ls C k ((t, .bool true) :: f) O R) (h2 : q → GB X S ops m ls C k ((t, .bool false) :: f) O R) : GB X S ops m ls C k f O R := .mk fun a w hr hk => by
  cases b with
  | true => exact (h1 (ht.1 rfl)).out a w (hr.re hl rfl) hk
  | false => exact (h2 (ht.2 rfl)).out a w (hr.re hl rfl) hk
theorem g_elem {α : Type} [Inhabited α] {enc : α → Nat → Value} {L : List α} {A : Option Addr} {sz : Nat} {l : List Oper} (k0 : Nat) (hm : sl A sz enc L ∈ R) (hk : k0 < L.length) (hsz : 0 < sz)
    (hg : ∀ b off y, A = some ⟨b, off, none⟩ → L[k0]? = some y → G X ops l k f O (row b (off + k0 * sz) (encF enc y 0 sz) :: R)) : G X ops l k f O R := .mk fun a w hr hk' => by
  obtain ⟨b, off, y, e1, e2, h⟩ := hk'.elem hm k0 hk hsz
  exact (hg b off y e1 e2).out a w hr h
/-- The one that may come up next. -/
theorem gb_only (j : Nat) (hr : Region.ready .any ops.toArray ls.toArray = [j]) (ho : ops[j]? = some o) (hw : wantG X.n f ops o.guard = some true) (hm : Mv X f O R o (fun f' O' R' => SubF S O' R' ∧ GB X S ops m (ls.set j true) C k f' O' R')) : GB X S ops (m + 1) ls C k f O R :=
  gb_all (by rw [hr]; rfl) fun i _ hi => by
    rw [hr] at hi
    have e : i = j := by simpa using hi
    subst e
    exact ⟨o, ho, hw, hm⟩
/-- Every order leads to the same place. -/
theorem gb_join {σ : Type} (F : σ → Fr) (OO RR : σ → List Fact) (ls' : List Bool) (m' : Nat)
    (ht : (∀ f O R s, FSub X.n f (F s) → SelAll (OO s) O → RR s ⊆ R → GB X S ops m' ls' C k f O R) → GB X S ops m ls C k f O R)
    (hJ : ∀ s, GB X S ops m' ls' C k (F s) (OO s) (RR s)) : GB X S ops m ls C k f O R :=
  ht fun f O R s h1 h2 h3 => gb_weak h1 h2 h3 (hJ s)
end
end Go.Proofs.Ytkdphoacniigjaa.Gx
