/- Fifteenth part: min, max; parts of slices. -/
import Derived.Test.YtkdphoacniigjaaGx14
import Derived.Laws.Small
namespace Go.Proofs.Ytkdphoacniigjaa.Gx
open Go.RowKit Mem
set_option linter.unusedVariables false
set_option linter.unusedSimpArgs false
section
variable {X : Cx} {f : Fr} {O R : List Fact} {ks k : List KI} {ops rest : List Oper} {o : Oper} {S : List Fact} {N : Fr → List Fact → List Fact → Prop}
theorem ys_min {c : Call} {k1 k2 : IntKind} {x y : Int} (u : Int) (ho : o.op = .call c) (hc : c.callee = .builtin .min) (ha : lookL X.n f c.args.toList = some [.int k1 x, .int k2 y]) (hu : u = if y < x then y else x) : Ys X S f o (.int k1 u) := fun a w hr hk => by
  have e1 : c.args.map a.eval = #[.int k1 x, .int k2 y] := by apply Array.ext'; simpa using lookL_eq hr ha
  subst hu
  have h3 := fun ts t => run_min_int2 (P := X.P) (w := w) ts t k1 k2 x y
  simp [execOp, ho, resolve, hc, e1, invoke, builtin, h3]
theorem ys_max {c : Call} {k1 k2 : IntKind} {x y : Int} (u : Int) (ho : o.op = .call c) (hc : c.callee = .builtin .max) (ha : lookL X.n f c.args.toList = some [.int k1 x, .int k2 y]) (hu : u = if y > x then y else x) : Ys X S f o (.int k1 u) := fun a w hr hk => by
  have e1 : c.args.map a.eval = #[.int k1 x, .int k2 y] := by apply Array.ext'; simpa using lookL_eq hr ha
  subst hu
  have h3 := fun ts t => run_max_int2 (P := X.P) (w := w) ts t k1 k2 x y
  simp [execOp, ho, resolve, hc, e1, invoke, builtin, h3]
theorem Kn.dropS {E : List Nat} {w0 w : World} {α : Type} [Inhabited α] {enc : α → Nat → Value} {L : List α} {A : Option Addr} {sz : Nat} (h : Kn E w0 w O R) (hm : sl A sz enc L ∈ R) (l m : Nat) (hl : L.length ≤ m) : Kn E w0 w O (sl (shA A l m sz) sz enc (L.drop l) :: R) := by
  have := h.sub hm l m L.length hl
  rwa [List.take_of_length_le (by rw [List.length_drop]; omega)] at this
theorem Kn.takeS {E : List Nat} {w0 w : World} {α : Type} [Inhabited α] {enc : α → Nat → Value} {L : List α} {A : Option Addr} {sz : Nat} (h : Kn E w0 w O R) (hm : sl A sz enc L ∈ R) (k0 m : Nat) (hl : L.length ≤ m) : Kn E w0 w O (sl (shA A 0 m sz) sz enc (L.take k0) :: R) := by
  have := h.sub hm 0 m k0 hl
  rwa [List.drop_zero] at this
theorem gk_dropS {α : Type} [Inhabited α] {enc : α → Nat → Value} {L : List α} {A : Option Addr} {sz : Nat} (l m : Nat) (hm : sl A sz enc L ∈ R) (hl : L.length ≤ m) (hg : GK X ks f O (sl (shA A l m sz) sz enc (L.drop l) :: R)) : GK X ks f O R := .mk fun a w hr hk => hg.out a w hr (hk.dropS hm l m hl)
theorem g_dropS {α : Type} [Inhabited α] {enc : α → Nat → Value} {L : List α} {A : Option Addr} {sz : Nat} {ll : List Oper} (l m : Nat) (hm : sl A sz enc L ∈ R) (hl : L.length ≤ m) (hg : G X ops ll k f O (sl (shA A l m sz) sz enc (L.drop l) :: R)) : G X ops ll k f O R := .mk fun a w hr hk => hg.out a w hr (hk.dropS hm l m hl)
theorem gk_takeS {α : Type} [Inhabited α] {enc : α → Nat → Value} {L : List α} {A : Option Addr} {sz : Nat} (k0 m : Nat) (hm : sl A sz enc L ∈ R) (hl : L.length ≤ m) (hg : GK X ks f O (sl (shA A 0 m sz) sz enc (L.take k0) :: R)) : GK X ks f O R := .mk fun a w hr hk => hg.out a w hr (hk.takeS hm k0 m hl)
theorem g_takeS {α : Type} [Inhabited α] {enc : α → Nat → Value} {L : List α} {A : Option Addr} {sz : Nat} {ll : List Oper} (k0 m : Nat) (hm : sl A sz enc L ∈ R) (hl : L.length ≤ m) (hg : G X ops ll k f O (sl (shA A 0 m sz) sz enc (L.take k0) :: R)) : G X ops ll k f O R := .mk fun a w hr hk => hg.out a w hr (hk.takeS hm k0 m hl)
theorem gk_nilR {α : Type} [Inhabited α] (A : Option Addr) (sz : Nat) (enc : α → Nat → Value) (hg : GK X ks f O (sl A sz enc ([] : List α) :: R)) : GK X ks f O R := .mk fun a w hr hk =>
  hg.out a w hr (hk.addR _ Sl.nil (fun b hb => absurd hb.1 (by simp)) (fun _ _ b _ hb => absurd hb.1 (by simp)))
theorem SlV.Ok.sub {s : SlV} {m : Nat} (h : s.Ok m) (k : Nat) (hk : k ≤ m) : (SlV.mk (shA s.A k s.c 1) (s.n - k) (s.c - k)).Ok (m - k) := by
  obtain ⟨h1, h2, h3, h4⟩ := h
  refine ⟨by show s.n - k = _; omega, by show s.n - k ≤ s.c - k; omega, by show s.c - k ≤ _; omega, fun h => ?_⟩
  show s.c - k = 0
  have h : shA s.A k s.c 1 = none := h
  unfold shA at h
  split at h
  · omega
  · have : s.A = none := by
      cases hA : s.A with
      | none => rfl
      | some y => rw [hA] at h; cases h
    have := h4 this
    omega
theorem SlV.ok_nil : (SlV.mk none 0 0).Ok 0 := ⟨rfl, Nat.le_refl _, Nat.zero_le _, fun _ => rfl⟩
end
end Go.Proofs.Ytkdphoacniigjaa.Gx
