/- Law 30: arguments. -/
import Derived.Test.YteajefmnbalofaaTx5
import Derived.Test.YteajefmnbalofaaDk4
import Derived.Test.YteajefmnbalofaaSl
namespace Go.Proofs.Yteajefmnbalofaa.Tx
open Go.RowKit Mem Gx Dk OpA Rec Bytes
open Go.ChangeShapes Go.WideShapes Go.Deep
set_option linter.unusedVariables false
set_option linter.unusedSimpArgs false
set_option maxRecDepth 100000
theorem rd_slS {α : Type} [Inhabited α] {w : World} {A : Option Addr} {sz : Nat} {enc : α → Nat → Value} {L : List α} (h : Sl w A sz enc L) (hsz : 0 < sz) : Rd1 w (sl A sz enc L) := by
  refine ⟨h, fun b hb => ?_⟩
  obtain ⟨hn, a, ha, hab⟩ := hb
  obtain ⟨b', off, e1, hc⟩ := h hn
  rw [e1] at ha
  injection ha with ha
  rw [← hab, ← ha]
  have := lt_of_cell (hc 0 hn 0 hsz)
  exact this
section
variable {H : Type} {enc : TypeId × Value → H} {W : World}
theorem op8_leaves {V : Nat → Value} {l : List TypeId} (hl : l = [3, 3, 3, 3, 3, 22, 36, 37]) (hV : ∀ (j : Nat) (tj : TypeId), l[j]? = some tj → Leaf enc Try.prog W tj (V j)) :
    ∃ y : OpD, (∀ j, j < 8 → V j = opE y j) ∧ ((y.Ok ∧ y.Bd) ∧ Sl W y.a.A 1 (IE .u8) y.D ∧ Sl W y.m.A 1 (IE .i64) y.M) := by
  subst hl
  obtain ⟨a0, e0, w0⟩ := leaf_int Try.underlying3 (hV 0 _ rfl)
  obtain ⟨a1, e1, w1⟩ := leaf_int Try.underlying3 (hV 1 _ rfl)
  obtain ⟨a2, e2, w2⟩ := leaf_int Try.underlying3 (hV 2 _ rfl)
  obtain ⟨a3, e3, w3⟩ := leaf_int Try.underlying3 (hV 3 _ rfl)
  obtain ⟨a4, e4, w4⟩ := leaf_int Try.underlying3 (hV 4 _ rfl)
  obtain ⟨a5, e5, w5⟩ := leaf_int Try.underlying22 (hV 5 _ rfl)
  obtain ⟨A, n, c, D, e6, k1, k2, k3, k4, k5, k6⟩ := leaf_ints Try.underlying36 Try.underlying5 (by kernel_rfl) (hV 6 _ rfl)
  obtain ⟨B, m, c', M, e7, p1, p2, p3, p4, p5, p6⟩ := leaf_ints Try.underlying37 Try.underlying3 (by kernel_rfl) (hV 7 _ rfl)
  refine ⟨⟨a0, a1, a2, a3, a4, a5, ⟨A, n, c⟩, D, ⟨B, m, c'⟩, M⟩, fun j hj => ?_, ⟨⟨⟨k1, k3, k4, k5⟩, ⟨p1, p3, p4, p5⟩⟩, ⟨u64_bd w5, i64_bd w0, i64_bd w1, i64_bd w2, i64_bd w3, i64_bd w4, fun x hx => ?_⟩⟩, k2, p2⟩
  · match j, hj with
    | 0, _ => exact e0
    | 1, _ => exact e1
    | 2, _ => exact e2
    | 3, _ => exact e3
    | 4, _ => exact e4
    | 5, _ => exact e5
    | 6, _ => exact e6
    | 7, _ => exact e7
  · have := k6 x hx
    simp [Lit.wf, IntKind.min, IntKind.max, IntKind.signed, IntKind.bits] at this
    omega
theorem ops8_of {base : Nat} {v : Value} {d : DataW H} {p : List MemPlace} (hv : Value.okWide Try.prog W .any base 25 v) (h : DataW.Trod enc Try.prog W 0 (fun _ => true) true 25 v d p) :
    ∃ (A : Option Addr) (n c : Nat) (L : List OpD), v = .slice A n c ∧ (n = L.length ∧ Rd1 W (sl A 8 opE L) ∧ (∀ x, x ∈ L → x.Ok ∧ x.Bd) ∧ Rd1 W (allF L faO) ∧ Rd1 W (allF L fmO)) := by
  have hl : leaves Try.prog 8 39 = some [3, 3, 3, 3, 3, 22, 36, 37] := by decide +kernel
  obtain ⟨A, n, c, F, rfl, hA, h1, h2, h3, h4⟩ := open_slices Try.underlying25 hl (by kernel_rfl) (by decide) hv h
  obtain ⟨L, hn, hs, hb⟩ := arr_list (enc := opE) hA (fun i hi => op8_leaves rfl (h4 i hi))
  exact ⟨A, n, c, L, rfl, hn, rd_slS hs (by decide), fun x hx => (hb x hx).1, Rd1.all fun x hx => rd_slS (hb x hx).2.1 (by decide), Rd1.all fun x hx => rd_slS (hb x hx).2.2 (by decide)⟩
theorem case_of {base : Nat} {v : Value} {d : DataW H} {p : List MemPlace} (hv : Value.okWide Try.prog W .any base 24 v) (h : DataW.Trod enc Try.prog W 0 (fun _ => true) true 24 v d p) :
    ∃ (a : Int) (b c : Nat), v = .agg #[.int .i64 a, .int .u64 (b : Nat), .int .u64 (c : Nat)] ∧ b ≤ 18446744073709551615 := by
  have hl : leaves Try.prog 8 24 = some [3, 22, 22] := by decide +kernel
  obtain ⟨V, rfl, hV⟩ := open_flat hl (by kernel_rfl) (by kernel_rfl) hv h
  obtain ⟨a0, e0, w0⟩ := leaf_int Try.underlying3 (hV 0 _ rfl)
  obtain ⟨a1, e1, w1⟩ := leaf_int Try.underlying22 (hV 1 _ rfl)
  obtain ⟨a2, e2, w2⟩ := leaf_int Try.underlying22 (hV 2 _ rfl)
  have b1 := u64_bd w1
  have b2 := u64_bd w2
  obtain ⟨b, rfl⟩ := Int.eq_ofNat_of_zero_le b1.1
  obtain ⟨c, rfl⟩ := Int.eq_ofNat_of_zero_le b2.1
  refine ⟨a0, b, c, ?_, by omega⟩
  have e' : (List.range 3).map V = [V 0, V 1, V 2] := rfl
  show Value.agg ((List.range 3).map V).toArray = _
  rw [e', e0, e1, e2]
theorem pair2_of {base : Nat} {v : Value} {d : DataW H} {p : List MemPlace} (hv : Value.okWide Try.prog W .any base 51 v) (h : DataW.Trod enc Try.prog W 0 (fun _ => true) true 51 v d p) :
    ∃ a b : Int, v = .agg #[.int .i64 a, .int .i64 b] ∧ True := by
  have hl : leaves Try.prog 8 51 = some [3, 3] := by decide +kernel
  obtain ⟨V, rfl, hV⟩ := open_flat hl (by kernel_rfl) (by kernel_rfl) hv h
  obtain ⟨a0, e0, w0⟩ := leaf_int Try.underlying3 (hV 0 _ rfl)
  obtain ⟨a1, e1, w1⟩ := leaf_int Try.underlying3 (hV 1 _ rfl)
  refine ⟨a0, a1, ?_, trivial⟩
  have e' : (List.range 2).map V = [V 0, V 1] := rfl
  show Value.agg ((List.range 2).map V).toArray = _
  rw [e', e0, e1]
theorem bo_leaves {V : Nat → Value} {l : List TypeId} (hl : l = [4]) (hV : ∀ (j : Nat) (tj : TypeId), l[j]? = some tj → Leaf enc Try.prog W tj (V j)) :
    ∃ y : Bool, (∀ j, j < 1 → V j = BoE y j) ∧ True := by
  subst hl
  obtain ⟨a0, e0⟩ := leaf_bool Try.underlying4 (hV 0 _ rfl)
  refine ⟨a0, fun j hj => ?_, trivial⟩
  match j, hj with
  | 0, _ => exact e0
theorem bools_of {base : Nat} {v : Value} {d : DataW H} {p : List MemPlace} (hv : Value.okWide Try.prog W .any base 52 v) (h : DataW.Trod enc Try.prog W 0 (fun _ => true) true 52 v d p) :
    ∃ (A : Option Addr) (n c : Nat) (L : List Bool), v = .slice A n c ∧ (n = L.length ∧ Rd1 W (sl A 1 BoE L)) := by
  have hl : leaves Try.prog 8 4 = some [4] := by decide +kernel
  obtain ⟨A, n, c, F, rfl, hA, h1, h2, h3, h4⟩ := open_slices Try.underlying52 hl (by kernel_rfl) (by decide) hv h
  obtain ⟨L, hn, hs, hb⟩ := arr_list (enc := BoE) (Q := fun _ => True) hA (fun i hi => bo_leaves rfl (h4 i hi))
  exact ⟨A, n, c, L, rfl, hn, rd_slS hs (by decide)⟩
end
end Go.Proofs.Yteajefmnbalofaa.Tx
