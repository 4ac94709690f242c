/- Law 58: calls as an argument. -/
import Derived.Test.YtgpfedmfbkhhcaaSdA
import Derived.Test.YtgpfedmfbkhhcaaFlat3
namespace Go.Proofs.Ytgpfedmfbkhhcaa.Sd
open Go.RowKit Mem Gx Hp Du Dv OpA
open Go.ChangeShapes Go.WideShapes Go.Deep
set_option linter.unusedVariables false
set_option linter.unusedSimpArgs false
set_option maxRecDepth 100000
theorem rd_slS {α : Type} [Inhabited α] {w : World} {A : Option Addr} {sz : Nat} {enc : α → Nat → Value} {L : List α} (h : Sl w A sz enc L) (hsz : 0 < sz) : Rd1 w (sl A sz enc L) := by
  refine ⟨h, fun b hb => ?_⟩
  obtain ⟨hn, a, ha, hab⟩ := hb
  obtain ⟨b', off, e1, hc⟩ := h hn
  rw [e1] at ha
  injection ha with ha
  rw [← hab, ← ha]
  have := lt_of_cell (hc 0 hn 0 hsz)
  exact this
theorem step_leaves {H : Type} {enc : TypeId × Value → H} {W : World} {V : Nat → Value} {l : List TypeId} (hl : l = [3, 3, 31, 31, 3, 3, 3, 3, 3, 31, 35, 36, 31]) (hV : ∀ (j : Nat) (tj : TypeId), l[j]? = some tj → Leaf enc Try.prog W tj (V j)) :
    ∃ y : StD, (∀ j, j < 13 → V j = StE y j) ∧ (y.Bd ∧ Sl W y.r.o.a.A 1 (IE .u8) y.r.o.D ∧ Sl W y.r.o.m.A 1 (IE .i64) y.r.o.M) := by
  subst hl
  obtain ⟨x0, q0, _⟩ := leaf_int Try.underlying3 (hV 0 _ rfl)
  obtain ⟨x1, q1, _⟩ := leaf_int Try.underlying3 (hV 1 _ rfl)
  obtain ⟨x2, q2, u2⟩ := leaf_int Try.underlying31 (hV 2 _ rfl)
  obtain ⟨x3, q3, u3⟩ := leaf_int Try.underlying31 (hV 3 _ rfl)
  obtain ⟨a0, e0, w0⟩ := leaf_int Try.underlying3 (hV 4 _ rfl)
  obtain ⟨a1, e1, w1⟩ := leaf_int Try.underlying3 (hV 5 _ rfl)
  obtain ⟨a2, e2, w2⟩ := leaf_int Try.underlying3 (hV 6 _ rfl)
  obtain ⟨a3, e3, w3⟩ := leaf_int Try.underlying3 (hV 7 _ rfl)
  obtain ⟨a4, e4, w4⟩ := leaf_int Try.underlying3 (hV 8 _ rfl)
  obtain ⟨a5, e5, w5⟩ := leaf_int Try.underlying31 (hV 9 _ rfl)
  obtain ⟨A, n, c, D, e6, k1, k2, k3, k4, k5, k6⟩ := leaf_ints Try.underlying35 Try.underlying5 (by kernel_rfl) (hV 10 _ rfl)
  obtain ⟨B, m, c', M, e7, p1, p2, p3, p4, p5, p6⟩ := leaf_ints Try.underlying36 Try.underlying3 (by kernel_rfl) (hV 11 _ rfl)
  obtain ⟨x8, q8, u8⟩ := leaf_int Try.underlying31 (hV 12 _ rfl)
  have b2 := u64_bd u2
  have b3 := u64_bd u3
  have b8 := u64_bd u8
  refine ⟨⟨x0, x1, ⟨x2, x3, ⟨a0, a1, a2, a3, a4, a5, ⟨A, n, c⟩, D, ⟨B, m, c'⟩, M⟩⟩, x8⟩, fun j hj => ?_, ⟨b2.1, b2.2, b3.1, b3.2, b8.1, ⟨⟨k1, k3, k4, k5⟩, ⟨p1, p3, p4, p5⟩⟩⟩, k2, p2⟩
  match j, hj with
  | 0, _ => exact q0
  | 1, _ => exact q1
  | 2, _ => exact q2
  | 3, _ => exact q3
  | 4, _ => exact e0
  | 5, _ => exact e1
  | 6, _ => exact e2
  | 7, _ => exact e3
  | 8, _ => exact e4
  | 9, _ => exact e5
  | 10, _ => exact e6
  | 11, _ => exact e7
  | 12, _ => exact q8
theorem steps_of {H : Type} {enc : TypeId × Value → H} {W : World} {base : Nat} {v : Value} {d : DataW H} {p : List MemPlace} (hv : Value.okWide Try.prog W .any base 22 v) (h : DataW.Trod enc Try.prog W 0 (fun _ => true) true 22 v d p) :
    ∃ (A : Option Addr) (n c : Nat) (L : List StD), v = .slice A n c ∧ (n = L.length ∧ Rd1 W (sl A 13 StE L) ∧ (∀ x, x ∈ L → x.Bd) ∧ Rd1 W (allF L (fun x => faF x.r.o)) ∧ Rd1 W (allF L (fun x => fmF x.r.o))) := by
  have hl : leaves Try.prog 8 42 = some [3, 3, 31, 31, 3, 3, 3, 3, 3, 31, 35, 36, 31] := by decide +kernel
  obtain ⟨A, n, c, F, rfl, hA, h1, h2, h3, h4⟩ := open_slices Try.underlying22 hl (by kernel_rfl) (by decide) hv h
  obtain ⟨L, hn, hs, hb⟩ := arr_list (enc := StE) hA (fun i hi => step_leaves rfl (h4 i hi))
  exact ⟨A, n, c, L, rfl, hn, rd_slS hs (by decide), fun x hx => (hb x hx).1, Rd1.all fun x hx => rd_slS (hb x hx).2.1 (by decide), Rd1.all fun x hx => rd_slS (hb x hx).2.2 (by decide)⟩
end Go.Proofs.Ytgpfedmfbkhhcaa.Sd

