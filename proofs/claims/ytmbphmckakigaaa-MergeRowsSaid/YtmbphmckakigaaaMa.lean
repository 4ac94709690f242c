/- Rows as an argument. -/
import Derived.Test.YtmbphmckakigaaaMn
import Derived.Test.YtmbphmckakigaaaFlat3
namespace Go.Proofs.Ytmbphmckakigaaa.Mg
open Go.RowKit Mem Gx Hp Nd Wk
set_option linter.unusedVariables false
set_option linter.unusedSimpArgs false
set_option maxRecDepth 100000
set_option maxHeartbeats 1000000
theorem abd16 {x : Int} (h : (Lit.int .u16 x).wf = true) : 0 ≤ x ∧ x < 65536 := by
  simp [Lit.wf, IntKind.min, IntKind.max, IntKind.signed, IntKind.bits] at h; omega
theorem abd32 {x : Int} (h : (Lit.int .u32 x).wf = true) : 0 ≤ x ∧ x < 4294967296 := by
  simp [Lit.wf, IntKind.min, IntKind.max, IntKind.signed, IntKind.bits] at h; omega
theorem abd64 {x : Int} (h : (Lit.int .u64 x).wf = true) : 0 ≤ x ∧ x < 18446744073709551616 := by
  simp [Lit.wf, IntKind.min, IntKind.max, IntKind.signed, IntKind.bits] at h; omega
theorem aent_leaves {H : Type} {enc : TypeId × Value → H} {W : World} {V : Nat → Value} {l : List TypeId} (hl : l = [25, 26, 27, 26]) (hV : ∀ (j : Nat) (tj : TypeId), l[j]? = some tj → Leaf enc Try.prog W tj (V j)) :
    ∃ y : EntD, (∀ j, j < 4 → V j = EE y j) ∧ y.k.Bd := by
  subst hl
  obtain ⟨a0, e0, w0⟩ := leaf_int Try.underlying25 (hV 0 _ rfl)
  obtain ⟨a1, e1, w1⟩ := leaf_int Try.underlying26 (hV 1 _ rfl)
  obtain ⟨a2, e2, w2⟩ := leaf_int Try.underlying27 (hV 2 _ rfl)
  obtain ⟨a3, e3, w3⟩ := leaf_int Try.underlying26 (hV 3 _ rfl)
  refine ⟨⟨⟨a0, a1, a2⟩, a3⟩, fun j hj => ?_, ⟨abd16 w0, abd32 w1, abd64 w2⟩⟩
  match j, hj with
  | 0, _ => exact e0
  | 1, _ => exact e1
  | 2, _ => exact e2
  | 3, _ => exact e3
theorem row_leaves {H : Type} {enc : TypeId × Value → H} {W : World} {V : Nat → Value} {l : List TypeId} (hl : l = [23]) (hV : ∀ (j : Nat) (tj : TypeId), l[j]? = some tj → Leaf enc Try.prog W tj (V j)) :
    ∃ y : RwD, (∀ j, j < 1 → V j = RE y j) ∧ (y.Arg ∧ Sl W y.s.A 4 EE y.E) := by
  subst hl
  have hl : leaves Try.prog 8 31 = some [25, 26, 27, 26] := by decide +kernel
  obtain ⟨A, n, c, F, e, hA, h1, h2, h3, h4⟩ := leaf_slice Try.underlying23 hl (by kernel_rfl) (by decide) (hV 0 _ rfl)
  obtain ⟨L, hn, hs, hb⟩ := arr_list (enc := EE) (Q := fun x => x.k.Bd) hA (fun i hi => aent_leaves rfl (h4 i hi))
  refine ⟨⟨⟨A, n, c⟩, L⟩, fun j hj => ?_, ⟨⟨hn, h1, h2, fun h => (h3 h).2⟩, hb⟩, hs⟩
  match j, hj with
  | 0, _ => exact e
theorem rows_of {H : Type} {enc : TypeId × Value → H} {W : World} {base : Nat} {v : Value} {d : DataW H} {p : List MemPlace} (hv : Value.okWide Try.prog W .any base 22 v) (h : DataW.Trod enc Try.prog W 0 (fun _ => true) true 22 v d p) :
    ∃ (A : Option Addr) (n c : Nat) (L : List RwD), v = .slice A n c ∧ ((SlV.mk A n c).Ok L.length ∧ Sl W A 1 RE L ∧ ∀ x ∈ L, x.Arg ∧ Sl W x.s.A 4 EE x.E) := by
  have hl : leaves Try.prog 8 23 = some [23] := by decide +kernel
  obtain ⟨A, n, c, F, rfl, hA, h1, h2, h3, h4⟩ := open_slices Try.underlying22 hl (by kernel_rfl) (by decide) hv h
  obtain ⟨L, hn, hs, hb⟩ := arr_list (enc := RE) (Q := fun y => y.Arg ∧ Sl W y.s.A 4 EE y.E) hA (fun i hi => row_leaves rfl (h4 i hi))
  exact ⟨A, n, c, L, rfl, ⟨hn, h1, h2, fun h => (h3 h).2⟩, hs, hb⟩
theorem rd_slM {α : Type} [Inhabited α] {sz : Nat} {enc : α → Nat → Value} {L : List α} {A : Option Addr} {w : World} (hs : Sl w A sz enc L) (hsz : 0 < sz) : Rd1 w (sl A sz enc L) :=
  (((Kn.start w).argR hs hsz (fun _ h => by cases h)).rR (.head _))
theorem mergeRows_any (A : Option Addr) (n c : Nat) (RS : List RwD) (w : World) (h : (SlV.mk A n c).Ok RS.length) (hL : Sl w A 1 RE RS) (hin : ∀ x ∈ RS, x.Arg ∧ Sl w x.s.A 4 EE x.E) :
    Calls Try.prog 3 [.slice A n c].toArray w fun e w' => e = .returned (.bool true) ∧ Below w.heap.size w w' :=
  law17_any RS A n c w h.n (fun r hr => (hin r hr).1) (Rds.cons (rd_slM hL (by decide)) (.cons (Rd1.all fun x hx => rd_slM (hin x hx).2 (by decide)) .nil))
end Go.Proofs.Ytmbphmckakigaaa.Mg

