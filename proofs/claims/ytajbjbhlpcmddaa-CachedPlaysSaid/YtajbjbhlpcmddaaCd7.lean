/- Operations as an argument (layer 64). -/
import Derived.Test.YtajbjbhlpcmddaaCd6
import Derived.Test.YtajbjbhlpcmddaaFlat3
namespace Go.Proofs.Ytajbjbhlpcmddaa.Dk
open Go.RowKit Mem Gx Bytes
set_option linter.unusedVariables false
set_option linter.unusedSimpArgs false
set_option maxRecDepth 100000
set_option maxHeartbeats 1000000
theorem abd8 {x : Int} (h : (Lit.int .u8 x).wf = true) : 0 ≤ x ∧ x ≤ 255 := by
  simp [Lit.wf, IntKind.min, IntKind.max, IntKind.signed, IntKind.bits] at h; omega
theorem bo_leaves {H : Type} {enc : TypeId × Value → H} {W : World} {V : Nat → Value} {l : List TypeId} (hl : l = [4]) (hV : ∀ (j : Nat) (tj : TypeId), l[j]? = some tj → Leaf enc Try.prog W tj (V j)) :
    ∃ y : Bool, (∀ j, j < 1 → V j = BoE y j) ∧ True := by
  subst hl
  obtain ⟨a0, e0⟩ := leaf_bool Try.underlying4 (hV 0 _ rfl)
  refine ⟨a0, fun j hj => ?_, trivial⟩
  match j, hj with
  | 0, _ => exact e0
theorem opk_leaves {H : Type} {enc : TypeId × Value → H} {W : World} {V : Nat → Value} {l : List TypeId} (hl : l = [3, 3, 5, 31]) (hV : ∀ (j : Nat) (tj : TypeId), l[j]? = some tj → Leaf enc Try.prog W tj (V j)) :
    ∃ y : OpD, (∀ j, j < 4 → V j = OE y j) ∧ (y.Ok ∧ Sl W y.s.A 1 BoE y.K) := by
  subst hl
  have hl : leaves Try.prog 8 4 = some [4] := by decide +kernel
  obtain ⟨a0, e0, w0⟩ := leaf_int Try.underlying3 (hV 0 _ rfl)
  obtain ⟨a1, e1, w1⟩ := leaf_int Try.underlying3 (hV 1 _ rfl)
  obtain ⟨a2, e2, w2⟩ := leaf_int Try.underlying5 (hV 2 _ rfl)
  obtain ⟨A, n, c, F, e3, hA, h1, h2, h3, h4⟩ := leaf_slice Try.underlying31 hl (by kernel_rfl) (by decide) (hV 3 _ rfl)
  obtain ⟨L, hn, hs, hb⟩ := arr_list (enc := BoE) (Q := fun _ => True) hA (fun i hi => bo_leaves rfl (h4 i hi))
  refine ⟨⟨a0, a1, a2, ⟨A, n, c⟩, L⟩, fun j hj => ?_, ⟨⟨hn, h1, h2, fun h => (h3 h).2⟩, abd8 w2⟩, hs⟩
  match j, hj with
  | 0, _ => exact e0
  | 1, _ => exact e1
  | 2, _ => exact e2
  | 3, _ => exact e3
theorem opks_of {H : Type} {enc : TypeId × Value → H} {W : World} {base : Nat} {v : Value} {d : DataW H} {p : List MemPlace} (hv : Value.okWide Try.prog W .any base 22 v) (h : DataW.Trod enc Try.prog W 0 (fun _ => true) true 22 v d p) :
    ∃ (A : Option Addr) (n c : Nat) (L : List OpD), v = .slice A n c ∧ ((SlV.mk A n c).Ok L.length ∧ Sl W A 4 OE L ∧ ∀ x ∈ L, x.Ok ∧ Sl W x.s.A 1 BoE x.K) := by
  have hl : leaves Try.prog 8 33 = some [3, 3, 5, 31] := by decide +kernel
  obtain ⟨A, n, c, F, rfl, hA, h1, h2, h3, h4⟩ := open_slices Try.underlying22 hl (by kernel_rfl) (by decide) hv h
  obtain ⟨L, hn, hs, hb⟩ := arr_list (enc := OE) (Q := fun y => y.Ok ∧ Sl W y.s.A 1 BoE y.K) hA (fun i hi => opk_leaves rfl (h4 i hi))
  exact ⟨A, n, c, L, rfl, ⟨hn, h1, h2, fun h => (h3 h).2⟩, hs, hb⟩
theorem rd_slM {α : Type} [Inhabited α] {sz : Nat} {enc : α → Nat → Value} {L : List α} {A : Option Addr} {w : World} (hs : Sl w A sz enc L) (hsz : 0 < sz) : Rd1 w (sl A sz enc L) :=
  (((Kn.start w).argR hs hsz (fun _ h => by cases h)).rR (.head _))
theorem cachedPlays_any (n most : Int) (A : Option Addr) (m c : Nat) (CS : List OpD) (w : World) (h : (SlV.mk A m c).Ok CS.length) (hL : Sl w A 4 OE CS) (hin : ∀ x ∈ CS, x.Ok ∧ Sl w x.s.A 1 BoE x.K) :
    Calls Try.prog 3 [.int .i64 n, .int .i64 most, .slice A m c].toArray w fun e w' => e = .returned (.bool true) ∧ Below w.heap.size w w' :=
  law64_any n most A m c CS w h.n (fun o ho => (hin o ho).1) (Rds.cons (rd_slM hL (by decide)) (.cons (Rd1.all fun x hx => rd_slM (hin x hx).2 (by decide)) .nil))
end Go.Proofs.Ytajbjbhlpcmddaa.Dk

