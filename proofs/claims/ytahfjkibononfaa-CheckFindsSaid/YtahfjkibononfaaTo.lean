/- Calls of a tree as arguments; a key. -/
import Derived.Test.YtahfjkibononfaaNd2
import Derived.Test.YtahfjkibononfaaFlat3
namespace Go.Proofs.Ytahfjkibononfaa.Tw
open Go.RowKit Mem Nd Gx
open Go.ChangeShapes Go.WideShapes Go.Deep
set_option linter.unusedVariables false
set_option linter.unusedSimpArgs false
set_option maxRecDepth 100000
set_option maxHeartbeats 4000000
/-- A call. -/
structure OpD where
  del : Bool
  e : EntD
instance : Inhabited OpD := ⟨⟨false, default⟩⟩
def CE : OpD → Nat → Value
  | x, 0 => .bool x.del
  | x, 1 => .int .u16 x.e.k.v
  | x, 2 => .int .u32 x.e.k.b
  | x, 3 => .int .u64 x.e.k.s
  | x, _ + 4 => .int .u32 x.e.a
abbrev OpD.val (x : OpD) : Value := .agg #[.bool x.del, .int .u16 x.e.k.v, .int .u32 x.e.k.b, .int .u64 x.e.k.s, .int .u32 x.e.a]
theorem op_leaves {H : Type} {enc : TypeId × Value → H} {W : World} {V : Nat → Value} {l : List TypeId} (hl : l = [4, 23, 24, 25, 24]) (hV : ∀ (j : Nat) (tj : TypeId), l[j]? = some tj → Leaf enc Try.prog W tj (V j)) :
    ∃ y : OpD, (∀ j, j < 5 → V j = CE y j) ∧ True := by
  subst hl
  obtain ⟨b, e⟩ := leaf_bool Try.underlying4 (hV 0 _ rfl)
  obtain ⟨a0, e0, w0⟩ := leaf_int Try.underlying23 (hV 1 _ rfl)
  obtain ⟨a1, e1, w1⟩ := leaf_int Try.underlying24 (hV 2 _ rfl)
  obtain ⟨a2, e2, w2⟩ := leaf_int Try.underlying25 (hV 3 _ rfl)
  obtain ⟨a3, e3, w3⟩ := leaf_int Try.underlying24 (hV 4 _ rfl)
  refine ⟨⟨b, ⟨⟨a0, a1, a2⟩, a3⟩⟩, fun j hj => ?_, trivial⟩
  match j, hj with
  | 0, _ => exact e
  | 1, _ => exact e0
  | 2, _ => exact e1
  | 3, _ => exact e2
  | 4, _ => exact e3
theorem ops_of {H : Type} {enc : TypeId × Value → H} {W : World} {base : Nat} {v : Value} {d : DataW H} {p : List MemPlace} (hv : Value.okWide Try.prog W .any base 47 v) (h : DataW.Trod enc Try.prog W 0 (fun _ => true) true 47 v d p) :
    ∃ (A : Option Addr) (n c : Nat) (L : List OpD), v = .slice A n c ∧ ((SlV.mk A n c).Ok L.length ∧ Sl W A 5 CE L) := by
  have hl : leaves Try.prog 8 65 = some [4, 23, 24, 25, 24] := by decide +kernel
  obtain ⟨A, n, c, F, rfl, hA, h1, h2, h3, h4⟩ := open_slices Try.underlying47 hl (by kernel_rfl) (by decide) hv h
  obtain ⟨L, hn, hs, hb⟩ := arr_list (enc := CE) (Q := fun _ => True) hA (fun i hi => op_leaves rfl (h4 i hi))
  exact ⟨A, n, c, L, rfl, ⟨hn, h1, h2, fun h => (h3 h).2⟩, hs⟩
theorem op_of {H : Type} {enc : TypeId × Value → H} {W : World} {base : Nat} {v : Value} {d : DataW H} {p : List MemPlace} (hv : Value.okWide Try.prog W .any base 65 v) (h : DataW.Trod enc Try.prog W 0 (fun _ => true) true 65 v d p) :
    ∃ y : OpD, v = y.val ∧ True := by
  have hl : leaves Try.prog 8 65 = some [4, 23, 24, 25, 24] := by decide +kernel
  obtain ⟨V, rfl, hV⟩ := open_flat hl (by kernel_rfl) (by kernel_rfl) hv h
  obtain ⟨y, e, _⟩ := op_leaves (V := V) rfl hV
  refine ⟨y, ?_, trivial⟩
  have e' : (List.range 5).map V = [CE y 0, CE y 1, CE y 2, CE y 3, CE y 4] := by rw [← e 0 (by decide), ← e 1 (by decide), ← e 2 (by decide), ← e 3 (by decide), ← e 4 (by decide)]; rfl
  show Value.agg ((List.range 5).map V).toArray = _
  rw [e']
  rfl
theorem key_of {H : Type} {enc : TypeId × Value → H} {W : World} {base : Nat} {v : Value} {d : DataW H} {p : List MemPlace} (hv : Value.okWide Try.prog W .any base 27 v) (h : DataW.Trod enc Try.prog W 0 (fun _ => true) true 27 v d p) :
    ∃ y : KeyD, v = y.val ∧ True := by
  have hl : leaves Try.prog 8 27 = some [23, 24, 25] := by decide +kernel
  obtain ⟨V, rfl, hV⟩ := open_flat hl (by kernel_rfl) (by kernel_rfl) hv h
  obtain ⟨a0, e0, w0⟩ := leaf_int Try.underlying23 (hV 0 _ rfl)
  obtain ⟨a1, e1, w1⟩ := leaf_int Try.underlying24 (hV 1 _ rfl)
  obtain ⟨a2, e2, w2⟩ := leaf_int Try.underlying25 (hV 2 _ rfl)
  refine ⟨⟨a0, a1, a2⟩, ?_, trivial⟩
  have e' : (List.range 3).map V = [V 0, V 1, V 2] := rfl
  show Value.agg ((List.range 3).map V).toArray = _
  rw [e', e0, e1, e2]
end Go.Proofs.Ytahfjkibononfaa.Tw

