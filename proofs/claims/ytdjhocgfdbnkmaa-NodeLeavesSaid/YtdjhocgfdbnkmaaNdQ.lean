/- Entries as an argument. -/
import Derived.Test.YtdjhocgfdbnkmaaNd9
import Derived.Test.YtdjhocgfdbnkmaaFlat3
namespace Go.Proofs.Ytdjhocgfdbnkmaa.Nd
open Go.RowKit Mem Gx Bytes
open Go.ChangeShapes Go.WideShapes Go.Deep
set_option linter.unusedVariables false
set_option linter.unusedSimpArgs false
set_option maxRecDepth 100000
set_option maxHeartbeats 4000000
theorem u16_bd {x : Int} (h : (Lit.int .u16 x).wf = true) : 0 ≤ x ∧ x < 65536 := by
  simp [Lit.wf, IntKind.min, IntKind.max, IntKind.signed, IntKind.bits] at h; omega
theorem u32_bd {x : Int} (h : (Lit.int .u32 x).wf = true) : 0 ≤ x ∧ x < 4294967296 := by
  simp [Lit.wf, IntKind.min, IntKind.max, IntKind.signed, IntKind.bits] at h; omega
theorem u64_bd' {x : Int} (h : (Lit.int .u64 x).wf = true) : 0 ≤ x ∧ x < 18446744073709551616 := by
  have := u64_bd h; omega
theorem ent_leaves {H : Type} {enc : TypeId × Value → H} {W : World} {V : Nat → Value} {l : List TypeId} (hl : l = [33, 34, 35, 34]) (hV : ∀ (j : Nat) (tj : TypeId), l[j]? = some tj → Leaf enc Try.prog W tj (V j)) :
    ∃ y : EntD, (∀ j, j < 4 → V j = EE y j) ∧ y.Bd := by
  subst hl
  obtain ⟨a0, e0, w0⟩ := leaf_int Try.underlying33 (hV 0 _ rfl)
  obtain ⟨a1, e1, w1⟩ := leaf_int Try.underlying34 (hV 1 _ rfl)
  obtain ⟨a2, e2, w2⟩ := leaf_int Try.underlying35 (hV 2 _ rfl)
  obtain ⟨a3, e3, w3⟩ := leaf_int Try.underlying34 (hV 3 _ rfl)
  refine ⟨⟨⟨a0, a1, a2⟩, a3⟩, fun j hj => ?_, ⟨⟨u16_bd w0, u32_bd w1, u64_bd' w2⟩, u32_bd w3⟩⟩
  match j, hj with
  | 0, _ => exact e0
  | 1, _ => exact e1
  | 2, _ => exact e2
  | 3, _ => exact e3
theorem ents_of {H : Type} {enc : TypeId × Value → H} {W : World} {base : Nat} {v : Value} {d : DataW H} {p : List MemPlace} (hv : Value.okWide Try.prog W .any base 22 v) (h : DataW.Trod enc Try.prog W 0 (fun _ => true) true 22 v d p) :
    ∃ (A : Option Addr) (n c : Nat) (L : List EntD), v = .slice A n c ∧ ((SlV.mk A n c).Ok L.length ∧ Sl W A 4 EE L ∧ ∀ y ∈ L, y.Bd) := by
  have hl : leaves Try.prog 8 39 = some [33, 34, 35, 34] := by decide +kernel
  obtain ⟨A, n, c, F, rfl, hA, h1, h2, h3, h4⟩ := open_slices Try.underlying22 hl (by kernel_rfl) (by decide) hv h
  obtain ⟨L, hn, hs, hb⟩ := arr_list (enc := EE) (Q := EntD.Bd) hA (fun i hi => ent_leaves rfl (h4 i hi))
  exact ⟨A, n, c, L, rfl, ⟨hn, h1, h2, fun h => (h3 h).2⟩, hs, hb⟩
theorem ent_of {H : Type} {enc : TypeId × Value → H} {W : World} {base : Nat} {v : Value} {d : DataW H} {p : List MemPlace} (hv : Value.okWide Try.prog W .any base 39 v) (h : DataW.Trod enc Try.prog W 0 (fun _ => true) true 39 v d p) :
    ∃ y : EntD, v = y.val ∧ y.Bd := by
  have hl : leaves Try.prog 8 39 = some [33, 34, 35, 34] := by decide +kernel
  obtain ⟨V, rfl, hV⟩ := open_flat hl (by kernel_rfl) (by kernel_rfl) hv h
  obtain ⟨y, e, hb⟩ := ent_leaves (V := V) rfl hV
  refine ⟨y, ?_, hb⟩
  have e' : (List.range 4).map V = [EE y 0, EE y 1, EE y 2, EE y 3] := by rw [← e 0 (by decide), ← e 1 (by decide), ← e 2 (by decide), ← e 3 (by decide)]; rfl
  show Value.agg ((List.range 4).map V).toArray = _
  rw [e']
  rfl
end Go.Proofs.Ytdjhocgfdbnkmaa.Nd
