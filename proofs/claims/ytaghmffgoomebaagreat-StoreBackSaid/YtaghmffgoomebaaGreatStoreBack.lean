/- The statement StoreBack: for every input the law returns true, and every argument reads as before. Lifted from the walk. -/
import Derived.Test.YtaghmffgoomebaaGreatRows
import Derived.WalkKit
import Derived.ProofKit
import Derived.OpenShut
import Derived.ShutString
import Derived.ChangeOld
import Derived.Below
import Derived.Test.YtaghmffgoomebaaGreatFlat3
import Derived.Test.YtaghmffgoomebaaGreatSvI
set_option linter.unusedVariables false
set_option linter.unusedSimpArgs false
namespace Go.Proofs.YtaghmffgoomebaaGreat.storeBack
open Go.ChangeShapes Go.WideShapes Go.ChangeAt Go.RowKit
open Go.ChangeMaps (open_string shut_string)
theorem own : ownKnob Tryz.prog.godebug = none := by kernel_rfl
theorem laidOut : laidOutB Tryz.prog = true := by kernel_rfl
open Mem St Nd Gx Bytes Tw
theorem rd_slS {α : Type} [Inhabited α] {w : World} {A : Option Addr} {sz : Nat} {enc : α → Nat → Value} {L : List α} (h : Sl w A sz enc L) (hsz : 0 < sz) : Gx.Rd1 w (Gx.sl A sz enc L) := by
 refine ⟨h, fun b hb => ?_⟩
 obtain ⟨hn, a, ha, hab⟩ := hb
 obtain ⟨b', off, e1, hc⟩ := h hn
 rw [e1] at ha
 injection ha with ha
 rw [← hab, ← ha]
 have := lt_of_cell (hc 0 hn 0 hsz)
 exact this
theorem zjV {H : Type} {enc : TypeId × Value → H} {W : World} {V : Nat → Value} {l : List TypeId} (hl : l = [4, 25, 26, 27, 26]) (hV : ∀ (j : Nat) (tj : TypeId), l[j]? = some tj → Leaf enc Tryz.prog W tj (V j)) :
 ∃ y : OpD, (∀ j, j < 5 → V j = CE y j) ∧ y.e.Bd := by
 subst hl
 obtain ⟨b, e⟩ := zlv Tryz.underlying4 (hV 0 _ rfl)
 obtain ⟨a0, e0, w0⟩ := zek Tryz.underlying25 (hV 1 _ rfl)
 obtain ⟨a1, e1, w1⟩ := zek Tryz.underlying26 (hV 2 _ rfl)
 obtain ⟨a2, e2, w2⟩ := zek Tryz.underlying27 (hV 3 _ rfl)
 obtain ⟨a3, e3, w3⟩ := zek Tryz.underlying26 (hV 4 _ rfl)
 simp [Lit.wf, IntKind.min, IntKind.max, IntKind.signed, IntKind.bits] at w0 w1 w2 w3
 refine ⟨⟨b, ⟨⟨a0, a1, a2⟩, a3⟩⟩, fun j hj => ?_, ⟨⟨⟨w0.1, by dsimp only; omega⟩, ⟨w1.1, by dsimp only; omega⟩, ⟨w2.1, by dsimp only; omega⟩⟩, ⟨w3.1, by dsimp only; omega⟩⟩⟩
 match j, hj with
 | 0, _ => exact e
 | 1, _ => exact e0
 | 2, _ => exact e1
 | 3, _ => exact e2
 | 4, _ => exact e3
set_option maxRecDepth 100000 in
theorem zk6 {H : Type} {enc : TypeId × Value → H} {W : World} {base : Nat} {v : Value} {d : DataW H} {p : List MemPlace} (hv : Value.okWide Tryz.prog W .any base 52 v) (h : DataW.Trod enc Tryz.prog W 0 (fun _ => true) true 52 v d p) :
 ∃ (A : Option Addr) (n c : Nat) (L : List OpD), v = .slice A n c ∧ ((Gx.SlV.mk A n c).Ok L.length ∧ (∀ y ∈ L, y.e.Bd) ∧ Gx.Rd1 W (Gx.sl A 5 Tw.CE L)) := by
 have hl : leaves Tryz.prog 8 59 = some [4, 25, 26, 27, 26] := by decide +kernel
 obtain ⟨A, n, c, F, rfl, hA, h1, h2, h3, h4⟩ := zhS Tryz.underlying52 hl (by kernel_rfl) (by decide) hv h
 obtain ⟨L, hn, hs, hb⟩ := zom (enc := CE) (Q := fun y => y.e.Bd) hA (fun i hi => zjV rfl (h4 i hi))
 exact ⟨A, n, c, L, rfl, ⟨hn, h1, h2, fun h => (h3 h).2⟩, hb, rd_slS hs (by decide)⟩
theorem walk (A : Option Addr) (n c : Nat) (L : List OpD) (A2 : Option Addr) (n2 c2 : Nat) (L2 : List OpD) (W : World) (h : (Gx.SlV.mk A n c).Ok L.length ∧ (∀ y ∈ L, y.e.Bd) ∧ Gx.Rd1 W (Gx.sl A 5 Tw.CE L)) (h2 : (Gx.SlV.mk A2 n2 c2).Ok L2.length ∧ (∀ y ∈ L2, y.e.Bd) ∧ Gx.Rd1 W (Gx.sl A2 5 Tw.CE L2)) :
 Calls Tryz.prog 4 #[.slice A n c, .slice A2 n2 c2] W fun e W' => e = .returned (.bool true) ∧ Below W.heap.size W W' := zok A n c L A2 n2 c2 L2 W h.1 h.2.1 h.2.2 h2.1 h2.2.1 h2.2.2
set_option maxRecDepth 100000 in
theorem lifted (os : Os) (started : os.Started) (H : Type) (enc : TypeId × Value → H) :
 ReturnsInHanded {} Tryz.checked os 4 .any (Rows.storeBackSpec.pre6 enc Tryz.prog Tryz.f4 Rows.storeBackRow.domain false) (Rows.storeBackSpec.post enc Tryz.prog Tryz.f4 false true false false) := by
 refine returnsInHanded_of_change (C := Tryz.checked) own started (by kernel_rfl) Tryz.func4
  (ChangeSpec.witness6 (enc := enc) (C := Tryz.checked) false ⟨#[], #[.slice none 0 0, .slice none 0 0], []⟩ 12 (by kernel_rfl) (by kernel_rfl) (by kernel_rfl) (by kernel_rfl)) ?_
 intro W base args ds gs before hval0 hW hcnd _
 have hval : ∀ (j : Nat) t v, Tryz.f4.params[j]? = some t → args[j]? = some v → Value.okWide Tryz.prog W .any base t v := hval0
 have hW' := hW
 obtain ⟨p, q, hA0, hV, rfl, hfz, hnd⟩ := hW
 have hA : DataW.TrodAll enc Tryz.prog W 0 (fun _ => true) true Tryz.f4.params.toList args.toList ds p := hA0
 rw [Tryz.params4] at hA hval
 obtain ⟨v0, vs0, d0, ds0, p0, q0, hargs, rfl, rfl, h0, r0⟩ := trodAll_cons hA
 obtain ⟨v1, vs1, d1, ds1, p1, q1, rfl, rfl, rfl, h1, r1⟩ := trodAll_cons r0
 obtain ⟨rfl, rfl, rfl⟩ := trodAll_nil r1
 obtain rfl : args = #[v0, v1] := by cases args; simp_all
 obtain ⟨rfl, rfl⟩ := trodVars_none hV
 have ltk0 : ∀ x ∈ p0, x.block < W.heap.size := by obtain ⟨m, hm⟩ := h0; exact DataW.trod_lt m _ _ _ hm
 have rdk0 := h0
 have ltk1 : ∀ x ∈ p1, x.block < W.heap.size := by obtain ⟨m, hm⟩ := h1; exact DataW.trod_lt m _ _ _ hm
 have rdk1 := h1
 obtain ⟨A0, n0, c0, L0, rfl, w0⟩ := zk6 (hval 0 52 v0 rfl rfl) h0
 obtain ⟨A21, n21, c21, L21, rfl, w1⟩ := zk6 (hval 1 52 v1 rfl rfl) h1
 clear hA0 hval0
 refine (walk A0 n0 c0 L0 A21 n21 c21 L21 W w0 w1).mono fun e W' ⟨he, bel⟩ => ?_
 subst he
 exact ⟨_, rfl, _, _, _, [], _, [], hW', trodAll_mk1 (shut_bool Tryz.underlying4 _), (trodAll_cons_mk (Below.trod laidOut (by kernel_rfl) (of_decide_eq_true (by kernel_rfl)) rdk0 bel ltk0) (trodAll_cons_mk (Below.trod laidOut (by kernel_rfl) (of_decide_eq_true (by kernel_rfl)) rdk1 bel ltk1) trodAll_mk0)), rfl, bel.frame _, fun h => by cases h⟩
theorem over : Rows.storeBackRow.holds Tryz.pinned (OpenSpec.ofChange Rows.storeBackSpec) :=
 OpenClaim.holds_of_wide 4 Tryz.f4 rfl rfl rfl rfl rfl rfl rfl ⟨rfl, rfl, rfl, rfl, rfl⟩ rfl rfl rfl rfl rfl (by kernel_rfl) Tryz.func4 (by kernel_rfl)
  (of_decide_eq_true (by kernel_rfl)) (by unfold Func.isWrapper; first | (rw [if_pos (by decide +kernel)]; kernel_rfl) | (rw [if_neg (by decide +kernel)]; exact ⟨rfl, rfl⟩))
  (fun os started H enc _ => lifted os started H enc)
theorem proved : Rows.StoreBackSaid := over
#print axioms proved
end Go.Proofs.YtaghmffgoomebaaGreat.storeBack
