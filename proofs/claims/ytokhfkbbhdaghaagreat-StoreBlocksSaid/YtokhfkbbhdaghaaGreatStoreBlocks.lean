/- The statement StoreBlocks: for every input the law returns true, and every argument reads as before. Lifted from the walk. -/
import Derived.Test.YtokhfkbbhdaghaaGreatRows
import Derived.WalkKit
import Derived.ProofKit
import Derived.OpenShut
import Derived.ShutString
import Derived.ChangeOld
import Derived.Below
import Derived.Test.YtokhfkbbhdaghaaGreatSt2
namespace Go.Proofs.YtokhfkbbhdaghaaGreat.storeBlocks
open Go.ChangeShapes Go.WideShapes Go.ChangeAt Go.RowKit
open Go.ChangeMaps (open_string shut_string)
set_option linter.unusedVariables false

theorem own : ownKnob Tryz.prog.godebug = none := by kernel_rfl
theorem laidOut : laidOutB Tryz.prog = true := by kernel_rfl
open Mem St
theorem rd_slS {α : Type} [Inhabited α] {w : World} {A : Option Addr} {sz : Nat} {enc : α → Nat → Value} {L : List α} (h : Sl w A sz enc L) (hsz : 0 < sz) : Gx.Rd1 w (Gx.sl A sz enc L) := by
  refine ⟨h, fun b hb => ?_⟩
  obtain ⟨hn, a, ha, hab⟩ := hb
  obtain ⟨b', off, e1, hc⟩ := h hn
  rw [e1] at ha
  injection ha with ha
  rw [← hab, ← ha]
  have := lt_of_cell (hc 0 hn 0 hsz)
  exact this
set_option maxRecDepth 100000 in
theorem bytes_of' {H : Type} {enc : TypeId × Value → H} {W : World} {base : Nat} {v : Value} {d : DataW H} {p : List MemPlace} (hv : Value.okWide Tryz.prog W .any base 23 v) (h : DataW.Trod enc Tryz.prog W 0 (fun _ => true) true 23 v d p) :
    ∃ (A : Option Addr) (n c : Nat) (L : List Int), v = .slice A n c ∧ ((Gx.SlV.mk A n c).Ok L.length ∧ Bytes.IsB L ∧ Gx.Rd1 W (Gx.sl A 1 (Mem.IE .u8) L)) := by
  obtain ⟨A, n, c, L, rfl, h1, h2, h3, h4, h5, h6⟩ := open_list Tryz.underlying23 Tryz.underlying5 (by kernel_rfl) hv h
  refine ⟨A, n, c, L, rfl, ⟨h1, h3, h4, fun h => (h5 h).2⟩, fun x hx => ?_, rd_slS h2 (by decide)⟩
  have := h6 x hx
  simp [Lit.wf, IntKind.min, IntKind.max, IntKind.signed, IntKind.bits] at this
  omega
theorem walk (a : Int) (A : Option Addr) (n c : Nat) (L : List Int) (W : World) (ha : (Lit.int .u32 a).wf = true) (h : (Gx.SlV.mk A n c).Ok L.length ∧ Bytes.IsB L ∧ Gx.Rd1 W (Gx.sl A 1 (Mem.IE .u8) L)) :
    Calls Tryz.prog 3 #[.int .u32 a, .slice A n c] W fun e w' => e = .returned (.bool true) ∧ Below W.heap.size W w' := by
  have hb : 0 ≤ a ∧ a ≤ 4294967295 := by
    simp [Lit.wf, IntKind.min, IntKind.max, IntKind.signed, IntKind.bits] at ha
    omega
  obtain ⟨b, rfl⟩ := Int.eq_ofNat_of_zero_le hb.1
  exact blocks_law b A n c L W (by omega) h.1 h.2.1 h.2.2


set_option maxRecDepth 100000 in
theorem lifted (os : Os) (started : os.Started) (H : Type) (enc : TypeId × Value → H) :
    ReturnsInHanded {} Tryz.checked os 3 .any (Rows.storeBlocksSpec.pre6 enc Tryz.prog Tryz.f3 Rows.storeBlocksRow.domain false) (Rows.storeBlocksSpec.post enc Tryz.prog Tryz.f3 false true false false) := by
  refine returnsInHanded_of_change (C := Tryz.checked) own started (by kernel_rfl) Tryz.func3
    (ChangeSpec.witness6 (enc := enc) (C := Tryz.checked) false ⟨#[], #[.int .u32 0, .slice none 0 0], []⟩ 12 (by kernel_rfl) (by kernel_rfl) (by kernel_rfl) (by kernel_rfl)) ?_
  intro W base args ds gs before hval0 hW hcnd _
  have hval : ∀ (j : Nat) t v, Tryz.f3.params[j]? = some t → args[j]? = some v → Value.okWide Tryz.prog W .any base t v := hval0
  have hW' := hW
  obtain ⟨p, q, hA0, hV, rfl, hfz, hnd⟩ := hW
  have hA : DataW.TrodAll enc Tryz.prog W 0 (fun _ => true) true Tryz.f3.params.toList args.toList ds p := hA0
  rw [Tryz.params3] at hA hval
  obtain ⟨v0, vs0, d0, ds0, p0, q0, hargs, rfl, rfl, h0, r0⟩ := trodAll_cons hA
  obtain ⟨v1, vs1, d1, ds1, p1, q1, rfl, rfl, rfl, h1, r1⟩ := trodAll_cons r0
  obtain ⟨rfl, rfl, rfl⟩ := trodAll_nil r1
  obtain rfl : args = #[v0, v1] := by cases args; simp_all
  obtain ⟨rfl, rfl⟩ := trodVars_none hV
  have ltk0 : ∀ x ∈ p0, x.block < W.heap.size := by obtain ⟨m, hm⟩ := h0; exact DataW.trod_lt m _ _ _ hm
  have rdk0 := h0
  have ltk1 : ∀ x ∈ p1, x.block < W.heap.size := by obtain ⟨m, hm⟩ := h1; exact DataW.trod_lt m _ _ _ hm
  have rdk1 := h1
  obtain ⟨a0, rfl, rfl, rfl, w0⟩ := open_int Tryz.underlying22 (hval 0 22 v0 rfl rfl) h0
  obtain ⟨A1, n1, c1, L1, rfl, w1⟩ := bytes_of' (hval 1 23 v1 rfl rfl) h1
  clear hA0 hval0
  refine (walk a0 A1 n1 c1 L1 W w0 w1).mono fun e W' ⟨he, bel⟩ => ?_
  subst he
  exact ⟨_, rfl, _, _, _, [], _, [], hW', trodAll_mk1 (shut_bool Tryz.underlying4 _), (trodAll_cons_mk (Below.trod laidOut (by kernel_rfl) (of_decide_eq_true (by kernel_rfl)) rdk0 bel ltk0) (trodAll_cons_mk (Below.trod laidOut (by kernel_rfl) (of_decide_eq_true (by kernel_rfl)) rdk1 bel ltk1) trodAll_mk0)), rfl, bel.frame _, fun h => by cases h⟩

theorem over : Rows.storeBlocksRow.holds Tryz.pinned (OpenSpec.ofChange Rows.storeBlocksSpec) :=
  OpenClaim.holds_of_wide 3 Tryz.f3 rfl rfl rfl rfl rfl rfl rfl ⟨rfl, rfl, rfl, rfl, rfl⟩ rfl rfl rfl rfl rfl (by kernel_rfl) Tryz.func3 (by kernel_rfl)
    (of_decide_eq_true (by kernel_rfl)) (by unfold Func.isWrapper; first | (rw [if_pos (by decide +kernel)]; kernel_rfl) | (rw [if_neg (by decide +kernel)]; exact ⟨rfl, rfl⟩))
    (fun os started H enc _ => lifted os started H enc)

theorem proved : Rows.StoreBlocksSaid := over
#print axioms proved
end Go.Proofs.YtokhfkbbhdaghaaGreat.storeBlocks
