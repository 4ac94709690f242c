/- The statement StoreLoads: for every input the law returns true, and every argument reads as before. Lifted from the walk. -/
import Derived.Test.YtaghmffgoomebaaGreatRows
import Derived.WalkKit
import Derived.ProofKit
import Derived.OpenShut
import Derived.ShutString
import Derived.ChangeOld
import Derived.Below
import Derived.JoinedCond
import Derived.Test.YtaghmffgoomebaaGreatFlat3
import Derived.Test.YtaghmffgoomebaaGreatStL
namespace Go.Proofs.YtaghmffgoomebaaGreat.storeLoads
open Go.ChangeShapes Go.WideShapes Go.ChangeAt Go.RowKit
open Go.ChangeMaps (open_string shut_string)
set_option linter.unusedVariables false

theorem own : ownKnob Tryz.prog.godebug = none := by kernel_rfl
theorem laidOut : laidOutB Tryz.prog = true := by kernel_rfl
open Mem St Nd Gx Bytes
theorem rd_slS {α : Type} [Inhabited α] {w : World} {A : Option Addr} {sz : Nat} {enc : α → Nat → Value} {L : List α} (h : Sl w A sz enc L) (hsz : 0 < sz) : Gx.Rd1 w (Gx.sl A sz enc L) := by
  refine ⟨h, fun b hb => ?_⟩
  obtain ⟨hn, a, ha, hab⟩ := hb
  obtain ⟨b', off, e1, hc⟩ := h hn
  rw [e1] at ha
  injection ha with ha
  rw [← hab, ← ha]
  have := lt_of_cell (hc 0 hn 0 hsz)
  exact this
set_option maxRecDepth 100000 in
theorem bytes_of' {H : Type} {enc : TypeId × Value → H} {W : World} {base : Nat} {v : Value} {d : DataW H} {p : List MemPlace} (hv : Value.okWide Tryz.prog W .any base 23 v) (h : DataW.Trod enc Tryz.prog W 0 (fun _ => true) true 23 v d p) :
    ∃ (A : Option Addr) (n c : Nat) (L : List Int), v = .slice A n c ∧ ((Gx.SlV.mk A n c).Ok L.length ∧ Bytes.IsB L ∧ Gx.Rd1 W (Gx.sl A 1 (Mem.IE .u8) L)) := by
  obtain ⟨A, n, c, L, rfl, h1, h2, h3, h4, h5, h6⟩ := open_list Tryz.underlying23 Tryz.underlying5 (by kernel_rfl) hv h
  refine ⟨A, n, c, L, rfl, ⟨h1, h3, h4, fun h => (h5 h).2⟩, fun x hx => ?_, rd_slS h2 (by decide)⟩
  have := h6 x hx
  simp [Lit.wf, IntKind.min, IntKind.max, IntKind.signed, IntKind.bits] at this
  omega
theorem i_bd {k : IntKind} {x : Int} (h : (Lit.int k x).wf = true) : k.min ≤ x ∧ x ≤ k.max := by simpa [Lit.wf] using h
theorem ent_leaves {H : Type} {enc : TypeId × Value → H} {W : World} {V : Nat → Value} {l : List TypeId} (hl : l = [25, 26, 27, 26]) (hV : ∀ (j : Nat) (tj : TypeId), l[j]? = some tj → Leaf enc Tryz.prog W tj (V j)) :
    ∃ y : EntD, (∀ j, j < 4 → V j = EE y j) ∧ y.Bd := by
  subst hl
  obtain ⟨a0, e0, w0⟩ := leaf_int Tryz.underlying25 (hV 0 _ rfl)
  obtain ⟨a1, e1, w1⟩ := leaf_int Tryz.underlying26 (hV 1 _ rfl)
  obtain ⟨a2, e2, w2⟩ := leaf_int Tryz.underlying27 (hV 2 _ rfl)
  obtain ⟨a3, e3, w3⟩ := leaf_int Tryz.underlying26 (hV 3 _ rfl)
  simp [Lit.wf, IntKind.min, IntKind.max, IntKind.signed, IntKind.bits] at w0 w1 w2 w3
  refine ⟨⟨⟨a0, a1, a2⟩, a3⟩, fun j hj => ?_, ⟨⟨⟨w0.1, by dsimp only; omega⟩, ⟨w1.1, by dsimp only; omega⟩, ⟨w2.1, by dsimp only; omega⟩⟩, ⟨w3.1, by dsimp only; omega⟩⟩⟩
  match j, hj with
  | 0, _ => exact e0
  | 1, _ => exact e1
  | 2, _ => exact e2
  | 3, _ => exact e3
set_option maxRecDepth 100000 in
theorem ents_of' {H : Type} {enc : TypeId × Value → H} {W : World} {base : Nat} {v : Value} {d : DataW H} {p : List MemPlace} (hv : Value.okWide Tryz.prog W .any base 22 v) (h : DataW.Trod enc Tryz.prog W 0 (fun _ => true) true 22 v d p) :
    ∃ (A : Option Addr) (n c : Nat) (L : List EntD), v = .slice A n c ∧ ((Gx.SlV.mk A n c).Ok L.length ∧ (∀ y ∈ L, y.Bd) ∧ Gx.Rd1 W (Gx.sl A 4 Nd.EE L)) := by
  have hl : leaves Tryz.prog 8 31 = some [25, 26, 27, 26] := by decide +kernel
  obtain ⟨A, n, c, F, rfl, hA, h1, h2, h3, h4⟩ := open_slices Tryz.underlying22 hl (by kernel_rfl) (by decide) hv h
  obtain ⟨L, hn, hs, hb⟩ := arr_list (enc := EE) (Q := EntD.Bd) hA (fun i hi => ent_leaves rfl (h4 i hi))
  exact ⟨A, n, c, L, rfl, ⟨hn, h1, h2, fun h => (h3 h).2⟩, hb, rd_slS hs (by decide)⟩
theorem bulk_one {H : Type} (d : DataW H) : 1 ≤ Rows.uptoBulk d := by
  cases d with
  | lit l => cases l <;> simp [Rows.uptoBulk]
  | nil => simp [Rows.uptoBulk]
  | ptr d => simp [Rows.uptoBulk]
  | slice elems spare => simp [Rows.uptoBulk]
  | agg parts => simp [Rows.uptoBulk]
  | iface t d => simp [Rows.uptoBulk]
  | map entries => simp [Rows.uptoBulk]
  | held h => simp [Rows.uptoBulk]
theorem bulk_len {H : Type} : ∀ l : List (DataW H), l.length ≤ Rows.uptoBulkAll l
  | [] => by simp [Rows.uptoBulkAll]
  | x :: r => by
    have h1 := bulk_one x
    have h2 := bulk_len r
    simp only [Rows.uptoBulkAll, List.length_cons]
    omega
/-- A slice is no longer than its bulk. -/
theorem bulk_slice {H : Type} {enc : TypeId × Value → H} {W : World} {t e : TypeId} {A : Option Addr} {n c : Nat} {d : DataW H} {p : List MemPlace} (ht : Tryz.prog.underlying t = some (.slice e)) (h : DataW.Trod enc Tryz.prog W 0 (fun _ => true) true t (.slice A n c) d p) : n ≤ Rows.uptoBulk d := by
  obtain ⟨m, hm⟩ := h
  rcases Go.Deep.open_slice ht hm with ⟨hcs, hx⟩ | ⟨a, len, cap, m', n', D, Pl, hcs, hb, hle, hm', hmm, hx, hi⟩
  · simp [Value.cells] at hcs
    obtain ⟨_, rfl, _⟩ := hcs
    exact Nat.zero_le _
  · simp [Value.cells] at hcs
    obtain ⟨_, rfl, _⟩ := hcs
    injection hx with hx
    rw [hx]
    simp only [Rows.uptoBulk]
    have := bulk_len ((List.range n).map D)
    rw [List.length_map, List.length_range] at this
    omega
theorem walk (A0 : Option Addr) (n0 c0 : Nat) (L0 : List EntD) (A1 : Option Addr) (n1 c1 : Nat) (L1 : List EntD) (A2 : Option Addr) (n2 c2 : Nat) (L2 : List Int) (W : World) (h0 : (Gx.SlV.mk A0 n0 c0).Ok L0.length ∧ (∀ y ∈ L0, y.Bd) ∧ Gx.Rd1 W (Gx.sl A0 4 Nd.EE L0)) (h1 : (Gx.SlV.mk A1 n1 c1).Ok L1.length ∧ (∀ y ∈ L1, y.Bd) ∧ Gx.Rd1 W (Gx.sl A1 4 Nd.EE L1)) (h2 : (Gx.SlV.mk A2 n2 c2).Ok L2.length ∧ Bytes.IsB L2 ∧ Gx.Rd1 W (Gx.sl A2 1 (Mem.IE .u8) L2)) (k0 : n0 ≤ 1048576) (k1 : n1 ≤ 1048576) (k2 : n2 ≤ 1048576) :
    Calls Tryz.prog 3 #[.slice A0 n0 c0, .slice A1 n1 c1, .slice A2 n2 c2] W fun e W' => e = .returned (.bool true) ∧ Below W.heap.size W W' :=
  loads_law A0 A1 A2 n0 c0 n1 c1 n2 c2 L0 L1 L2 W h0.1 h1.1 h2.1 h0.2.1 h1.2.1 h2.2.1 (by have := h0.1.n; dsimp only at this; omega) (by have := h1.1.n; dsimp only at this; omega) h0.2.2 h1.2.2 h2.2.2


set_option maxRecDepth 100000 in
theorem lifted (os : Os) (started : os.Started) (H : Type) (enc : TypeId × Value → H) (F : Stop.Interp) :
    ReturnsInHanded {} Tryz.checked os 3 .any ((Rows.OpenSpec.upto Rows.storeLoadsSpec).pre6 enc Tryz.prog Tryz.f3 Rows.storeLoadsUptoRow.domain false) (((Rows.OpenSpec.upto Rows.storeLoadsSpec).at F).post enc Tryz.prog Tryz.f3 false true false false) := by
  refine returnsInHanded_of_cond (C := Tryz.checked) (s := Rows.OpenSpec.upto Rows.storeLoadsSpec) (k := Rows.uptoSmall) rfl own started (by kernel_rfl) Tryz.func3
    (OpenSpec.witness (enc := enc) (C := Tryz.checked) (s := Rows.OpenSpec.upto Rows.storeLoadsSpec) (k := Rows.uptoSmall) rfl false ⟨#[], #[.slice none 0 0, .slice none 0 0, .slice none 0 0], []⟩ 12 (by kernel_rfl) (by kernel_rfl) (by kernel_rfl)
      (x := ([.nil, .nil, .nil], [], [])) (by kernel_rfl) rfl (by kernel_rfl)) ?_
  intro W base args ds gs before hval0 hW hcnd hk _
  have hval : ∀ (j : Nat) t v, Tryz.f3.params[j]? = some t → args[j]? = some v → Value.okWide Tryz.prog W .any base t v := hval0
  have hW' := hW
  obtain ⟨p, q, hA0, hV, rfl, hfz, hnd⟩ := hW
  have hA : DataW.TrodAll enc Tryz.prog W 0 (fun _ => true) true Tryz.f3.params.toList args.toList ds p := hA0
  rw [Tryz.params3] at hA hval
  obtain ⟨v0, vs0, d0, ds0, p0, q0, hargs, rfl, rfl, h0, r0⟩ := trodAll_cons hA
  obtain ⟨v1, vs1, d1, ds1, p1, q1, rfl, rfl, rfl, h1, r1⟩ := trodAll_cons r0
  obtain ⟨v2, vs2, d2, ds2, p2, q2, rfl, rfl, rfl, h2, r2⟩ := trodAll_cons r1
  obtain ⟨rfl, rfl, rfl⟩ := trodAll_nil r2
  obtain rfl : args = #[v0, v1, v2] := by cases args; simp_all
  obtain ⟨rfl, rfl⟩ := trodVars_none hV
  have ltk0 : ∀ x ∈ p0, x.block < W.heap.size := by obtain ⟨m, hm⟩ := h0; exact DataW.trod_lt m _ _ _ hm
  have rdk0 := h0
  have ltk1 : ∀ x ∈ p1, x.block < W.heap.size := by obtain ⟨m, hm⟩ := h1; exact DataW.trod_lt m _ _ _ hm
  have rdk1 := h1
  have ltk2 : ∀ x ∈ p2, x.block < W.heap.size := by obtain ⟨m, hm⟩ := h2; exact DataW.trod_lt m _ _ _ hm
  have rdk2 := h2
  have hbulk : Rows.uptoBulkAll (_ : List (DataW H)) ≤ 1048576 := of_decide_eq_true hk
  simp only [List.append_nil, Rows.uptoBulkAll] at hbulk
  obtain ⟨A0, n0, c0, L0, rfl, w0⟩ := ents_of' (hval 0 22 v0 rfl rfl) h0
  have hn0 := bulk_slice Tryz.underlying22 h0
  obtain ⟨A1, n1, c1, L1, rfl, w1⟩ := ents_of' (hval 1 22 v1 rfl rfl) h1
  have hn1 := bulk_slice Tryz.underlying22 h1
  obtain ⟨A2, n2, c2, L2, rfl, w2⟩ := bytes_of' (hval 2 23 v2 rfl rfl) h2
  have hn2 := bulk_slice Tryz.underlying23 h2
  clear hA0 hval0
  refine (walk A0 n0 c0 L0 A1 n1 c1 L1 A2 n2 c2 L2 W w0 w1 w2 (by omega) (by omega) (by omega)).mono fun e W' ⟨he, bel⟩ => ?_
  subst he
  exact ⟨_, rfl, _, _, _, [], _, [], hW', trodAll_mk1 (shut_bool Tryz.underlying4 _), (trodAll_cons_mk (Below.trod laidOut (by kernel_rfl) (of_decide_eq_true (by kernel_rfl)) rdk0 bel ltk0) (trodAll_cons_mk (Below.trod laidOut (by kernel_rfl) (of_decide_eq_true (by kernel_rfl)) rdk1 bel ltk1) (trodAll_cons_mk (Below.trod laidOut (by kernel_rfl) (of_decide_eq_true (by kernel_rfl)) rdk2 bel ltk2) trodAll_mk0))), rfl, bel.frame _, fun h => by cases h⟩

theorem over : Rows.storeLoadsUptoRow.holds Tryz.pinned (Rows.OpenSpec.upto Rows.storeLoadsSpec) :=
  OpenClaim.holds_of_cond 3 Tryz.f3 rfl rfl rfl rfl rfl rfl rfl ⟨rfl, rfl, rfl, rfl, rfl⟩ rfl rfl rfl rfl rfl (by kernel_rfl) Tryz.func3 (by kernel_rfl)
    (of_decide_eq_true (by kernel_rfl)) (by unfold Func.isWrapper; first | (rw [if_pos (by decide +kernel)]; kernel_rfl) | (rw [if_neg (by decide +kernel)]; exact ⟨rfl, rfl⟩))
    (fun os started H enc _ F => lifted os started H enc F)

theorem proved : Rows.StoreLoadsUptoSaid := over
#print axioms proved
end Go.Proofs.YtaghmffgoomebaaGreat.storeLoads
