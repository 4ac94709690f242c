/- Catalogs: their data, their facts; a catalog as an argument. -/
import Derived.Test.YtgpfedmfbkhhcaaGxP
import Derived.Test.YtgpfedmfbkhhcaaFlat3
namespace Go.Proofs.Ytgpfedmfbkhhcaa.Ct
open Go.RowKit Mem Gx
open Go.ChangeShapes Go.WideShapes Go.Deep
set_option linter.unusedVariables false
set_option linter.unusedSimpArgs false
set_option maxRecDepth 100000
set_option maxHeartbeats 4000000
theorem own_slT {E : List Nat} {w0 w : World} {O R : List Fact} {α : Type} [Inhabited α] {base e sz n c : Nat} {A : Option Addr} {enc : α → Nat → Value} {L : List α} (hk : Kn E w0 w O R) (h : own base e sz (.slice A n c) enc L ∈ O) : Sl w A sz enc L := by
  obtain ⟨A', c', hv, hs, _⟩ := hk.ownSl h
  injection hv with h1 h2 h3
  subst h1
  exact hs
theorem rd_sl {α : Type} [Inhabited α] {w : World} {A : Option Addr} {sz : Nat} {enc : α → Nat → Value} {L : List α} (h : Sl w A sz enc L) (hsz : 0 < sz) : Rd1 w (sl A sz enc L) := by
  refine ⟨h, fun b hb => ?_⟩
  obtain ⟨hn, a, ha, hab⟩ := hb
  obtain ⟨b', off, e1, hc⟩ := h hn
  rw [e1] at ha
  injection ha with ha
  rw [← hab, ← ha]
  have := lt_of_cell (hc 0 hn 0 hsz)
  exact this
structure MarkD where
  s : Int
  n : Int
structure VolD where
  id : Int
  q : Int
  s : SlV
  L : List MarkD
structure GrpD where
  id : Int
  s : SlV
  L : List Int
structure BokD where
  id : Int
  q : Int
  s : SlV
  L : List Int
instance : Inhabited MarkD := ⟨⟨0, 0⟩⟩
instance : Inhabited VolD := ⟨⟨0, 0, ⟨none, 0, 0⟩, []⟩⟩
instance : Inhabited GrpD := ⟨⟨0, ⟨none, 0, 0⟩, []⟩⟩
instance : Inhabited BokD := ⟨⟨0, 0, ⟨none, 0, 0⟩, []⟩⟩
def ME : MarkD → Nat → Value
  | x, 0 => .int .u64 x.s
  | x, _ + 1 => .int .u64 x.n
def VE : VolD → Nat → Value
  | x, 0 => .int .i64 x.id
  | x, 1 => .int .u64 x.q
  | x, _ + 2 => .slice x.s.A x.s.n x.s.c
def GE : GrpD → Nat → Value
  | x, 0 => .int .i64 x.id
  | x, _ + 1 => .slice x.s.A x.s.n x.s.c
def BE : BokD → Nat → Value
  | x, 0 => .int .i64 x.id
  | x, 1 => .int .u64 x.q
  | x, _ + 2 => .slice x.s.A x.s.n x.s.c
/-- A catalog: its numbers, its slices, what they hold. -/
structure CatD where
  nv : Int
  ng : Int
  nb : Int
  fl : Int
  v : SlV
  V : List VolD
  g : SlV
  G : List GrpD
  b : SlV
  B : List BokD
  k : SlV
  K : List Int
  t : SlV
  T : List MarkD
abbrev CatD.val (c : CatD) : Value := .agg #[.int .i64 c.nv, .int .i64 c.ng, .int .i64 c.nb, .int .u64 c.fl, .slice c.v.A c.v.n c.v.c, .slice c.g.A c.g.n c.g.c, .slice c.b.A c.b.n c.b.c, .slice c.k.A c.k.n c.k.c, .slice c.t.A c.t.n c.t.c]
abbrev VolD.f (x : VolD) : Fact := sl x.s.A 2 ME x.L
abbrev GrpD.f (x : GrpD) : Fact := sl x.s.A 1 (IE .i64) x.L
abbrev BokD.f (x : BokD) : Fact := sl x.s.A 1 (IE .i64) x.L
def CatD.fs (c : CatD) : List Fact := [sl c.v.A 3 VE c.V, allF c.V VolD.f, sl c.g.A 2 GE c.G, allF c.G GrpD.f, sl c.b.A 3 BE c.B, allF c.B BokD.f, sl c.k.A 1 (IE .u64) c.K, sl c.t.A 2 ME c.T]
/-- All that may be read of a catalog, as one fact. -/
def catF (c : CatD) : Fact := allF c.fs id
theorem cat_part {c : CatD} {φ : Fact} (h : φ ∈ c.fs) : Der [catF c] φ := Der.elem (F := id) (Der.mem (.head _)) h
/-- Numbers of the slices. -/
structure CatD.Ok (c : CatD) : Prop where
  v : c.v.Ok c.V.length
  g : c.g.Ok c.G.length
  b : c.b.Ok c.B.length
  k : c.k.Ok c.K.length
  t : c.t.Ok c.T.length
  V : ∀ x, x ∈ c.V → x.s.Ok x.L.length
  G : ∀ x, x ∈ c.G → x.s.Ok x.L.length
  B : ∀ x, x ∈ c.B → x.s.Ok x.L.length
  m : ∀ x, x ∈ c.V → ∀ y, y ∈ x.L → 0 ≤ y.n
  nv : -9223372036854775808 ≤ c.nv ∧ c.nv ≤ 9223372036854775807
  ng : -9223372036854775808 ≤ c.ng ∧ c.ng ≤ 9223372036854775807
  nb : -9223372036854775808 ≤ c.nb ∧ c.nb ≤ 9223372036854775807
/-- What a catalog says. -/
structure CatP where
  nv : Int
  ng : Int
  nb : Int
  fl : Int
  V : List (Int × Int × List MarkD)
  G : List (Int × List Int)
  B : List (Int × Int × List Int)
  K : List Int
  T : List MarkD
abbrev VolD.d (x : VolD) : Int × Int × List MarkD := (x.id, x.q, x.L)
abbrev GrpD.d (x : GrpD) : Int × List Int := (x.id, x.L)
abbrev BokD.d (x : BokD) : Int × Int × List Int := (x.id, x.q, x.L)
def CatD.p (c : CatD) : CatP := ⟨c.nv, c.ng, c.nb, c.fl, c.V.map VolD.d, c.G.map GrpD.d, c.B.map BokD.d, c.K, c.T⟩
section
variable {H : Type} {enc : TypeId × Value → H} {W : World}
theorem mark_leaves {V : Nat → Value} {l : List TypeId} (hl : l = [31, 31]) (hV : ∀ (j : Nat) (tj : TypeId), l[j]? = some tj → Leaf enc Try.prog W tj (V j)) : ∃ y : MarkD, (∀ j, j < 2 → V j = ME y j) ∧ 0 ≤ y.n := by
  subst hl
  obtain ⟨a, e, _⟩ := leaf_int Try.underlying31 (hV 0 _ rfl)
  obtain ⟨b, e1, w1⟩ := leaf_int Try.underlying31 (hV 1 _ rfl)
  refine ⟨⟨a, b⟩, fun j hj => ?_, (u64_bd w1).1⟩
  match j, hj with
  | 0, _ => exact e
  | 1, _ => exact e1
theorem marks_of {v : Value} (h : Leaf enc Try.prog W 65 v) : ∃ (A : Option Addr) (n c : Nat) (L : List MarkD), v = .slice A n c ∧ (SlV.mk A n c).Ok L.length ∧ Sl W A 2 ME L ∧ ∀ y, y ∈ L → 0 ≤ y.n := by
  have hl : leaves Try.prog 8 103 = some [31, 31] := by decide +kernel
  obtain ⟨A, n, c, F, rfl, hA, h1, h2, h3, h4⟩ := leaf_slice Try.underlying65 hl (by kernel_rfl) (by decide) h
  obtain ⟨L, hn, hs, hb⟩ := arr_list (enc := ME) (Q := fun y => 0 ≤ y.n) hA (fun i hi => mark_leaves rfl (h4 i hi))
  exact ⟨A, n, c, L, rfl, ⟨hn, h1, h2, fun h => (h3 h).2⟩, hs, hb⟩
theorem ints_of {v : Value} (h : Leaf enc Try.prog W 36 v) : ∃ (A : Option Addr) (n c : Nat) (L : List Int), v = .slice A n c ∧ (SlV.mk A n c).Ok L.length ∧ Sl W A 1 (IE .i64) L := by
  obtain ⟨A, n, c, L, rfl, k1, k2, k3, k4, k5, _⟩ := leaf_ints Try.underlying36 Try.underlying3 (by kernel_rfl) h
  exact ⟨A, n, c, L, rfl, ⟨k1, k3, k4, k5⟩, k2⟩
theorem u64s_of {v : Value} (h : Leaf enc Try.prog W 64 v) : ∃ (A : Option Addr) (n c : Nat) (L : List Int), v = .slice A n c ∧ (SlV.mk A n c).Ok L.length ∧ Sl W A 1 (IE .u64) L := by
  obtain ⟨A, n, c, L, rfl, k1, k2, k3, k4, k5, _⟩ := leaf_ints Try.underlying64 Try.underlying31 (by kernel_rfl) h
  exact ⟨A, n, c, L, rfl, ⟨k1, k3, k4, k5⟩, k2⟩
theorem vol_leaves {V : Nat → Value} {l : List TypeId} (hl : l = [3, 31, 65]) (hV : ∀ (j : Nat) (tj : TypeId), l[j]? = some tj → Leaf enc Try.prog W tj (V j)) : ∃ y : VolD, (∀ j, j < 3 → V j = VE y j) ∧ ((y.s.Ok y.L.length ∧ ∀ z, z ∈ y.L → 0 ≤ z.n) ∧ Sl W y.s.A 2 ME y.L) := by
  subst hl
  obtain ⟨a, e, _⟩ := leaf_int Try.underlying3 (hV 0 _ rfl)
  obtain ⟨b, e1, _⟩ := leaf_int Try.underlying31 (hV 1 _ rfl)
  obtain ⟨A, n, c, L, e2, h1, h2, h3⟩ := marks_of (hV 2 _ rfl)
  refine ⟨⟨a, b, ⟨A, n, c⟩, L⟩, fun j hj => ?_, ⟨h1, h3⟩, h2⟩
  match j, hj with
  | 0, _ => exact e
  | 1, _ => exact e1
  | 2, _ => exact e2
theorem grp_leaves {V : Nat → Value} {l : List TypeId} (hl : l = [3, 36]) (hV : ∀ (j : Nat) (tj : TypeId), l[j]? = some tj → Leaf enc Try.prog W tj (V j)) : ∃ y : GrpD, (∀ j, j < 2 → V j = GE y j) ∧ (y.s.Ok y.L.length ∧ Sl W y.s.A 1 (IE .i64) y.L) := by
  subst hl
  obtain ⟨a, e, _⟩ := leaf_int Try.underlying3 (hV 0 _ rfl)
  obtain ⟨A, n, c, L, e2, h1, h2⟩ := ints_of (hV 1 _ rfl)
  refine ⟨⟨a, ⟨A, n, c⟩, L⟩, fun j hj => ?_, h1, h2⟩
  match j, hj with
  | 0, _ => exact e
  | 1, _ => exact e2
theorem bok_leaves {V : Nat → Value} {l : List TypeId} (hl : l = [3, 31, 36]) (hV : ∀ (j : Nat) (tj : TypeId), l[j]? = some tj → Leaf enc Try.prog W tj (V j)) : ∃ y : BokD, (∀ j, j < 3 → V j = BE y j) ∧ (y.s.Ok y.L.length ∧ Sl W y.s.A 1 (IE .i64) y.L) := by
  subst hl
  obtain ⟨a, e, _⟩ := leaf_int Try.underlying3 (hV 0 _ rfl)
  obtain ⟨b, e1, _⟩ := leaf_int Try.underlying31 (hV 1 _ rfl)
  obtain ⟨A, n, c, L, e2, h1, h2⟩ := ints_of (hV 2 _ rfl)
  refine ⟨⟨a, b, ⟨A, n, c⟩, L⟩, fun j hj => ?_, h1, h2⟩
  match j, hj with
  | 0, _ => exact e
  | 1, _ => exact e1
  | 2, _ => exact e2
theorem vols_of {v : Value} (h : Leaf enc Try.prog W 61 v) : ∃ (A : Option Addr) (n c : Nat) (L : List VolD), v = .slice A n c ∧ (SlV.mk A n c).Ok L.length ∧ Sl W A 3 VE L ∧ ∀ x, x ∈ L → (x.s.Ok x.L.length ∧ ∀ z, z ∈ x.L → 0 ≤ z.n) ∧ Sl W x.s.A 2 ME x.L := by
  have hl : leaves Try.prog 8 99 = some [3, 31, 65] := by decide +kernel
  obtain ⟨A, n, c, F, rfl, hA, h1, h2, h3, h4⟩ := leaf_slice Try.underlying61 hl (by kernel_rfl) (by decide) h
  obtain ⟨L, hn, hs, hb⟩ := arr_list (enc := VE) hA (fun i hi => vol_leaves rfl (h4 i hi))
  exact ⟨A, n, c, L, rfl, ⟨hn, h1, h2, fun h => (h3 h).2⟩, hs, hb⟩
theorem grps_of {v : Value} (h : Leaf enc Try.prog W 62 v) : ∃ (A : Option Addr) (n c : Nat) (L : List GrpD), v = .slice A n c ∧ (SlV.mk A n c).Ok L.length ∧ Sl W A 2 GE L ∧ ∀ x, x ∈ L → x.s.Ok x.L.length ∧ Sl W x.s.A 1 (IE .i64) x.L := by
  have hl : leaves Try.prog 8 101 = some [3, 36] := by decide +kernel
  obtain ⟨A, n, c, F, rfl, hA, h1, h2, h3, h4⟩ := leaf_slice Try.underlying62 hl (by kernel_rfl) (by decide) h
  obtain ⟨L, hn, hs, hb⟩ := arr_list (enc := GE) hA (fun i hi => grp_leaves rfl (h4 i hi))
  exact ⟨A, n, c, L, rfl, ⟨hn, h1, h2, fun h => (h3 h).2⟩, hs, hb⟩
theorem boks_of {v : Value} (h : Leaf enc Try.prog W 63 v) : ∃ (A : Option Addr) (n c : Nat) (L : List BokD), v = .slice A n c ∧ (SlV.mk A n c).Ok L.length ∧ Sl W A 3 BE L ∧ ∀ x, x ∈ L → x.s.Ok x.L.length ∧ Sl W x.s.A 1 (IE .i64) x.L := by
  have hl : leaves Try.prog 8 81 = some [3, 31, 36] := by decide +kernel
  obtain ⟨A, n, c, F, rfl, hA, h1, h2, h3, h4⟩ := leaf_slice Try.underlying63 hl (by kernel_rfl) (by decide) h
  obtain ⟨L, hn, hs, hb⟩ := arr_list (enc := BE) hA (fun i hi => bok_leaves rfl (h4 i hi))
  exact ⟨A, n, c, L, rfl, ⟨hn, h1, h2, fun h => (h3 h).2⟩, hs, hb⟩
theorem i64_of {x : Int} (h : (Lit.int .i64 x).wf = true) : -9223372036854775808 ≤ x ∧ x ≤ 9223372036854775807 := by
  simp [Lit.wf, IntKind.min, IntKind.max, IntKind.signed, IntKind.bits] at h
  omega
/-- A catalog that is handed in. -/
theorem cat_of {base : Nat} {v : Value} {d : DataW H} {p : List MemPlace} (hv : Value.okWide Try.prog W .any base 67 v) (h : DataW.Trod enc Try.prog W 0 (fun _ => true) true 67 v d p) : ∃ c : CatD, v = c.val ∧ c.Ok ∧ Rd1 W (catF c) := by
  have hl : leaves Try.prog 8 67 = some [3, 3, 3, 31, 61, 62, 63, 64, 65] := by decide +kernel
  obtain ⟨V, rfl, hV⟩ := open_flat hl (by kernel_rfl) (by kernel_rfl) hv h
  obtain ⟨a0, e0, w0⟩ := leaf_int Try.underlying3 (hV 0 _ rfl)
  obtain ⟨a1, e1, w1⟩ := leaf_int Try.underlying3 (hV 1 _ rfl)
  obtain ⟨a2, e2, w2⟩ := leaf_int Try.underlying3 (hV 2 _ rfl)
  obtain ⟨a3, e3, w3⟩ := leaf_int Try.underlying31 (hV 3 _ rfl)
  obtain ⟨A4, n4, c4, L4, e4, k4, s4, q4⟩ := vols_of (hV 4 _ rfl)
  obtain ⟨A5, n5, c5, L5, e5, k5, s5, q5⟩ := grps_of (hV 5 _ rfl)
  obtain ⟨A6, n6, c6, L6, e6, k6, s6, q6⟩ := boks_of (hV 6 _ rfl)
  obtain ⟨A7, n7, c7, L7, e7, k7, s7⟩ := u64s_of (hV 7 _ rfl)
  obtain ⟨A8, n8, c8, L8, e8, k8, s8, _⟩ := marks_of (hV 8 _ rfl)
  refine ⟨⟨a0, a1, a2, a3, ⟨A4, n4, c4⟩, L4, ⟨A5, n5, c5⟩, L5, ⟨A6, n6, c6⟩, L6, ⟨A7, n7, c7⟩, L7, ⟨A8, n8, c8⟩, L8⟩, ?_, ⟨k4, k5, k6, k7, k8, fun x hx => (q4 x hx).1.1, fun x hx => (q5 x hx).1, fun x hx => (q6 x hx).1, fun x hx => (q4 x hx).1.2, i64_of w0, i64_of w1, i64_of w2⟩, ?_⟩
  · have e' : (List.range 9).map V = [V 0, V 1, V 2, V 3, V 4, V 5, V 6, V 7, V 8] := rfl
    show Value.agg ((List.range 9).map V).toArray = _
    rw [e', e0, e1, e2, e3, e4, e5, e6, e7, e8]
  · refine Rd1.all fun φ hφ => ?_
    rcases List.mem_cons.1 hφ with rfl | hφ
    · exact rd_sl s4 (by decide)
    rcases List.mem_cons.1 hφ with rfl | hφ
    · exact Rd1.all fun x hx => rd_sl (q4 x hx).2 (by decide)
    rcases List.mem_cons.1 hφ with rfl | hφ
    · exact rd_sl s5 (by decide)
    rcases List.mem_cons.1 hφ with rfl | hφ
    · exact Rd1.all fun x hx => rd_sl (q5 x hx).2 (by decide)
    rcases List.mem_cons.1 hφ with rfl | hφ
    · exact rd_sl s6 (by decide)
    rcases List.mem_cons.1 hφ with rfl | hφ
    · exact Rd1.all fun x hx => rd_sl (q6 x hx).2 (by decide)
    rcases List.mem_cons.1 hφ with rfl | hφ
    · exact rd_sl s7 (by decide)
    rcases List.mem_cons.1 hφ with rfl | hφ
    · exact rd_sl s8 (by decide)
    · cases hφ
end
end Go.Proofs.Ytgpfedmfbkhhcaa.Ct

