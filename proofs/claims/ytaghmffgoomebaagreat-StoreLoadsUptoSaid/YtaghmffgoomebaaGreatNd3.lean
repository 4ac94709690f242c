/- The walk by reckoned steps: elements of one's own slices. The walk by reckoned steps: a call that is handed a slice which it makes grow. The walk by reckoned steps: facts of all in a list. The walk by reckoned steps: a block that is shared, cell by cell; what is known of all. The walk by reckoned steps: what is handed back to be read, not to be written any more. The walk by reckoned steps: pointers compared. node.Inner. key.Put; are entries in order. The reference's Put; node.Put of a leaf (under way). halves, Leaves; the chapter's example. -/
import Derived.Test.YtaghmffgoomebaaGreatNd
import Derived.Test.YtaghmffgoomebaaGreatNd2
import Derived.Test.YtaghmffgoomebaaGreatPage7
namespace Go.Proofs.YtaghmffgoomebaaGreat.Gx
open Go.RowKit Mem
set_option linter.unusedVariables false
set_option linter.unusedSimpArgs false
section
variable {X : Cx} {f : Fr} {O R : List Fact} {ks k : List KI} {ops rest : List Oper} {o : Oper} {S : List Fact} {N : Fr → List Fact → List Fact → Prop}
/-- A slice's element, wherever it is known to lie. -/
theorem ys_load_el (hT : TabOk X.P X.T) {ty : Nat} {x : Operand} {g g' o0 off t sz' : Nat} {d : TD} {z : List Value} {v : Value} {α : Type} [Inhabited α] {sz : Nat} {enc : α → Nat → Value} {L : List α} (i : Nat) (y : α) (dd : Nat) (ho : o.op = .load ty x) (hx : look X.n f x = some (.pointer (some ⟨g', off, none⟩)))
    (hg : g' = g) (hoff : off = o0 + i * sz + dd) (hy : L[i]? = some y) (hS : ∀ w, (∀ φ ∈ S, φ.p w) → Sl w (some ⟨g, o0, none⟩) sz enc L) (hty : tfind X.T ty = some ⟨t, d, sz', z⟩) (hv : loadV (agg? d) sz' (encF enc y 0 sz) dd = some v) : Ys X S f o v := fun a w hr h => by
  subst hg
  have hl : i < L.length := by
    rcases Nat.lt_or_ge i L.length with h1 | h1
    · exact h1
    · rw [List.getElem?_eq_none h1] at hy; cases hy
  obtain ⟨b, off', y', e1, hy', _, _, hc⟩ := Sl.at_ (hS w h) i hl
  rw [hy] at hy'
  injection hy' with hy'
  subst hy'
  injection e1 with e1
  injection e1 with e1 e2
  subst e1
  subst e2
  have hty' := tfind_ok hT hty
  have e1 := hty'.1
  simp only at e1
  subst e1
  have := run_loadVar_at hty'.2.d hty'.2.sz w g' (o0 + i * sz) (encF enc y 0 sz) (fun j u hu => by
    obtain ⟨h2, h3⟩ := encF_get enc y sz 0 j u hu
    rw [h3, Nat.zero_add]
    exact hc j h2) hv
  rw [← hoff] at this
  simp [execOp, ho, hr.look hx, Instr.loadAt, Instr.sureAddr, this]
theorem at_own {α : Type} [Inhabited α] {base e sz n c : Nat} {A : Option Addr} {enc : α → Nat → Value} {L : List α} (h : own base e sz (.slice A n c) enc L ∈ S) : ∀ w, (∀ φ ∈ S, φ.p w) → Sl w A sz enc L := fun w hS => by
  obtain ⟨A', c', hv, hs, _⟩ := OwnL.sl (hS _ h : OwnL w base e sz (.slice A n c) enc L)
  injection hv with h1 h2 h3
  subst h1
  exact hs
theorem at_sl {α : Type} [Inhabited α] {sz : Nat} {A : Option Addr} {enc : α → Nat → Value} {L : List α} (h : sl A sz enc L ∈ S) : ∀ w, (∀ φ ∈ S, φ.p w) → Sl w A sz enc L := fun w hS => hS _ h
theorem Ys.ydS {v : Value} (h : Ys X S f o v) (hS : SubF S O R) : Yd X f O R o v := fun a w hr hk => h a w hr (fun φ hφ => by
  rcases hS φ hφ with h | h
  · exact hk.pO _ h
  · exact hk.pR _ h)
theorem g_ownp {α : Type} [Inhabited α] {e base sz : Nat} (v : Value) {enc : α → Nat → Value} {L : List α} {l : List Oper} (hm : own base e sz v enc L ∈ O) (hL : 0 < L.length)
    (hg : ∀ b off c, v = .slice (some ⟨b, off, none⟩) L.length c → L.length ≤ c → c ≤ maxLen → G X ops l k f O R) : G X ops l k f O R := .mk fun a w hr hk => by
  obtain ⟨A, c, e1, hs, h1, h2, h3, _⟩ := OwnL.sl (hk.pO _ hm : OwnL w base e sz v enc L)
  obtain ⟨b, off, e2, _⟩ := hs hL
  subst e2
  exact (hg b off c e1 h1 h2).out a w hr hk
/-- Where one's own slice lies. -/
theorem gk_ownp {α : Type} [Inhabited α] {e base sz : Nat} (v : Value) {enc : α → Nat → Value} {L : List α} (hm : own base e sz v enc L ∈ O) (hL : 0 < L.length)
    (hg : ∀ b off c, v = .slice (some ⟨b, off, none⟩) L.length c → L.length ≤ c → c ≤ maxLen → GK X ks f O R) : GK X ks f O R := .mk fun a w hr hk => by
  obtain ⟨A, c, e1, hs, h1, h2, h3, _⟩ := OwnL.sl (hk.pO _ hm : OwnL w base e sz v enc L)
  obtain ⟨b, off, e2, _⟩ := hs hL
  subst e2
  exact (hg b off c e1 h1 h2).out a w hr hk
theorem join1 {p q : Prop} (r : Later p → q) (g : p) : q := r ⟨g⟩
theorem g_wk {l : List Oper} {f' : Fr} {O' R' : List Fact} (hf : FSub X.n f f') (hO : SelAll O' O) (hR : R' ⊆ R) (hg : G X ops l k f' O' R') : G X ops l k f O R := .mk fun a w hr hk => hg.out a w (hr.sub hf) (hk.sel hO hR)
end
end Go.Proofs.YtaghmffgoomebaaGreat.Gx
namespace Go.Proofs.YtaghmffgoomebaaGreat.Gx
open Go.RowKit Mem
set_option linter.unusedVariables false
set_option linter.unusedSimpArgs false
def ownE (v : Value) : List Nat := match v.ownBlock with | some b => [b] | none => []
theorem ownE_mem {v : Value} {b : Nat} : b ∈ ownE v ↔ v.ownBlock = some b := by
  unfold ownE
  cases h : v.ownBlock with
  | none => simp
  | some c => simp [eq_comm]
theorem Kn.startG {w : World} {α : Type} [Inhabited α] {base e sz : Nat} {v : Value} {enc : α → Nat → Value} {L : List α} (h : OwnL w base e sz v enc L) : Kn (ownE v) w w [own base e sz v enc L] [] where
  os := rfl
  tape := rfl
  output := rfl
  size := Nat.le_refl _
  block _ _ _ := rfl
  ownS φ hφ b hb := by
    obtain rfl := List.mem_singleton.1 hφ
    exact .inr (ownE_mem.2 hb)
  ltO φ hφ b hb := by
    obtain rfl := List.mem_singleton.1 hφ
    exact (OwnL.lt' h b hb).2
  ltR φ hφ := by cases hφ
  pO φ hφ := by
    obtain rfl := List.mem_singleton.1 hφ
    exact h
  pR φ hφ := by cases hφ
  disO := List.pairwise_singleton _ _
  disR _ _ ψ hψ := by cases hψ
theorem Kn.outG {w0 w : World} {O R : List Fact} {α : Type} [Inhabited α] {base e sz : Nat} {v v' : Value} {enc : α → Nat → Value} {L : List α} (h : Kn (ownE v) w0 w O R) (hm : own base e sz v' enc L ∈ O) (hL : 0 < L.length) : OwnL w base e sz v' enc L ∧ Grew w0 w v v' := by
  have ho : OwnL w base e sz v' enc L := h.pO _ hm
  refine ⟨ho, ⟨h.os, h.tape, h.output, h.size, fun i hi hne => h.block i hi (fun hE => hne (ownE_mem.1 hE).symm)⟩, ?_⟩
  obtain ⟨A, c, e1, hs, _⟩ := OwnL.sl ho
  obtain ⟨b, off, e2, _⟩ := hs hL
  subst e2
  have hb : v'.ownBlock = some b := by rw [e1]; rfl
  rcases h.ownS _ hm b hb with h1 | h1
  · exact .inr ⟨b, hb, h1⟩
  · exact .inl (hb.trans (ownE_mem.1 h1).symm)
end Go.Proofs.YtaghmffgoomebaaGreat.Gx
namespace Go.Proofs.YtaghmffgoomebaaGreat.Gx
open Go.RowKit Mem
set_option linter.unusedVariables false
set_option linter.unusedSimpArgs false
/-- What holds of each of a list. -/
def allF {α : Type} (l : List α) (F : α → Fact) : Fact := ⟨fun b => ∃ x, x ∈ l ∧ (F x).S b, fun w => ∀ x, x ∈ l → (F x).p w, fun w w' h hp x hx => (F x).loc w w' (fun b hb => h b ⟨x, hx, hb⟩) (hp x hx)⟩
section
variable {X : Cx} {f : Fr} {O R : List Fact} {ks k : List KI} {ops : List Oper} {E : List Nat} {w0 w : World} {α : Type} {l : List α} {F : α → Fact} {x : α}
theorem Kn.allR (h : Kn E w0 w O R) (hm : allF l F ∈ R) (hx : x ∈ l) : Kn E w0 w O (F x :: R) :=
  h.addR (F x) (h.pR _ hm x hx) (fun b hb => h.ltR _ hm b ⟨x, hx, hb⟩) (fun φ hφ b hS hb => h.disR φ hφ _ hm b hS ⟨x, hx, hb⟩)
theorem gk_allR (hm : allF l F ∈ R) (hx : x ∈ l) (hg : GK X ks f O (F x :: R)) : GK X ks f O R := .mk fun a w hr hk => hg.out a w hr (hk.allR hm hx)
end
end Go.Proofs.YtaghmffgoomebaaGreat.Gx
namespace Go.Proofs.YtaghmffgoomebaaGreat.Gx
open Go.RowKit Mem
set_option linter.unusedVariables false
set_option linter.unusedSimpArgs false
section
variable {X : Cx} {f : Fr} {O R : List Fact} {ks k : List KI} {ops lo : List Oper} {E : List Nat} {w0 w : World} {g : Nat} {cs : List Value} {T : TypeId}
theorem Kn.rowR (h : Kn E w0 w O R) (hm : blk g cs T ∈ R) : Kn E w0 w O (row g 0 cs :: R) := by
  have hb : w.heap[g]? = some (.cells cs.toArray T (0, 0)) := h.pR _ hm
  exact h.addR _ (fun i v hv => by rw [Nat.zero_add, cell_of_row w g i cs.toArray T (0, 0) hb]; simpa using hv) (fun b hb => h.ltR _ hm b hb) (fun φ hφ b hS hb => h.disR φ hφ _ hm b hS hb)
theorem gk_rowR (hm : blk g cs T ∈ R) (hg : GK X ks f O (row g 0 cs :: R)) : GK X ks f O R := .mk fun a w hr hk => hg.out a w hr (hk.rowR hm)
theorem g_rowR (hm : blk g cs T ∈ R) (hg : G X ops lo k f O (row g 0 cs :: R)) : G X ops lo k f O R := .mk fun a w hr hk => hg.out a w hr (hk.rowR hm)
variable {α : Type} {l : List α} {F : α → Fact} {x : α}
/-- What may be read in a world. -/
def Rd1 (w : World) (φ : Fact) : Prop := φ.p w ∧ ∀ b, φ.S b → b < w.heap.size
inductive Rds (w : World) : List Fact → Prop
  | nil : Rds w []
  | cons {φ : Fact} {l : List Fact} (h : Rd1 w φ) (t : Rds w l) : Rds w (φ :: l)
theorem Rds.kn {w : World} {R : List Fact} (h : Rds w R) : Kn [] w w [] R := by
  induction h with
  | nil => exact Kn.start w
  | cons h _ ih => exact ih.addR _ h.1 h.2 (fun φ hφ => by cases hφ)
theorem Rds.mem {w : World} {R : List Fact} {φ : Fact} (h : Rds w R) (hm : φ ∈ R) : Rd1 w φ := by
  induction h with
  | nil => cases hm
  | cons h _ ih =>
    rcases List.mem_cons.1 hm with h1 | h1
    · rw [h1]; exact h
    · exact ih h1
theorem Kn.rO {φ : Fact} (h : Kn E w0 w O R) (hm : φ ∈ O) : Rd1 w φ := ⟨h.pO _ hm, h.ltO _ hm⟩
theorem Kn.rR {φ : Fact} (h : Kn E w0 w O R) (hm : φ ∈ R) : Rd1 w φ := ⟨h.pR _ hm, h.ltR _ hm⟩
theorem Rd1.row (h : Rd1 w (blk g cs T)) : Rd1 w (row g 0 cs) := by
  have hb : w.heap[g]? = some (.cells cs.toArray T (0, 0)) := h.1
  exact ⟨fun i v hv => by rw [Nat.zero_add, cell_of_row w g i cs.toArray T (0, 0) hb]; simpa using hv, h.2⟩
end
end Go.Proofs.YtaghmffgoomebaaGreat.Gx
namespace Go.Proofs.YtaghmffgoomebaaGreat.Gx
open Go.RowKit Mem
set_option linter.unusedVariables false
set_option linter.unusedSimpArgs false
/-- A fact that holds at the end, of blocks that are new, or of what was handed in to be read. -/
def RS1 (w w' : World) (RA : List Fact) (φ : Fact) : Prop := φ.p w' ∧ ∀ b, φ.S b → b < w'.heap.size ∧ (w.heap.size ≤ b ∨ ∃ ψ, ψ ∈ RA ∧ ψ.S b)
inductive RSs (w w' : World) (RA : List Fact) : List Fact → Prop
  | nil : RSs w w' RA []
  | cons {φ : Fact} {l : List Fact} (h : RS1 w w' RA φ) (t : RSs w w' RA l) : RSs w w' RA (φ :: l)
def RetS {σ : Type} (I : σ → Prop) (V : σ → Value) (FF : σ → List Fact) (RA : List Fact) (w : World) (e : Ending) (w' : World) : Prop :=
  ∃ s, I s ∧ e = .returned (V s) ∧ Below w.heap.size w w' ∧ RSs w w' RA (FF s)
theorem RSs.mem {w w' : World} {RA l : List Fact} {φ : Fact} (h : RSs w w' RA l) (hm : φ ∈ l) : RS1 w w' RA φ := by
  induction h with
  | nil => cases hm
  | cons h _ ih =>
    rcases List.mem_cons.1 hm with h1 | h1
    · rw [h1]; exact h
    · exact ih h1
section
variable {X : Cx} {f : Fr} {O R RA : List Fact} {ks k : List KI} {ops lo : List Oper} {E : List Nat} {w0 w w' : World} {o : Oper} {N : Fr → List Fact → List Fact → Prop}
theorem RetS.mk {σ : Type} {I : σ → Prop} {V : σ → Value} {FF : σ → List Fact} {v : Value} (s : σ) (hi : I s) (hv : v = V s) (h : Kn [] w w' O R) (hs : RSs w w' RA (FF s)) : RetS I V FF RA w (.returned v) w' :=
  ⟨s, hi, by rw [hv], h.toBelow, hs⟩
theorem RS1.own {φ : Fact} (h : Kn [] w w' O R) (hm : φ ∈ O) : RS1 w w' RA φ :=
  ⟨h.pO _ hm, fun b hb => ⟨h.ltO _ hm b hb, .inl ((h.ownS _ hm b hb).resolve_right (by simp))⟩⟩
theorem RS1.rd {φ : Fact} (h : Kn [] w w' O R) (hm : φ ∈ R) (hn : ∀ b, φ.S b → w.heap.size ≤ b ∨ ∃ ψ, ψ ∈ RA ∧ ψ.S b) : RS1 w w' RA φ :=
  ⟨h.pR _ hm, fun b hb => ⟨h.ltR _ hm b hb, hn b hb⟩⟩
theorem RS1.all {α : Type} {l : List α} {F : α → Fact} (h : ∀ x, x ∈ l → RS1 w w' RA (F x)) : RS1 w w' RA (allF l F) :=
  ⟨fun x hx => (h x hx).1, fun b ⟨x, hx, hb⟩ => (h x hx).2 b hb⟩
theorem Rd1.all {α : Type} {l : List α} {F : α → Fact} (h : ∀ x, x ∈ l → Rd1 w (F x)) : Rd1 w (allF l F) :=
  ⟨fun x hx => (h x hx).1, fun b ⟨x, hx, hb⟩ => (h x hx).2 b hb⟩
theorem Rd1.open {α : Type} {l : List α} {F : α → Fact} (h : Rd1 w (allF l F)) {x : α} (hx : x ∈ l) : Rd1 w (F x) :=
  ⟨h.1 x hx, fun b hb => h.2 b ⟨x, hx, hb⟩⟩
theorem Rds.open {l : List Fact} (h : Rd1 w (allF l id)) : Rds w l := by
  have : ∀ m : List Fact, (∀ φ, φ ∈ m → Rd1 w φ) → Rds w m := by
    intro m
    induction m with
    | nil => intro _; exact .nil
    | cons x r ih => intro hm; exact .cons (hm x (.head _)) (ih fun φ hφ => hm φ (.tail _ hφ))
  exact this l fun φ hφ => h.open (F := id) hφ
theorem RSs.kn {L : List Fact} (hk : Kn E w0 w O R) (hb : Below w.heap.size w w') (hRA : RA ⊆ R) (h : RSs w w' RA L) : Kn E w0 w' O (L ++ R) := by
  have k1 := hk.below hb
  induction h with
  | nil => exact k1
  | cons h _ ih =>
    exact ih.addR _ h.1 (fun b hb' => (h.2 b hb').1) (fun φ hφ b hS hb' => by
      rcases (h.2 b hb').2 with h1 | ⟨ψ, h1, h2⟩
      · have := hk.ltO φ hφ b hS
        omega
      · exact hk.disR φ hφ ψ (hRA h1) b hS h2)
/-- One more fact of what may be read. -/
theorem gk_lessR (φ : Fact) (ψ : Fact) (hm : ψ ∈ R) (h : ∀ w, ψ.p w → φ.p w) (hS : ∀ b, φ.S b → ψ.S b) (hg : GK X ks f O (φ :: R)) : GK X ks f O R := .mk fun a w hr hk =>
  hg.out a w hr (hk.addR φ (h w (hk.pR ψ hm)) (fun b hb => hk.ltR ψ hm b (hS b hb)) (fun χ hχ b h1 h2 => hk.disR χ hχ ψ hm b h1 (hS b h2)))
theorem g_lessR (φ : Fact) (ψ : Fact) (hm : ψ ∈ R) (h : ∀ w, ψ.p w → φ.p w) (hS : ∀ b, φ.S b → ψ.S b) (hg : G X ops lo k f O (φ :: R)) : G X ops lo k f O R := .mk fun a w hr hk =>
  hg.out a w hr (hk.addR φ (h w (hk.pR ψ hm)) (fun b hb => hk.ltR ψ hm b (hS b hb)) (fun χ hχ b h1 h2 => hk.disR χ hχ ψ hm b h1 (hS b h2)))
end
end Go.Proofs.YtaghmffgoomebaaGreat.Gx
namespace Go.Proofs.YtaghmffgoomebaaGreat.Gx
open Go.RowKit Mem
set_option linter.unusedVariables false
set_option linter.unusedSimpArgs false
end Go.Proofs.YtaghmffgoomebaaGreat.Gx
namespace Go.Proofs.YtaghmffgoomebaaGreat.Nd
open Go.RowKit Mem Gx
set_option linter.unusedVariables false
set_option linter.unusedSimpArgs false
set_option maxRecDepth 100000
set_option maxHeartbeats 4000000
structure IsInner (ds : List NodeD) (d : NodeD) : Prop where
  ok : d.Ok
  leaf : d.leaf = false
  Ks : d.Ks = ds.map (fun x => x.Ks.getD 0 default)
  Vs : d.Vs = []
  Cs : d.Cs = ds.map NodeD.g
  a : d.a = d.a
end Go.Proofs.YtaghmffgoomebaaGreat.Nd
namespace Go.Proofs.YtaghmffgoomebaaGreat.Nd
open Go.RowKit Mem Gx Bytes
set_option linter.unusedVariables false
set_option linter.unusedSimpArgs false
set_option maxRecDepth 100000
set_option maxHeartbeats 4000000
def keyB (k : KeyD) : List Int := le k.v 2 ++ le k.b 4 ++ le k.s 8
theorem keyB_len (k : KeyD) : (keyB k).length = 14 := by simp [keyB, le_length]
theorem kput_any (base : Nat) (v : Value) (L : List Int) (k : KeyD) (w : World) (hk : k.Bd) (h : OwnL w base 5 1 v (IE .u8) L) (hL : L.length ≤ 10000) (hb : base ≤ w.heap.size) :
    Calls Tryz.prog 101 [v, k.val].toArray w fun e w' => ∃ v', e = .returned v' ∧ OwnL w' base 5 1 v' (IE .u8) (L ++ keyB k) ∧ Grew w w' v v' := by
  have k1 := hk.v
  have k2 := hk.b
  have k3 := hk.s
  refine g_enter0 T (ownE v) [own base 5 1 v (IE .u8) L] [] Tryz.func101 rfl Tryz.ntmps101 rfl (Kn.startG h) ?_
  (repeat (refine gG ?_; try intro _))
  refine g_mv rfl ?_; refine mv_call_grow (fun w hk => Fix.put_any base v L k.v 2 2 w rfl (by omega) (by omega) (hk.pO (own base 5 1 v (IE .u8) L) mE) (by omega) (Nat.le_trans hb hk.size)) rfl rfl rfl rfl rfl (by kernel_rfl) uD (fun v1 => ?_)
  (repeat (refine gG ?_; try intro _))
  refine g_mv rfl ?_; refine mv_call_grow (fun w hk => Fix.put_any base v1 (L ++ le k.v 2) k.b 4 4 w rfl (by omega) (by omega) (hk.pO (own base 5 1 v1 (IE .u8) (L ++ le k.v 2)) mE) (by simp only [List.length_append, le_length]; omega) (Nat.le_trans hb hk.size)) rfl rfl rfl rfl rfl (by kernel_rfl) uD (fun v2 => ?_)
  (repeat (refine gG ?_; try intro _))
  refine g_mv rfl ?_; refine mv_call_grow (fun w hk => Fix.put_any base v2 (L ++ le k.v 2 ++ le k.b 4) k.s 8 8 w rfl (by omega) (by omega) (hk.pO (own base 5 1 v2 (IE .u8) (L ++ le k.v 2 ++ le k.b 4)) mE) (by simp only [List.length_append, le_length]; omega) (Nat.le_trans hb hk.size)) rfl rfl rfl rfl rfl (by kernel_rfl) uD (fun v3 => ?_)
  (repeat (refine gG ?_; try intro _))
  refine gk_ret hT rfl rfl (.tmp rfl .nil) (fun w' hk => ?_)
  obtain ⟨h1, h2⟩ := Kn.outG (L := L ++ le k.v 2 ++ le k.b 4 ++ le k.s 8) (base := base) (e := 5) (sz := 1) (enc := IE .u8) (v' := v3) hk mE (by simp only [List.length_append, le_length]; omega)
  refine ⟨v3, rfl, ?_, h2⟩
  have e : L ++ keyB k = L ++ le k.v 2 ++ le k.b 4 ++ le k.s 8 := by unfold keyB; simp only [List.append_assoc]
  rw [e]
  exact h1
/-- Entries whose keys rise. -/
def Asc (L : List EntD) : Prop := ∀ i, 0 < i → i < L.length → klt (L.getD (i - 1) default).k (L.getD i default).k
end Go.Proofs.YtaghmffgoomebaaGreat.Nd
namespace Go.Proofs.YtaghmffgoomebaaGreat.Nd
open Go.RowKit Mem Gx Bytes
set_option linter.unusedVariables false
set_option linter.unusedSimpArgs false
set_option maxRecDepth 100000
set_option maxHeartbeats 4000000
theorem ret_of_own {α : Type} [Inhabited α] {F : Value → Value} {sz : Nat} {enc : α → Nat → Value} {L : List α} {P : Program} {fid : FuncId} {args : Array Value} {w : World} {e' : TypeId} (hsz : 0 < sz) (h : Calls P fid args w fun e w' => ∃ v, e = .returned (F v) ∧ OwnL w' w.heap.size e' sz v enc L ∧ Below w.heap.size w w') :
    Calls P fid args w (Ret (fun s : SlV => s.Ok L.length) (fun s => F s.v) (fun s => [sl s.A sz enc L]) w) :=
  h.mono fun e w' ⟨v, h1, h2, h3⟩ => by
    obtain ⟨A, c, rfl, k1, k2, k3, k4, k5⟩ := OwnL.sl h2
    refine ⟨⟨A, _, c⟩, ⟨rfl, k2, k3, k4⟩, h1, ⟨h3, fun φ hφ => ?_, List.pairwise_singleton _ _⟩⟩
    obtain rfl := List.mem_singleton.1 hφ
    refine ⟨k1, fun b hb => ?_⟩
    obtain ⟨_, a, ha, hab⟩ := hb
    rw [← hab]
    exact k5 a ha
abbrev RetB (F : Value → Value) (L : List Int) (w : World) : Ending → World → Prop := Ret (fun s : SlV => s.Ok L.length) (fun s => F s.v) (fun s => [sl s.A 1 (IE .u8) L]) w
theorem pput_any (k : Int) (s : SlV) (L : List Int) (w : World) (h1 : 1 ≤ k) (h2 : k ≤ 6) (hs : s.Ok L.length) (hL : L.length ≤ 120) (h : Sl w s.A 1 (IE .u8) L) (hB : IsB L) :
    Calls Tryz.prog 102 [.int .i64 k, s.v].toArray w (RetB (fun v => .tuple #[v, .int .i64 0]) (Page.page k L) w) :=
  ret_of_own (by decide) (Page.put_ok k s.A s.n s.c L w h1 h2 hs.n (by rw [hs.n]; exact hL) h hB)
theorem rpput_any (k : Int) (s : SlV) (L : List Int) (w : World) (h1 : 1 ≤ k) (h2 : k ≤ 6) (hs : s.Ok L.length) (hL : L.length ≤ 120) (h : Sl w s.A 1 (IE .u8) L) (hB : IsB L) :
    Calls Tryz.prog 29 [.int .i64 k, s.v].toArray w (RetB (fun v => v) (Page.page k L) w) :=
  ret_of_own (by decide) (Page.rpput_any k s.A s.n s.c L w h1 h2 hs.n (by rw [hs.n]; exact hL) h hB)
/-- The bytes of entries. -/
def entB (e : EntD) : List Int := keyB e.k ++ le e.a 4
def entsB (L : List EntD) : List Int := L.flatMap entB
def nodeB (L : List EntD) : List Int := [(L.length : Int)] ++ entsB L
theorem entB_len (e : EntD) : (entB e).length = 18 := by unfold entB; rw [List.length_append, keyB_len, le_length]
theorem entsB_len (L : List EntD) : (entsB L).length = 18 * L.length := by
  induction L with
  | nil => rfl
  | cons x r ih => show (entB x ++ entsB r).length = _; rw [List.length_append, ih, entB_len, List.length_cons]; omega
theorem nodeB_len (L : List EntD) : (nodeB L).length = 1 + 18 * L.length := by unfold nodeB; rw [List.length_append, entsB_len]; rfl
theorem entsB_snoc {L : List EntD} {j : Nat} {y : EntD} (h : L[j]? = some y) : entsB (L.take (j + 1)) = entsB (L.take j) ++ entB y := by
  have hk : j < L.length := by
    rcases Nat.lt_or_ge j L.length with h1 | h1
    · exact h1
    · rw [List.getElem?_eq_none h1] at h; cases h
  rw [List.take_succ_eq_append_getElem hk]
  rw [List.getElem?_eq_getElem hk] at h
  injection h with h
  unfold entsB
  rw [List.flatMap_append, h]
  simp
theorem entB_isB (e : EntD) : IsB (entB e) := ((((le_isB _ _).append (le_isB _ _)).append (le_isB _ _))).append (le_isB _ _)
theorem entsB_isB (L : List EntD) : IsB (entsB L) := by
  intro x hx
  obtain ⟨y, _, hy⟩ := List.mem_flatMap.1 hx
  exact entB_isB y x hy
theorem nodeB_isB (L : List EntD) (h : L.length ≤ 255) : IsB (nodeB L) := (IsB.cons (by omega) IsB.nil).append (entsB_isB L)
structure EntD.Bd (e : EntD) : Prop where
  k : e.k.Bd
  a : 0 ≤ e.a ∧ e.a < 4294967296
theorem own_sl {E : List Nat} {w0 w : World} {O R : List Fact} {α : Type} [Inhabited α] {base e sz n c : Nat} {A : Option Addr} {enc : α → Nat → Value} {L : List α} (hk : Kn E w0 w O R) (h : own base e sz (.slice A n c) enc L ∈ O) : Sl w A sz enc L := by
  obtain ⟨A', c', hv, hs, _⟩ := hk.ownSl h
  injection hv with h1 h2 h3
  subst h1
  exact hs
theorem rnput_any (A : Option Addr) (n c : Nat) (L : List EntD) (lf : Bool) (w : World) (hn : n = L.length) (h1 : 1 ≤ n) (h6 : n ≤ 6) (hbd : ∀ e ∈ L, e.Bd) (hs : Sl w A 4 EE L) :
    Calls Tryz.prog 10 [.slice A n c, .bool lf].toArray w (RetB (fun v => v) (Page.page (if lf = true then 3 else 4) (nodeB L)) w) := by
  refine g_enter0 T [] [] [sl A 4 EE L] Tryz.func10 rfl Tryz.ntmps10 rfl ((Kn.start w).argR hs (by decide) (fun _ h => by cases h)) ?_
  (repeat (refine gG ?_; try intro _))
  rename_i g2
  refine gk_lit g2 1 (enc := IE .u8) [(n : Int)] rfl (by decide) rfl (by first | ((repeat (first | with_reducible exact Upd.here _ | with_reducible apply Upd.there)); done) | ((repeat (first | exact Upd.here _ | apply Upd.there)); done) | fail) ?_
  refine gk_loop_sel (fun (q : Nat × Value × (List Int)) => match q with | (j, v, M) => j ≤ n ∧ M = [(n : Int)] ++ entsB (L.take j)) (fun (q : Nat × Value × (List Int)) => match q with | (j, v, M) => [(0, .slice A n c), (1, .bool lf), (5, v), (6, .int .i64 j)]) (fun (q : Nat × Value × (List Int)) => match q with | (j, v, M) => [own 0 5 1 v (IE .u8) M]) (fun (q : Nat × Value × (List Int)) => match q with | (j, v, M) => [sl A 4 EE L]) (fun (q : Nat × Value × (List Int)) => match q with | (j, v, M) => n - j) (0, .slice (some ⟨g2, 0, none⟩) 1 1, [(n : Int)]) rfl ⟨Nat.zero_le _, by simp [entsB]⟩ fS sA sS ?_
  rintro ⟨j, v, M⟩ hI
  replace hI : j ≤ n ∧ M = [(n : Int)] ++ entsB (L.take j) := hI
  change GK _ _ [(0, .slice A n c), (1, .bool lf), (5, v), (6, .int .i64 j)] [own 0 5 1 v (IE .u8) M] [sl A 4 EE L]
  obtain ⟨hj, hM⟩ := hI
  have hMl : M.length = 1 + 18 * j := by
    rw [hM, List.length_append, entsB_len, List.length_take, Nat.min_eq_left (by omega)]; rfl
  (repeat (refine gG ?_; try intro _))
  refine gk_cond rfl rfl (tells_tB _) (fun hlt => ?_) (fun hlt => ?_)
  · refine gk_elem (enc := EE) (L := L) j mE (by omega) (by decide) (fun b0 o0 y eA hy => ?_)
    subst eA
    obtain ⟨⟨y1, y2, y3⟩, y4⟩ := hbd y (List.mem_of_getElem? hy)
    (repeat (refine gG ?_; try intro _))
    refine g_ownv v mE (fun A1 c1 hv _ _ _ => ?_)
    subst hv
    refine g_mv rfl ?_; refine mv_call_own (fun w hk => Fix.rput_any A1 _ c1 M y.k.v 2 2 w rfl (by omega) (by omega) (by omega) rfl (own_sl hk mE) (by omega)) rfl rfl rfl rfl rfl (by kernel_rfl) (fun v1 => ?_)
    (repeat (refine gG ?_; try intro _))
    refine g_ownv v1 mE (fun A1 c1 hv _ _ _ => ?_)
    subst hv
    refine g_mv rfl ?_; refine mv_call_own (fun w hk => Fix.rput_any A1 _ c1 (M ++ le y.k.v 2) y.k.b 4 4 w rfl (by omega) (by omega) (by omega) rfl (own_sl hk mE) (by simp only [List.length_append, le_length]; omega)) rfl rfl rfl rfl rfl (by kernel_rfl) (fun v2 => ?_)
    (repeat (refine gG ?_; try intro _))
    refine g_ownv v2 mE (fun A1 c1 hv _ _ _ => ?_)
    subst hv
    refine g_mv rfl ?_; refine mv_call_own (fun w hk => Fix.rput_any A1 _ c1 (M ++ le y.k.v 2 ++ le y.k.b 4) y.k.s 8 8 w rfl (by omega) (by omega) (by omega) rfl (own_sl hk mE) (by simp only [List.length_append, le_length]; omega)) rfl rfl rfl rfl rfl (by kernel_rfl) (fun v3 => ?_)
    (repeat (refine gG ?_; try intro _))
    refine g_ownv v3 mE (fun A1 c1 hv _ _ _ => ?_)
    subst hv
    refine g_mv rfl ?_; refine mv_call_own (fun w hk => Fix.rput_any A1 _ c1 (M ++ le y.k.v 2 ++ le y.k.b 4 ++ le y.k.s 8) y.a 4 4 w rfl (by omega) (by omega) (by omega) rfl (own_sl hk mE) (by simp only [List.length_append, le_length]; omega)) rfl rfl rfl rfl rfl (by kernel_rfl) (fun v4 => ?_)
    (repeat (refine gG ?_; try intro _))
    refine gk_again_sel rfl (j + 1, v4, M ++ le y.k.v 2 ++ le y.k.b 4 ++ le y.k.s 8 ++ le y.a 4) ⟨by omega, ?_⟩ (by dsimp only; omega) fS sA sS
    rw [entsB_snoc hy, hM]
    unfold entB keyB
    simp only [List.append_assoc]
  · have hjn : j = n := by omega
    subst hjn
    have hML : M = nodeB L := by rw [hM, hn, List.take_length]; rfl
    subst hML
    have hB := nodeB_isB L (by omega)
    have hl := nodeB_len L
    cases lf
    · (repeat (refine gG ?_; try intro _))
      refine g_freeze _ uD (fun A1 c1 hA hA1 hA2 hA3 => ?_)
      subst hA
      refine g_mv rfl ?_; refine mv_call_rt (fun w hk => rpput_any 4 ⟨A1, (nodeB L).length, c1⟩ (nodeB L) w (by omega) (by omega) ⟨rfl, hA1, hA2, hA3⟩ (by omega) (hk.pO (sl A1 1 (IE .u8) (nodeB L)) mE) hB) rfl rfl rfl rfl rfl (by kernel_rfl) (fun _ => rfl) (fun u hu => ?_)
      (repeat (refine gG ?_; try intro _))
      refine gk_ret hT rfl rfl (.tmp rfl .nil) (fun w' hk => ?_)
      exact Ret.mk u hu rfl hk sA
    · (repeat (refine gG ?_; try intro _))
      refine g_freeze _ uD (fun A1 c1 hA hA1 hA2 hA3 => ?_)
      subst hA
      refine g_mv rfl ?_; refine mv_call_rt (fun w hk => rpput_any 3 ⟨A1, (nodeB L).length, c1⟩ (nodeB L) w (by omega) (by omega) ⟨rfl, hA1, hA2, hA3⟩ (by omega) (hk.pO (sl A1 1 (IE .u8) (nodeB L)) mE) hB) rfl rfl rfl rfl rfl (by kernel_rfl) (fun _ => rfl) (fun u hu => ?_)
      (repeat (refine gG ?_; try intro _))
      refine gk_ret hT rfl rfl (.tmp rfl .nil) (fun w' hk => ?_)
      exact Ret.mk u hu rfl hk sA
end Go.Proofs.YtaghmffgoomebaaGreat.Nd
namespace Go.Proofs.YtaghmffgoomebaaGreat.Nd
open Go.RowKit Mem Gx
set_option linter.unusedVariables false
set_option linter.unusedSimpArgs false
set_option maxRecDepth 100000
set_option maxHeartbeats 4000000
theorem halvesE_any (A : Option Addr) (n c : Nat) (w : World) (hc : n ≤ c) (h9 : n ≤ 10000) :
    Calls Tryz.prog 92 [.slice A n c].toArray w fun e w' => e = .returned (.tuple #[.slice (shA A 0 c 4) (n / 2) c, .slice (shA A (n / 2) c 4) (n - n / 2) (c - n / 2)]) ∧ Below w.heap.size w w' := by
  refine g_enter0 T [] [] [] Tryz.func92 rfl Tryz.ntmps92 rfl (Kn.start _) ?_
  (repeat (refine gG ?_; try intro _))
  have hd : (n : Int) / 2 = ((n / 2 : Nat) : Int) := by omega
  refine gk_any [] (Cut _ (fun _ : Unit => [(2, .slice (shA A 0 c 4) (n / 2) c), (3, .slice (shA A (n / 2) c 4) (n - n / 2) (c - n / 2))]) (fun _ => []) (fun _ => [])) rfl rfl (by kernel_rfl) ?_ (cut_k fun _ => ?_)
  · skip
    refine gY hT 0 ?_
    refine gY hT 1 ?_
    refine gY hT 2 ?_
    refine gY hT 3 ?_
    refine gb_take 4 rfl (by decide +kernel) rfl rfl (ys_slice_h hT (n / 2) rfl rfl rfl rfl hd (by omega)) sF ?_
    refine gY hT 5 ?_
    refine gY hT 6 ?_
    refine gY hT 7 ?_
    refine gY hT 8 ?_
    refine gb_take 9 rfl (by decide +kernel) rfl rfl (ys_slice_l hT (n / 2) rfl rfl rfl rfl hd (by omega)) sF ?_
    refine gY hT 10 ?_
    refine gY hT 11 ?_
    refine gb_nil (by decide +kernel) ?_
    exact ⟨(), fS, sA, List.nil_subset _⟩
  · (repeat (refine gG ?_; try intro _))
    refine gk_ret hT rfl rfl (.tmp rfl (.tmp rfl .nil)) (fun w' hk => ?_)
    exact ⟨rfl, hk.toBelow⟩
theorem rd_blk {w : World} {g T : Nat} {cs : List Value} (h : w.heap[g]? = some (.cells cs.toArray T (0, 0))) : Rd1 w (blk g cs T) := ⟨h, fun b hb => by
  have : b = g := hb
  subst this
  rcases Nat.lt_or_ge b w.heap.size with h' | h'
  · exact h'
  · rw [Array.getElem?_eq_none h'] at h; cases h⟩
theorem nlen_any (g : Nat) (cs : List Value) (lf : Bool) (K V C : SlV) (a : Int) (w : World) (h : w.heap[g]? = some (.cells [.bool lf, K.v, V.v, C.v, .int .u32 a].toArray 109 (0, 0))) :
    Calls Tryz.prog 44 [.pointer (some ⟨g, 0, none⟩)].toArray w fun e w' => e = .returned (.int .i64 (K.n : Int)) ∧ Below w.heap.size w w' := by
  refine g_enter0 T [] [] [row g 0 [.bool lf, K.v, V.v, C.v, .int .u32 a]] Tryz.func44 rfl Tryz.ntmps44 rfl (Rds.cons (rd_blk (cs := [.bool lf, K.v, V.v, C.v, .int .u32 a]) h).row .nil).kn ?_
  (repeat (refine gG ?_; try intro _))
  refine gk_ret hT rfl rfl (.tmp rfl .nil) (fun w' hk => ?_)
  exact ⟨rfl, hk.toBelow⟩
end Go.Proofs.YtaghmffgoomebaaGreat.Nd
