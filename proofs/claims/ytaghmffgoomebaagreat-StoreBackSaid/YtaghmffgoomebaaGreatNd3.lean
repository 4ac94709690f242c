/- The walk by reckoned steps: elements of one's own slices. The walk by reckoned steps: a call that is handed a slice which it makes grow. The walk by reckoned steps: facts of all in a list. The walk by reckoned steps: a block that is shared, cell by cell; what is known of all. The walk by reckoned steps: what is handed back to be read, not to be written any more. The walk by reckoned steps: pointers compared. halves, Leaves; the chapter's example. -/
import Derived.Test.YtaghmffgoomebaaGreatNd
import Derived.Test.YtaghmffgoomebaaGreatNd2
set_option linter.unusedVariables false
set_option linter.unusedSimpArgs false
namespace Go.Proofs.YtaghmffgoomebaaGreat.Gx
open Go.RowKit Mem
section
variable {X : Cx} {f : Fr} {O R : List Fact} {ks k : List KI} {ops rest : List Oper} {o : Oper} {S : List Fact} {N : Fr → List Fact → List Fact → Prop}
theorem zaG (hT : TabOk X.P X.T) {ty : Nat} {x : Operand} {g g' o0 off t sz' : Nat} {d : TD} {z : List Value} {v : Value} {α : Type} [Inhabited α] {sz : Nat} {enc : α → Nat → Value} {L : List α} (i : Nat) (y : α) (dd : Nat) (ho : o.op = .load ty x) (hx : look X.n f x = some (.pointer (some ⟨g', off, none⟩)))
 (hg : g' = g) (hoff : off = o0 + i * sz + dd) (hy : L[i]? = some y) (hS : ∀ w, (∀ φ ∈ S, φ.p w) → Sl w (some ⟨g, o0, none⟩) sz enc L) (hty : tfind X.T ty = some ⟨t, d, sz', z⟩) (hv : loadV (agg? d) sz' (encF enc y 0 sz) dd = some v) : Ys X S f o v := fun a w hr h => by
 subst hg
 have hl : i < L.length := by
  rcases Nat.lt_or_ge i L.length with h1 | h1
  ·exact h1
  ·rw [List.getElem?_eq_none h1] at hy; cases hy
 obtain ⟨b, off', y', e1, hy', _, _, hc⟩ := Sl.at_ (hS w h) i hl
 rw [hy] at hy'
 injection hy' with hy'
 subst hy'
 injection e1 with e1
 injection e1 with e1 e2
 subst e1
 subst e2
 have hty' := zal hT hty
 have e1 := hty'.1
 simp only at e1
 subst e1
 have := zaS hty'.2.d hty'.2.sz w g' (o0 + i * sz) (encF enc y 0 sz) (fun j u hu => by
  obtain ⟨h2, h3⟩ := zeq enc y sz 0 j u hu
  rw [h3, Nat.zero_add]
  exact hc j h2) hv
 rw [← hoff] at this
 simp [execOp, ho, hr.look hx, Instr.loadAt, Instr.sureAddr, this]
theorem zb6 {α : Type} [Inhabited α] {base e sz n c : Nat} {A : Option Addr} {enc : α → Nat → Value} {L : List α} (h : own base e sz (.slice A n c) enc L ∈ S) : ∀ w, (∀ φ ∈ S, φ.p w) → Sl w A sz enc L := fun w hS => by
 obtain ⟨A', c', hv, hs, _⟩ := OwnL.sl (hS _ h : OwnL w base e sz (.slice A n c) enc L)
 injection hv with h1 h2 h3
 subst h1
 exact hs
theorem at_sl {α : Type} [Inhabited α] {sz : Nat} {A : Option Addr} {enc : α → Nat → Value} {L : List α} (h : sl A sz enc L ∈ S) : ∀ w, (∀ φ ∈ S, φ.p w) → Sl w A sz enc L := fun w hS => hS _ h
theorem Ys.ydS {v : Value} (h : Ys X S f o v) (hS : SubF S O R) : Yd X f O R o v := fun a w hr hk => h a w hr (fun φ hφ => by
 rcases hS φ hφ with h | h
 ·exact hk.pO _ h
 ·exact hk.pR _ h)
theorem g_ownp {α : Type} [Inhabited α] {e base sz : Nat} (v : Value) {enc : α → Nat → Value} {L : List α} {l : List Oper} (hm : own base e sz v enc L ∈ O) (hL : 0 < L.length)
 (hg : ∀ b off c, v = .slice (some ⟨b, off, none⟩) L.length c → L.length ≤ c → c ≤ maxLen → G X ops l k f O R) : G X ops l k f O R := .mk fun a w hr hk => by
 obtain ⟨A, c, e1, hs, h1, h2, h3, _⟩ := OwnL.sl (hk.pO _ hm : OwnL w base e sz v enc L)
 obtain ⟨b, off, e2, _⟩ := hs hL
 subst e2
 exact (hg b off c e1 h1 h2).out a w hr hk
theorem join1 {p q : Prop} (r : Later p → q) (g : p) : q := r ⟨g⟩
theorem g_wk {l : List Oper} {f' : Fr} {O' R' : List Fact} (hf : FSub X.n f f') (hO : SelAll O' O) (hR : R' ⊆ R) (hg : G X ops l k f' O' R') : G X ops l k f O R := .mk fun a w hr hk => hg.out a w (hr.sub hf) (hk.sel hO hR)
end
end Go.Proofs.YtaghmffgoomebaaGreat.Gx
namespace Go.Proofs.YtaghmffgoomebaaGreat.Gx
open Go.RowKit Mem
def ownE (v : Value) : List Nat := match v.ownBlock with | some b => [b] | none => []
theorem zcx {v : Value} {b : Nat} : b ∈ ownE v ↔ v.ownBlock = some b := by
 unfold ownE
 cases h : v.ownBlock with
 | none => simp
 | some c => simp [eq_comm]
theorem Kn.startG {w : World} {α : Type} [Inhabited α] {base e sz : Nat} {v : Value} {enc : α → Nat → Value} {L : List α} (h : OwnL w base e sz v enc L) : Kn (ownE v) w w [own base e sz v enc L] [] where
 os := rfl
 tape := rfl
 output := rfl
 size := Nat.le_refl _
 block _ _ _ := rfl
 ownS φ hφ b hb := by
  obtain rfl := List.mem_singleton.1 hφ
  exact .inr (zcx.2 hb)
 ltO φ hφ b hb := by
  obtain rfl := List.mem_singleton.1 hφ
  exact (OwnL.lt' h b hb).2
 ltR φ hφ := by cases hφ
 pO φ hφ := by
  obtain rfl := List.mem_singleton.1 hφ
  exact h
 pR φ hφ := by cases hφ
 disO := List.pairwise_singleton _ _
 disR _ _ ψ hψ := by cases hψ
theorem Kn.outG {w0 w : World} {O R : List Fact} {α : Type} [Inhabited α] {base e sz : Nat} {v v' : Value} {enc : α → Nat → Value} {L : List α} (h : Kn (ownE v) w0 w O R) (hm : own base e sz v' enc L ∈ O) (hL : 0 < L.length) : OwnL w base e sz v' enc L ∧ Grew w0 w v v' := by
 have ho : OwnL w base e sz v' enc L := h.pO _ hm
 refine ⟨ho, ⟨h.os, h.tape, h.output, h.size, fun i hi hne => h.block i hi (fun hE => hne (zcx.1 hE).symm)⟩, ?_⟩
 obtain ⟨A, c, e1, hs, _⟩ := OwnL.sl ho
 obtain ⟨b, off, e2, _⟩ := hs hL
 subst e2
 have hb : v'.ownBlock = some b := by rw [e1]; rfl
 rcases h.ownS _ hm b hb with h1 | h1
 ·exact .inr ⟨b, hb, h1⟩
 ·exact .inl (hb.trans (zcx.1 h1).symm)
end Go.Proofs.YtaghmffgoomebaaGreat.Gx
namespace Go.Proofs.YtaghmffgoomebaaGreat.Gx
open Go.RowKit Mem
def allF {α : Type} (l : List α) (F : α → Fact) : Fact := ⟨fun b => ∃ x, x ∈ l ∧ (F x).S b, fun w => ∀ x, x ∈ l → (F x).p w, fun w w' h hp x hx => (F x).loc w w' (fun b hb => h b ⟨x, hx, hb⟩) (hp x hx)⟩
section
variable {X : Cx} {f : Fr} {O R : List Fact} {ks k : List KI} {ops : List Oper} {E : List Nat} {w0 w : World} {α : Type} {l : List α} {F : α → Fact} {x : α}
theorem Kn.allR (h : Kn E w0 w O R) (hm : allF l F ∈ R) (hx : x ∈ l) : Kn E w0 w O (F x :: R) :=
 h.addR (F x) (h.pR _ hm x hx) (fun b hb => h.ltR _ hm b ⟨x, hx, hb⟩) (fun φ hφ b hS hb => h.disR φ hφ _ hm b hS ⟨x, hx, hb⟩)
theorem zgs (hm : allF l F ∈ R) (hx : x ∈ l) (hg : GK X ks f O (F x :: R)) : GK X ks f O R := .mk fun a w hr hk => hg.out a w hr (hk.allR hm hx)
end
end Go.Proofs.YtaghmffgoomebaaGreat.Gx
namespace Go.Proofs.YtaghmffgoomebaaGreat.Gx
open Go.RowKit Mem
section
variable {X : Cx} {f : Fr} {O R : List Fact} {ks k : List KI} {ops lo : List Oper} {E : List Nat} {w0 w : World} {g : Nat} {cs : List Value} {T : TypeId}
theorem Kn.rowR (h : Kn E w0 w O R) (hm : blk g cs T ∈ R) : Kn E w0 w O (row g 0 cs :: R) := by
 have hb : w.heap[g]? = some (.cells cs.toArray T (0, 0)) := h.pR _ hm
 exact h.addR _ (fun i v hv => by rw [Nat.zero_add, cell_of_row w g i cs.toArray T (0, 0) hb]; simpa using hv) (fun b hb => h.ltR _ hm b hb) (fun φ hφ b hS hb => h.disR φ hφ _ hm b hS hb)
theorem za9 (hm : blk g cs T ∈ R) (hg : GK X ks f O (row g 0 cs :: R)) : GK X ks f O R := .mk fun a w hr hk => hg.out a w hr (hk.rowR hm)
theorem g_rowR (hm : blk g cs T ∈ R) (hg : G X ops lo k f O (row g 0 cs :: R)) : G X ops lo k f O R := .mk fun a w hr hk => hg.out a w hr (hk.rowR hm)
variable {α : Type} {l : List α} {F : α → Fact} {x : α}
def Rd1 (w : World) (φ : Fact) : Prop := φ.p w ∧ ∀ b, φ.S b → b < w.heap.size
inductive Rds (w : World) : List Fact → Prop
 | nil : Rds w []
 | cons {φ : Fact} {l : List Fact} (h : Rd1 w φ) (t : Rds w l) : Rds w (φ :: l)
theorem Rds.kn {w : World} {R : List Fact} (h : Rds w R) : Kn [] w w [] R := by
 induction h with
 | nil => exact Kn.start w
 | cons h _ ih => exact ih.addR _ h.1 h.2 (fun φ hφ => by cases hφ)
theorem Rds.mem {w : World} {R : List Fact} {φ : Fact} (h : Rds w R) (hm : φ ∈ R) : Rd1 w φ := by
 induction h with
 | nil => cases hm
 | cons h _ ih =>
   rcases List.mem_cons.1 hm with h1 | h1
   ·rw [h1]; exact h
   ·exact ih h1
theorem Kn.rO {φ : Fact} (h : Kn E w0 w O R) (hm : φ ∈ O) : Rd1 w φ := ⟨h.pO _ hm, h.ltO _ hm⟩
theorem Kn.rR {φ : Fact} (h : Kn E w0 w O R) (hm : φ ∈ R) : Rd1 w φ := ⟨h.pR _ hm, h.ltR _ hm⟩
theorem Rd1.row (h : Rd1 w (blk g cs T)) : Rd1 w (row g 0 cs) := by
 have hb : w.heap[g]? = some (.cells cs.toArray T (0, 0)) := h.1
 exact ⟨fun i v hv => by rw [Nat.zero_add, cell_of_row w g i cs.toArray T (0, 0) hb]; simpa using hv, h.2⟩
end
end Go.Proofs.YtaghmffgoomebaaGreat.Gx
namespace Go.Proofs.YtaghmffgoomebaaGreat.Gx
open Go.RowKit Mem
def RS1 (w w' : World) (RA : List Fact) (φ : Fact) : Prop := φ.p w' ∧ ∀ b, φ.S b → b < w'.heap.size ∧ (w.heap.size ≤ b ∨ ∃ ψ, ψ ∈ RA ∧ ψ.S b)
inductive RSs (w w' : World) (RA : List Fact) : List Fact → Prop
 | nil : RSs w w' RA []
 | cons {φ : Fact} {l : List Fact} (h : RS1 w w' RA φ) (t : RSs w w' RA l) : RSs w w' RA (φ :: l)
def RetS {σ : Type} (I : σ → Prop) (V : σ → Value) (FF : σ → List Fact) (RA : List Fact) (w : World) (e : Ending) (w' : World) : Prop :=
 ∃ s, I s ∧ e = .returned (V s) ∧ Below w.heap.size w w' ∧ RSs w w' RA (FF s)
theorem RSs.mem {w w' : World} {RA l : List Fact} {φ : Fact} (h : RSs w w' RA l) (hm : φ ∈ l) : RS1 w w' RA φ := by
 induction h with
 | nil => cases hm
 | cons h _ ih =>
   rcases List.mem_cons.1 hm with h1 | h1
   ·rw [h1]; exact h
   ·exact ih h1
section
variable {X : Cx} {f : Fr} {O R RA : List Fact} {ks k : List KI} {ops lo : List Oper} {E : List Nat} {w0 w w' : World} {o : Oper} {N : Fr → List Fact → List Fact → Prop}
theorem RetS.mk {σ : Type} {I : σ → Prop} {V : σ → Value} {FF : σ → List Fact} {v : Value} (s : σ) (hi : I s) (hv : v = V s) (h : Kn [] w w' O R) (hs : RSs w w' RA (FF s)) : RetS I V FF RA w (.returned v) w' :=
 ⟨s, hi, by rw [hv], h.toBelow, hs⟩
theorem RS1.own {φ : Fact} (h : Kn [] w w' O R) (hm : φ ∈ O) : RS1 w w' RA φ :=
 ⟨h.pO _ hm, fun b hb => ⟨h.ltO _ hm b hb, .inl ((h.ownS _ hm b hb).resolve_right (by simp))⟩⟩
theorem RS1.rd {φ : Fact} (h : Kn [] w w' O R) (hm : φ ∈ R) (hn : ∀ b, φ.S b → w.heap.size ≤ b ∨ ∃ ψ, ψ ∈ RA ∧ ψ.S b) : RS1 w w' RA φ :=
 ⟨h.pR _ hm, fun b hb => ⟨h.ltR _ hm b hb, hn b hb⟩⟩
theorem RS1.all {α : Type} {l : List α} {F : α → Fact} (h : ∀ x, x ∈ l → RS1 w w' RA (F x)) : RS1 w w' RA (allF l F) :=
 ⟨fun x hx => (h x hx).1, fun b ⟨x, hx, hb⟩ => (h x hx).2 b hb⟩
theorem Rd1.all {α : Type} {l : List α} {F : α → Fact} (h : ∀ x, x ∈ l → Rd1 w (F x)) : Rd1 w (allF l F) :=
 ⟨fun x hx => (h x hx).1, fun b ⟨x, hx, hb⟩ => (h x hx).2 b hb⟩
theorem Rd1.open {α : Type} {l : List α} {F : α → Fact} (h : Rd1 w (allF l F)) {x : α} (hx : x ∈ l) : Rd1 w (F x) :=
 ⟨h.1 x hx, fun b hb => h.2 b ⟨x, hx, hb⟩⟩
theorem Rds.open {l : List Fact} (h : Rd1 w (allF l id)) : Rds w l := by
 have : ∀ m : List Fact, (∀ φ, φ ∈ m → Rd1 w φ) → Rds w m := by
  intro m
  induction m with
  | nil => intro _; exact .nil
  | cons x r ih => intro hm; exact .cons (hm x (.head _)) (ih fun φ hφ => hm φ (.tail _ hφ))
 exact this l fun φ hφ => h.open (F := id) hφ
theorem RSs.kn {L : List Fact} (hk : Kn E w0 w O R) (hb : Below w.heap.size w w') (hRA : RA ⊆ R) (h : RSs w w' RA L) : Kn E w0 w' O (L ++ R) := by
 have k1 := hk.below hb
 induction h with
 | nil => exact k1
 | cons h _ ih =>
   exact ih.addR _ h.1 (fun b hb' => (h.2 b hb').1) (fun φ hφ b hS hb' => by
    rcases (h.2 b hb').2 with h1 | ⟨ψ, h1, h2⟩
    ·have := hk.ltO φ hφ b hS
     omega
    ·exact hk.disR φ hφ ψ (hRA h1) b hS h2)
theorem za4 {σ : Type} {I : σ → Prop} {V : σ → Value} {FF RR : σ → List Fact} {fid : Nat} {args : List Value} (h : ∀ w, Kn X.E X.w0 w O R → Calls X.P fid args.toArray w (RetS I V FF RA w)) {dd : Nat} (hd : o.dst = some dd) {c : Call} {x : Operand} (ho : o.op = .call c) (hc : c.callee = .value x) (hx : look X.n f x = some (.func (.func fid) #[] #[])) (ha : lookL X.n f c.args.toList = some args) (hok : callable X.P fid = true)
 (hRA : RA ⊆ R) (hcat : ∀ s, catO (FF s) R = some (RR s)) (hg : ∀ s, I s → (∀ φ, φ ∈ FF s → ∀ b, φ.S b → X.w0.heap.size ≤ b ∨ ∃ ψ, ψ ∈ RA ∧ ψ.S b) → N ((dd, V s) :: f) O (RR s)) : Mv X f O R o N :=
 zce hd ho hc hx ha hok fun w hk => (h w hk).mono fun e w' ⟨s, hi, he, hb, hs⟩ => ⟨_, _, _, he, by rw [zdl (hcat s)]; exact RSs.kn hk hb hRA hs, hg s hi fun φ hφ b hb' => ((hs.mem hφ).2 b hb').2.imp (fun h => Nat.le_trans hk.size h) id⟩
theorem zc1 (φ : Fact) (ψ : Fact) (hm : ψ ∈ R) (h : ∀ w, ψ.p w → φ.p w) (hS : ∀ b, φ.S b → ψ.S b) (hg : GK X ks f O (φ :: R)) : GK X ks f O R := .mk fun a w hr hk =>
 hg.out a w hr (hk.addR φ (h w (hk.pR ψ hm)) (fun b hb => hk.ltR ψ hm b (hS b hb)) (fun χ hχ b h1 h2 => hk.disR χ hχ ψ hm b h1 (hS b h2)))
theorem zib (φ : Fact) (ψ : Fact) (hm : ψ ∈ R) (h : ∀ w, ψ.p w → φ.p w) (hS : ∀ b, φ.S b → ψ.S b) (hg : G X ops lo k f O (φ :: R)) : G X ops lo k f O R := .mk fun a w hr hk =>
 hg.out a w hr (hk.addR φ (h w (hk.pR ψ hm)) (fun b hb => hk.ltR ψ hm b (hS b hb)) (fun χ hχ b h1 h2 => hk.disR χ hχ ψ hm b h1 (hS b h2)))
end
end Go.Proofs.YtaghmffgoomebaaGreat.Gx
namespace Go.Proofs.YtaghmffgoomebaaGreat.Gx
open Go.RowKit Mem
end Go.Proofs.YtaghmffgoomebaaGreat.Gx
namespace Go.Proofs.YtaghmffgoomebaaGreat.Nd
open Go.RowKit Mem Gx
set_option maxRecDepth 100000
set_option maxHeartbeats 4000000
theorem zh8 (A : Option Addr) (n c : Nat) (w : World) (hc : n ≤ c) (h9 : n ≤ 10000) :
 Calls Tryz.prog 92 [.slice A n c].toArray w fun e w' => e = .returned (.tuple #[.slice (shA A 0 c 4) (n / 2) c, .slice (shA A (n / 2) c 4) (n - n / 2) (c - n / 2)]) ∧ Below w.heap.size w w' := by
 refine zab T [] [] [] Tryz.func92 rfl Tryz.ntmps92 rfl (Kn.start _) ?_
 (repeat (refine gG ?_; try intro _))
 have hd : (n : Int) / 2 = ((n / 2 : Nat) : Int) := by omega
 refine zas [] (Cut _ (fun _ : Unit => [(2, .slice (shA A 0 c 4) (n / 2) c), (3, .slice (shA A (n / 2) c 4) (n - n / 2) (c - n / 2))]) (fun _ => []) (fun _ => [])) rfl rfl kR ?_ (zaD fun _ => ?_)
 ·skip
  refine gY hT 0 ?_
  refine gY hT 1 ?_
  refine gY hT 2 ?_
  refine gY hT 3 ?_
  refine zaz 4 rfl dK rfl rfl (zaU hT (n / 2) rfl rfl rfl rfl hd (by omega)) sF ?_
  refine gY hT 5 ?_
  refine gY hT 6 ?_
  refine gY hT 7 ?_
  refine gY hT 8 ?_
  refine zaz 9 rfl dK rfl rfl (zav hT (n / 2) rfl rfl rfl rfl hd (by omega)) sF ?_
  refine gY hT 10 ?_
  refine gY hT 11 ?_
  refine zak dK ?_
  exact ⟨(), fS, sA, List.nil_subset _⟩
 ·(repeat (refine gG ?_; try intro _))
  refine zad hT rfl rfl (.tmp rfl (.tmp rfl .nil)) (fun w' hk => ?_)
  exact ⟨rfl, hk.toBelow⟩
theorem rd_blk {w : World} {g T : Nat} {cs : List Value} (h : w.heap[g]? = some (.cells cs.toArray T (0, 0))) : Rd1 w (blk g cs T) := ⟨h, fun b hb => by
 have : b = g := hb
 subst this
 rcases Nat.lt_or_ge b w.heap.size with h' | h'
 ·exact h'
 ·rw [Array.getElem?_eq_none h'] at h; cases h⟩
theorem zaX (g : Nat) (cs : List Value) (lf : Bool) (K V C : SlV) (a : Int) (w : World) (h : w.heap[g]? = some (.cells [.bool lf, K.v, V.v, C.v, .int .u32 a].toArray 109 (0, 0))) :
 Calls Tryz.prog 44 [.pointer (some ⟨g, 0, none⟩)].toArray w fun e w' => e = .returned (.int .i64 (K.n : Int)) ∧ Below w.heap.size w w' := by
 refine zab T [] [] [row g 0 [.bool lf, K.v, V.v, C.v, .int .u32 a]] Tryz.func44 rfl Tryz.ntmps44 rfl (Rds.cons (rd_blk (cs := [.bool lf, K.v, V.v, C.v, .int .u32 a]) h).row .nil).kn ?_
 (repeat (refine gG ?_; try intro _))
 refine zad hT rfl rfl (.tmp rfl .nil) (fun w' hk => ?_)
 exact ⟨rfl, hk.toBelow⟩
end Go.Proofs.YtaghmffgoomebaaGreat.Nd
