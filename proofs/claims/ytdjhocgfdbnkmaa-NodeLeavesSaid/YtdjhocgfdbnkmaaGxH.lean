/- The walk by reckoned steps: what is handed back to be read, not to be written any more. -/
import Derived.Test.YtdjhocgfdbnkmaaGxG
namespace Go.Proofs.Ytdjhocgfdbnkmaa.Gx
open Go.RowKit Mem
set_option linter.unusedVariables false
set_option linter.unusedSimpArgs false
/-- A fact that holds at the end, of blocks that are new, or of what was handed in to be read. -/
def RS1 (w w' : World) (RA : List Fact) (φ : Fact) : Prop := φ.p w' ∧ ∀ b, φ.S b → b < w'.heap.size ∧ (w.heap.size ≤ b ∨ ∃ ψ, ψ ∈ RA ∧ ψ.S b)
inductive RSs (w w' : World) (RA : List Fact) : List Fact → Prop
  | nil : RSs w w' RA []
  | cons {φ : Fact} {l : List Fact} (h : RS1 w w' RA φ) (t : RSs w w' RA l) : RSs w w' RA (φ :: l)
def RetS {σ : Type} (I : σ → Prop) (V : σ → Value) (FF : σ → List Fact) (RA : List Fact) (w : World) (e : Ending) (w' : World) : Prop :=
  ∃ s, I s ∧ e = .returned (V s) ∧ Below w.heap.size w w' ∧ RSs w w' RA (FF s)
theorem RSs.mem {w w' : World} {RA l : List Fact} {φ : Fact} (h : RSs w w' RA l) (hm : φ ∈ l) : RS1 w w' RA φ := by
  induction h with
  | nil => cases hm
  | cons h _ ih =>
    rcases List.mem_cons.1 hm with h1 | h1
    · rw [h1]; exact h
    · exact ih h1
section
variable {X : Cx} {f : Fr} {O R RA : List Fact} {ks k : List KI} {ops lo : List Oper} {E : List Nat} {w0 w w' : World} {o : Oper} {N : Fr → List Fact → List Fact → Prop}
theorem RetS.mk {σ : Type} {I : σ → Prop} {V : σ → Value} {FF : σ → List Fact} {v : Value} (s : σ) (hi : I s) (hv : v = V s) (h : Kn [] w w' O R) (hs : RSs w w' RA (FF s)) : RetS I V FF RA w (.returned v) w' :=
  ⟨s, hi, by rw [hv], h.toBelow, hs⟩
theorem RS1.own {φ : Fact} (h : Kn [] w w' O R) (hm : φ ∈ O) : RS1 w w' RA φ :=
  ⟨h.pO _ hm, fun b hb => ⟨h.ltO _ hm b hb, .inl ((h.ownS _ hm b hb).resolve_right (by simp))⟩⟩
theorem RS1.rd {φ : Fact} (h : Kn [] w w' O R) (hm : φ ∈ R) (hn : ∀ b, φ.S b → w.heap.size ≤ b ∨ ∃ ψ, ψ ∈ RA ∧ ψ.S b) : RS1 w w' RA φ :=
  ⟨h.pR _ hm, fun b hb => ⟨h.ltR _ hm b hb, hn b hb⟩⟩
theorem RS1.all {α : Type} {l : List α} {F : α → Fact} (h : ∀ x, x ∈ l → RS1 w w' RA (F x)) : RS1 w w' RA (allF l F) :=
  ⟨fun x hx => (h x hx).1, fun b ⟨x, hx, hb⟩ => (h x hx).2 b hb⟩
theorem Rd1.all {α : Type} {l : List α} {F : α → Fact} (h : ∀ x, x ∈ l → Rd1 w (F x)) : Rd1 w (allF l F) :=
  ⟨fun x hx => (h x hx).1, fun b ⟨x, hx, hb⟩ => (h x hx).2 b hb⟩
theorem Rd1.open {α : Type} {l : List α} {F : α → Fact} (h : Rd1 w (allF l F)) {x : α} (hx : x ∈ l) : Rd1 w (F x) :=
  ⟨h.1 x hx, fun b hb => h.2 b ⟨x, hx, hb⟩⟩
theorem Rds.open {l : List Fact} (h : Rd1 w (allF l id)) : Rds w l := by
  have : ∀ m : List Fact, (∀ φ, φ ∈ m → Rd1 w φ) → Rds w m := by
    intro m
    induction m with
    | nil => intro _; exact .nil
    | cons x r ih => intro hm; exact .cons (hm x (.head _)) (ih fun φ hφ => hm φ (.tail _ hφ))
  exact this l fun φ hφ => h.open (F := id) hφ
theorem RSs.kn {L : List Fact} (hk : Kn E w0 w O R) (hb : Below w.heap.size w w') (hRA : RA ⊆ R) (h : RSs w w' RA L) : Kn E w0 w' O (L ++ R) := by
  have k1 := hk.below hb
  induction h with
  | nil => exact k1
  | cons h _ ih =>
    exact ih.addR _ h.1 (fun b hb' => (h.2 b hb').1) (fun φ hφ b hS hb' => by
      rcases (h.2 b hb').2 with h1 | ⟨ψ, h1, h2⟩
      · have := hk.ltO φ hφ b hS
        omega
      · exact hk.disR φ hφ ψ (hRA h1) b hS h2)
theorem mv_call_rs {σ : Type} {I : σ → Prop} {V : σ → Value} {FF RR : σ → List Fact} {fid : Nat} {args : List Value} (h : ∀ w, Kn X.E X.w0 w O R → Calls X.P fid args.toArray w (RetS I V FF RA w)) {dd : Nat} (hd : o.dst = some dd) {c : Call} {x : Operand} (ho : o.op = .call c) (hc : c.callee = .value x) (hx : look X.n f x = some (.func (.func fid) #[] #[])) (ha : lookL X.n f c.args.toList = some args) (hok : callable X.P fid = true)
    (hRA : RA ⊆ R) (hcat : ∀ s, catO (FF s) R = some (RR s)) (hg : ∀ s, I s → (∀ φ, φ ∈ FF s → ∀ b, φ.S b → X.w0.heap.size ≤ b ∨ ∃ ψ, ψ ∈ RA ∧ ψ.S b) → N ((dd, V s) :: f) O (RR s)) : Mv X f O R o N :=
  mv_call hd ho hc hx ha hok fun w hk => (h w hk).mono fun e w' ⟨s, hi, he, hb, hs⟩ => ⟨_, _, _, he, by rw [catO_eq (hcat s)]; exact RSs.kn hk hb hRA hs, hg s hi fun φ hφ b hb' => ((hs.mem hφ).2 b hb').2.imp (fun h => Nat.le_trans hk.size h) id⟩
/-- One more fact of what may be read. -/
theorem gk_lessR (φ : Fact) (ψ : Fact) (hm : ψ ∈ R) (h : ∀ w, ψ.p w → φ.p w) (hS : ∀ b, φ.S b → ψ.S b) (hg : GK X ks f O (φ :: R)) : GK X ks f O R := .mk fun a w hr hk =>
  hg.out a w hr (hk.addR φ (h w (hk.pR ψ hm)) (fun b hb => hk.ltR ψ hm b (hS b hb)) (fun χ hχ b h1 h2 => hk.disR χ hχ ψ hm b h1 (hS b h2)))
theorem g_lessR (φ : Fact) (ψ : Fact) (hm : ψ ∈ R) (h : ∀ w, ψ.p w → φ.p w) (hS : ∀ b, φ.S b → ψ.S b) (hg : G X ops lo k f O (φ :: R)) : G X ops lo k f O R := .mk fun a w hr hk =>
  hg.out a w hr (hk.addR φ (h w (hk.pR ψ hm)) (fun b hb => hk.ltR ψ hm b (hS b hb)) (fun χ hχ b h1 h2 => hk.disR χ hχ ψ hm b h1 (hS b h2)))
/-- What is one's own is shared; it is new. -/
theorem gk_shareN {φ : Fact} {O' : List Fact} (hE : X.E = []) (hs : Sel φ O O') (hg : (∀ b, φ.S b → X.w0.heap.size ≤ b) → GK X ks f O' (φ :: R)) : GK X ks f O R := .mk fun a w hr hk => (hg fun b hb => (hk.ownS φ (hs.perm.mem_iff.2 (.head _)) b hb).resolve_right (by rw [hE]; simp)).out a w hr (hk.share hs)
end
end Go.Proofs.Ytdjhocgfdbnkmaa.Gx
