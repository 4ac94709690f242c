/- The walk by reckoned steps: calls that write one block of the caller's and hand back what may be read; facts made of others. The walk by reckoned steps: calls that make one's own slice another list, and hand back what may be read. -/
import Derived.Test.YtokhfkbbhdaghaaGreatGxL
namespace Go.Proofs.YtokhfkbbhdaghaaGreat.Gx
open Go.RowKit Mem
set_option linter.unusedVariables false
set_option linter.unusedSimpArgs false
/-- A fact that follows from others, and lies where they lie. -/
structure Der (l : List Fact) (φ : Fact) : Prop where
  p : ∀ w : World, (∀ ψ, ψ ∈ l → ψ.p w) → φ.p w
  S : ∀ b, φ.S b → ∃ ψ, ψ ∈ l ∧ ψ.S b
/-- Its blocks are new, or of some that may be read. -/
def New (w : World) (RA : List Fact) (φ : Fact) : Prop := ∀ b, φ.S b → w.heap.size ≤ b ∨ ∃ ψ, ψ ∈ RA ∧ ψ.S b
theorem Der.new {w : World} {RA l : List Fact} {φ : Fact} (d : Der l φ) (h : ∀ ψ, ψ ∈ l → New w RA ψ) : New w RA φ := fun b hb => by
  obtain ⟨ψ, h1, h2⟩ := d.S b hb
  exact h ψ h1 b h2
theorem New.self {w : World} {RA : List Fact} {φ : Fact} (h : φ ∈ RA) : New w RA φ := fun b hb => .inr ⟨φ, h, hb⟩
theorem New.all {w : World} {RA : List Fact} {α : Type} {l : List α} {F : α → Fact} (h : ∀ x, x ∈ l → New w RA (F x)) : New w RA (allF l F) := fun b ⟨x, hx, hb⟩ => h x hx b hb
theorem New.of {w : World} {RA : List Fact} {φ : Fact} (h : ∀ b, φ.S b → w.heap.size ≤ b ∨ ∃ ψ, ψ ∈ ([] : List Fact) ∧ ψ.S b) : New w RA φ := fun b hb => by
  rcases h b hb with h1 | ⟨ψ, h1, _⟩
  · exact .inl h1
  · cases h1
theorem Der.trans {l m : List Fact} {φ : Fact} (h : Der l φ) (hl : ∀ ψ, ψ ∈ l → Der m ψ) : Der m φ :=
  ⟨fun w hw => h.p w fun ψ hψ => (hl ψ hψ).p w hw, fun b hb => by
    obtain ⟨ψ, h1, h2⟩ := h.S b hb
    exact (hl ψ h1).S b h2⟩
theorem Der.mem {l : List Fact} {φ : Fact} (h : φ ∈ l) : Der l φ := ⟨fun w hw => hw φ h, fun b hb => ⟨φ, h, hb⟩⟩
theorem Der.all {l : List Fact} {α : Type} {L : List α} {F : α → Fact} (h : ∀ x, x ∈ L → Der l (F x)) : Der l (allF L F) :=
  ⟨fun w hw x hx => (h x hx).p w hw, fun b ⟨x, hx, hb⟩ => (h x hx).S b hb⟩
theorem Der.elem {l : List Fact} {α : Type} {L : List α} {F : α → Fact} {x : α} (h : Der l (allF L F)) (hx : x ∈ L) : Der l (F x) :=
  ⟨fun w hw => h.p w hw x hx, fun b hb => h.S b ⟨x, hx, hb⟩⟩
theorem Der.rd {l : List Fact} {φ : Fact} {w : World} (d : Der l φ) (h : ∀ ψ, ψ ∈ l → Rd1 w ψ) : Rd1 w φ :=
  ⟨d.p w fun ψ hψ => (h ψ hψ).1, fun b hb => by obtain ⟨ψ, h1, h2⟩ := d.S b hb; exact (h ψ h1).2 b h2⟩
section
variable {X : Cx} {f : Fr} {O R RA : List Fact} {ks k : List KI} {ops lo : List Oper} {E : List Nat} {w0 w w' : World} {o : Oper} {N : Fr → List Fact → List Fact → Prop}
theorem Kn.der {l : List Fact} {φ : Fact} (hk : Kn E w0 w O R) (d : Der l φ) (hl : ∀ ψ, ψ ∈ l → ψ ∈ R) : Kn E w0 w O (φ :: R) :=
  hk.addR φ (d.p w fun ψ hψ => hk.pR ψ (hl ψ hψ)) (fun b hb => by obtain ⟨ψ, h1, h2⟩ := d.S b hb; exact hk.ltR ψ (hl ψ h1) b h2) (fun χ hχ b h1 h2 => by
    obtain ⟨ψ, h3, h4⟩ := d.S b h2
    exact hk.disR χ hχ ψ (hl ψ h3) b h1 h4)
theorem gk_der (l : List Fact) {φ : Fact} (d : Der l φ) (hl : l ⊆ R) (hg : GK X ks f O (φ :: R)) : GK X ks f O R := .mk fun a w hr hk => hg.out a w hr (hk.der d fun ψ h => hl h)
theorem g_der (l : List Fact) {φ : Fact} (d : Der l φ) (hl : l ⊆ R) (hg : G X ops lo k f O (φ :: R)) : G X ops lo k f O R := .mk fun a w hr hk => hg.out a w hr (hk.der d fun ψ h => hl h)
theorem RS1.rdE {φ : Fact} (h : Kn E w w' O R) (hm : φ ∈ R) (hn : New w RA φ) : RS1 w w' RA φ := ⟨h.pR _ hm, fun b hb => ⟨h.ltR _ hm b hb, hn b hb⟩⟩
theorem RS1.ownE {φ : Fact} (h : Kn E w w' O R) (hm : φ ∈ O) (hE : ∀ b, φ.S b → b ∉ E) : RS1 w w' RA φ :=
  ⟨h.pO _ hm, fun b hb => ⟨h.ltO _ hm b hb, .inl ((h.ownS _ hm b hb).resolve_right (hE b hb))⟩⟩
/-- What is one's own is shared; it is new. -/
theorem gk_shareE {φ ψ : Fact} {O' : List Fact} {e : Nat} (hE : X.E = [e]) (hs : Sel φ O O') (hψ : ψ ∈ O') (he : ψ.S e) (hg : (∀ b, φ.S b → X.w0.heap.size ≤ b) → GK X ks f O' (φ :: R)) : GK X ks f O R := .mk fun a w hr hk => (hg fun b hb => (hk.ownS φ (hs.perm.mem_iff.2 (.head _)) b hb).resolve_right (by
    rw [hE]
    intro h
    obtain rfl := List.mem_singleton.1 h
    exact (List.rel_of_pairwise_cons (hk.perm hs.perm).disO hψ) b hb he)).out a w hr (hk.share hs)
theorem g_shareE {φ ψ : Fact} {O' : List Fact} {e : Nat} (hE : X.E = [e]) (hs : Sel φ O O') (hψ : ψ ∈ O') (he : ψ.S e) (hg : (∀ b, φ.S b → X.w0.heap.size ≤ b) → G X ops lo k f O' (φ :: R)) : G X ops lo k f O R := .mk fun a w hr hk => (hg fun b hb => (hk.ownS φ (hs.perm.mem_iff.2 (.head _)) b hb).resolve_right (by
    rw [hE]
    intro h
    obtain rfl := List.mem_singleton.1 h
    exact (List.rel_of_pairwise_cons (hk.perm hs.perm).disO hψ) b hb he)).out a w hr (hk.share hs)
end
/-- What a call hands back that has written one block of the caller's. -/
def RetX {σ : Type} (g : Nat) (T : TypeId) (I : σ → Prop) (V : σ → Value) (CS : σ → List Value) (FF : σ → List Fact) (RA : List Fact) (w : World) (e : Ending) (w' : World) : Prop :=
  ∃ s, I s ∧ e = .returned (V s) ∧ FreshW g T (CS s) w w' [] ∧ RSs w w' RA (FF s)
section
variable {X : Cx} {f : Fr} {O R RA : List Fact} {ks k : List KI} {ops lo : List Oper} {E : List Nat} {w0 w w' : World} {o : Oper} {N : Fr → List Fact → List Fact → Prop}
theorem RetX.mk {σ : Type} {g : Nat} {T : TypeId} {I : σ → Prop} {V : σ → Value} {CS : σ → List Value} {FF : σ → List Fact} {v : Value} (s : σ) (hi : I s) (hv : v = V s) (h : Kn [g] w w' O R) (hs : SelAll [blk g (CS s) T] O) (hr : RSs w w' RA (FF s)) : RetX g T I V CS FF RA w (.returned v) w' :=
  ⟨s, hi, by rw [hv], h.outW hs, hr⟩
theorem RSs.knW {g : Nat} {T : TypeId} {cs cs' : List Value} {O' L : List Fact} (hk : Kn E w0 w O R) (hu : Upd (blk g cs T) (blk g cs' T) O O') (hf : FreshW g T cs' w w' []) (hRA : RA ⊆ R) (h : RSs w w' RA L) : Kn E w0 w' O' (L ++ R) := by
  have k1 : Kn E w0 w' O' R := hk.freshW (GG := []) (RA := []) hu hf (fun ψ h => by cases h) (fun φ h => by cases h)
  induction h with
  | nil => exact k1
  | cons h _ ih =>
    refine ih.addR _ h.1 (fun b hb' => (h.2 b hb').1) (fun φ hφ b hS hb' => ?_)
    have h3 : ∃ φ', φ' ∈ O ∧ φ'.S b := by
      rcases hu.mem' hφ with e | e
      · subst e; exact ⟨_, hu.mem, hS⟩
      · exact ⟨φ, e, hS⟩
    obtain ⟨φ', h4, h5⟩ := h3
    rcases (h.2 b hb').2 with h1 | ⟨ψ, h1, h2⟩
    · have := hk.ltO φ' h4 b h5
      omega
    · exact hk.disR φ' h4 ψ (hRA h1) b h5 h2
theorem mv_call_rx {σ : Type} {g : Nat} {T : TypeId} {cs : List Value} {I : σ → Prop} {V : σ → Value} {CS : σ → List Value} {FF O1 RR : σ → List Fact} {fid : Nat} {args : List Value} (h : ∀ w, Kn X.E X.w0 w O R → Calls X.P fid args.toArray w (RetX g T I V CS FF RA w)) {dd : Nat} (hd : o.dst = some dd) {c : Call} {x : Operand} (ho : o.op = .call c) (hc : c.callee = .value x) (hx : look X.n f x = some (.func (.func fid) #[] #[])) (ha : lookL X.n f c.args.toList = some args) (hok : callable X.P fid = true)
    (hu : ∀ s, Upd (blk g cs T) (blk g (CS s) T) O (O1 s)) (hRA : RA ⊆ R) (hcat : ∀ s, catO (FF s) R = some (RR s)) (hg : ∀ s, I s → (∀ φ, φ ∈ FF s → New X.w0 RA φ) → N ((dd, V s) :: f) (O1 s) (RR s)) : Mv X f O R o N :=
  mv_call hd ho hc hx ha hok fun w hk => (h w hk).mono fun e w' ⟨s, hi, he, hf, hs⟩ => ⟨_, _, _, he, by rw [catO_eq (hcat s)]; exact RSs.knW hk (hu s) hf hRA hs, hg s hi fun φ hφ b hb' => ((hs.mem hφ).2 b hb').2.imp (fun h => Nat.le_trans hk.size h) id⟩
theorem gb_own0 {S : List Fact} {m : Nat} {ls : List Bool} {C : Fr → List Fact → List Fact → Prop} {α : Type} [Inhabited α] {e base sz : Nat} (v : Value) {enc : α → Nat → Value} {L : List α} (hm : own base e sz v enc L ∈ O) (hL : 0 < L.length) (hg : ∀ b c, v = .slice (some ⟨b, 0, none⟩) L.length c → L.length ≤ c → c ≤ maxLen → GB X S ops m ls C k f O R) : GB X S ops m ls C k f O R := .mk fun a w hr hk => by
  obtain ⟨b, c, h1, h2, h3⟩ := own_at0 (hk.pO _ hm) hL
  exact (hg b c h1 h2 h3).out a w hr hk
end
end Go.Proofs.YtokhfkbbhdaghaaGreat.Gx
namespace Go.Proofs.YtokhfkbbhdaghaaGreat.Gx
open Go.RowKit Mem
set_option linter.unusedVariables false
set_option linter.unusedSimpArgs false
def RetO {σ α : Type} [Inhabited α] (base e sz : Nat) (v : Value) (enc : α → Nat → Value) (I : σ → Prop) (V : σ → Value) (M : σ → List α) (FF : σ → List Fact) (RA : List Fact) (w : World) (en : Ending) (w' : World) : Prop :=
  ∃ s, I s ∧ en = .returned (V s) ∧ OwnL w' base e sz (V s) enc (M s) ∧ Grew w w' v (V s) ∧ RSs w w' RA (FF s) ∧ ∀ φ, φ ∈ FF s → ∀ b, φ.S b → (V s).ownBlock ≠ some b
section
variable {X : Cx} {f : Fr} {O O' R RA : List Fact} {ks k : List KI} {ops lo : List Oper} {E : List Nat} {w0 w w' : World} {o : Oper} {N : Fr → List Fact → List Fact → Prop} {α : Type} [Inhabited α] {base e sz : Nat} {v v' : Value} {enc : α → Nat → Value} {L M : List α}
theorem RSs.knO {F : List Fact} (hk : Kn E w0 w O R) (hu : Upd (own base e sz v enc L) (own base e sz v' enc M) O O') (ho : OwnL w' base e sz v' enc M) (hg : Grew w w' v v') (hd : ∀ φ, φ ∈ F → ∀ b, φ.S b → v'.ownBlock ≠ some b) (hRA : RA ⊆ R) (h : RSs w w' RA F) : Kn E w0 w' O' (F ++ R) := by
  have k1 : Kn E w0 w' O' R := hk.grew hg ho hu
  induction h with
  | nil => exact k1
  | cons h _ ih =>
    refine (ih fun φ hφ => hd φ (.tail _ hφ)).addR _ h.1 (fun b hb' => (h.2 b hb').1) (fun φ hφ b hS hb' => ?_)
    rcases hu.mem' hφ with e1 | e1
    · subst e1
      exact hd _ (.head _) b hb' hS
    · rcases (h.2 b hb').2 with h1 | ⟨ψ, h1, h2⟩
      · have := hk.ltO φ e1 b hS
        omega
      · exact hk.disR φ e1 ψ (hRA h1) b hS h2
theorem mv_call_ro {σ : Type} {I : σ → Prop} {V : σ → Value} {MM : σ → List α} {FF O1 RR : σ → List Fact} {fid : Nat} {args : List Value} (h : ∀ w, Kn X.E X.w0 w O R → Calls X.P fid args.toArray w (RetO base e sz v enc I V MM FF RA w)) {dd : Nat} (hd : o.dst = some dd) {c : Call} {x : Operand} (ho : o.op = .call c) (hc : c.callee = .value x) (hx : look X.n f x = some (.func (.func fid) #[] #[])) (ha : lookL X.n f c.args.toList = some args) (hok : callable X.P fid = true)
    (hu : ∀ s, Upd (own base e sz v enc L) (own base e sz (V s) enc (MM s)) O (O1 s)) (hRA : RA ⊆ R) (hcat : ∀ s, catO (FF s) R = some (RR s)) (hg : ∀ s, I s → (∀ φ, φ ∈ FF s → New X.w0 RA φ) → N ((dd, V s) :: f) (O1 s) (RR s)) : Mv X f O R o N :=
  mv_call hd ho hc hx ha hok fun w hk => (h w hk).mono fun e w' ⟨s, hi, he, ho, hg', hs, hds⟩ => ⟨_, _, _, he, by rw [catO_eq (hcat s)]; exact RSs.knO hk (hu s) ho hg' hds hRA hs, hg s hi fun φ hφ b hb' => ((hs.mem hφ).2 b hb').2.imp (fun h => Nat.le_trans hk.size h) id⟩
theorem RSs.rd {F : List Fact} (hk : Kn E w w' O R) (h : ∀ φ, φ ∈ F → φ ∈ R ∧ New w RA φ) : RSs w w' RA F := by
  induction F with
  | nil => exact .nil
  | cons φ l ih => exact .cons (RS1.rdE hk (h φ (.head _)).1 (h φ (.head _)).2) (ih fun ψ hψ => h ψ (.tail _ hψ))
theorem RetO.mk {σ : Type} {I : σ → Prop} {V : σ → Value} {MM : σ → List α} {FF : σ → List Fact} {u : Value} (s : σ) (hi : I s) (hv : u = V s) (hk : Kn (ownE v) w w' O R) (hm : own base e sz (V s) enc (MM s) ∈ O) (hL : 0 < (MM s).length) (hr : ∀ φ, φ ∈ FF s → φ ∈ R ∧ New w RA φ) : RetO base e sz v enc I V MM FF RA w (.returned u) w' :=
  ⟨s, hi, by rw [hv], (Kn.outG hk hm hL).1, (Kn.outG hk hm hL).2, RSs.rd hk hr, fun φ hφ b hb hb' => hk.disR _ hm φ (hr φ hφ).1 b hb' hb⟩
end
end Go.Proofs.YtokhfkbbhdaghaaGreat.Gx
