/- Loops over iterators whose order isn't fixed (labels of any kind). -/
import Derived.Test.YtdkgmgfadpnhbaaGxY
namespace Go.Proofs.Ytdkgmgfadpnhbaa.Gm
open Go.RowKit Mem Gx
set_option linter.unusedVariables false
set_option linter.unusedSimpArgs false
/-! ### what an iterator gives -/
/-- A loop's state goes through the rounds: Γ is all that the loop's body may write. -/
def IterG {α κ : Type} (P : Program) (gf : FuncId) (caps : List Value) (enc : α → List Value) (St : κ → α → κ → Prop) (k0 : κ) (Fin : κ → Prop) (RA : List Fact) (w1 : World) : Prop :=
  ∀ (l : Nat) (τ : Type) (Γ : τ → Fact) (Inv : κ → τ → Prop) (Dn : τ → Prop) (t0 : τ), Inv k0 t0 → Rd1 w1 (Γ t0) → (∀ ψ, ψ ∈ RA → ∀ b, (Γ t0).S b → ¬ ψ.S b) →
    (∀ k x k' t w, St k x k' → Inv k t → Mod w1 w (Γ t0) (Γ t) → YC P l (enc x) w fun b w' => ∃ t', Mod w w' (Γ t) (Γ t') ∧ (b = true → Inv k' t') ∧ (b = false → Dn t')) →
    Calls P gf (.func (.yield l) #[] #[] :: caps).toArray w1 fun e w' => (∃ v, e = .returned v) ∧ ∃ t', Mod w1 w' (Γ t0) (Γ t') ∧ ((∃ k, Fin k ∧ Inv k t') ∨ Dn t')
/-! ### a loop over an iterator -/
/-- All that a loop is about: its record, its states. -/
structure LX (κ σ σx : Type) where
  X : Cx
  l : Nat
  D : Nat
  rc : LoopState → Option Code → Loop
  Inv : κ → σ → Prop
  OO : σ → List Fact
  Out : Code → σx → Prop
  OX : Code → σx → List Fact
section
variable {κ σ σx : Type}
def LX.Γ (L : LX κ σ σx) : σ ⊕ (Code × σx) → Fact
  | .inl s => packF (recF L.l (L.rc .ready none) :: dfr L.D :: L.OO s)
  | .inr y => packF (recF L.l (L.rc .done (some y.1)) :: dfr L.D :: L.OX y.1 y.2)
def LX.Iv (L : LX κ σ σx) (k : κ) : σ ⊕ (Code × σx) → Prop
  | .inl s => L.Inv k s
  | .inr _ => False
def LX.Dn (L : LX κ σ σx) : σ ⊕ (Code × σx) → Prop
  | .inl _ => False
  | .inr y => L.Out y.1 y.2
def LX.J (L : LX κ σ σx) (k : κ) (s : σ) (w : World) (b : Bool) (w' : World) : Prop := ∃ t', Mod w w' (L.Γ (.inl s)) (L.Γ t') ∧ (b = true → L.Iv k t') ∧ (b = false → L.Dn t')
/-- A round, walked. -/
noncomputable def LX.R (L : LX κ σ σx) (k : κ) (s : σ) (w : World) : Cx :=
  ⟨L.X.P, L.X.T, L.X.fn, L.X.n, finE (L.Γ (.inl s)) w, w, fun _ _ => True, [], some (L.l, roundPost L.X.P L.l fun e w' => ∃ b, e = .returned (.bool b) ∧ L.J k s w b w')⟩
/-- The assignment ahead of a round. -/
noncomputable def LX.A (L : LX κ σ σx) (k : κ) (s : σ) (w : World) : Cx :=
  ⟨L.X.P, L.X.T, L.X.fn, L.X.n, finE (L.Γ (.inl s)) w, w, fun _ _ => True, [], some (L.l, fun _ _ _ => False)⟩
/-- A round's record while it runs. -/
def LX.bF (L : LX κ σ σx) : Fact := recF L.l { L.rc .ready none with state := .busy }
variable {L : LX κ σ σx} {kk : κ} {s : σ} {w1 : World} {f : Fr} {O O' R : List Fact} {ks k : List KI}
/-- From the assignment to the body. -/
theorem gk_begin {c : Code} (h : nx 1000 ks = some (.inv (BI (L.R kk s w1) c L.l))) (hs : Sel (recF L.l (L.rc .ready none)) O O') (hrc : (L.rc .ready none).state = .ready) (hg : ∀ bF, bF = L.bF → GK (L.R kk s w1) [.code c] f (bF :: O') R) : GK (L.A kk s w1) ks f O R := .mk fun a w hr hk => by
  refine nx_sound h ?_
  have h1 := hk.perm hs.perm
  have h2 := Kn.putRec (r' := { L.rc .ready none with state := .busy }) h1 (.here _)
  exact ⟨_, run_beginRound (h1.pO (recF L.l (L.rc .ready none)) (.head _)) hrc, (hg _ rfl).out a _ hr h2⟩
theorem LX.mod {k0 : Nat} {w : World} {t' : σ ⊕ (Code × σx)} (h : Kn (L.R kk s w1).E (L.R kk s w1).w0 w O R) (hm : L.Γ t' ∈ O) : Mod w1 w (L.Γ (.inl s)) (L.Γ t') :=
  Kn.outM h (fun b hb => finE_in b hb) hm
/-- What rc's records say of themselves. -/
structure LX.Rc (L : LX κ σ σx) : Prop where
  st : ∀ st pe, (L.rc st pe).state = st
  pe : ∀ st pe, (L.rc st pe).pending = pe
  re : ∀ st pe st' pe', { L.rc st pe with state := st', pending := pe' } = L.rc st' pe'
theorem LX.fin1 (hL : L.Rc) {jump : Option Code} {w : World} {l : List Fact} (hk : Kn (L.R kk s w1).E (L.R kk s w1).w0 w O R) (hs : SelAll (recF L.l (L.rc .busy none) :: dfr L.D :: l) O) :
    (Instr.endRound L.l jump).run L.X.P w = .ok (.bool jump.isNone) (w.putObj L.l (.loop (L.rc (if jump.isNone then .ready else .done) jump))) ∧ Kn (L.R kk s w1).E (L.R kk s w1).w0 (w.putObj L.l (.loop (L.rc (if jump.isNone then .ready else .done) jump))) [packF (recF L.l (L.rc (if jump.isNone then .ready else .done) jump) :: dfr L.D :: l)] R := by
  have h1 := hk.sel hs (List.Subset.refl _)
  have h2 := run_endRound (P := L.X.P) jump (h1.pO (recF L.l (L.rc .busy none)) (.head _))
  rw [hL.re] at h2
  refine ⟨h2, ?_⟩
  have h3 := Kn.putRec (r' := L.rc (if jump.isNone then .ready else .done) jump) h1 (.here _)
  exact Kn.pack (O := []) (by simpa using h3)
/-- A round's end: the next one. -/
theorem gk_round (hL : L.Rc) (s' : σ) (h : nx 1000 ks = some .fin) (hi : L.Inv kk s') (l : List Fact) (hl : L.OO s' = l) {bF : Fact} (hbF : bF = L.bF) (hs : SelAll (bF :: dfr L.D :: l) O) : GK (L.R kk s w1) ks f O R := .mk fun a w hr hk => by
  refine nx_sound h ?_
  subst hl hbF
  unfold LX.bF at hs
  have e : ({ L.rc .ready none with state := .busy } : Loop) = L.rc .busy none := by
    have h1 := hL.re .ready none .busy none
    have h2 := hL.pe .ready none
    rw [← h1]
    cases hr : L.rc .ready none
    rw [hr] at h2
    simp only at h2
    subst h2
    rfl
  rw [e] at hs
  obtain ⟨h1, h2⟩ := LX.fin1 hL (jump := none) hk hs
  exact ⟨_, _, h1, true, rfl, .inl s', LX.mod (k0 := 0) h2 (.head _), fun _ => hi, fun h => by cases h⟩
theorem LX.busy (hL : L.Rc) : ({ L.rc .ready none with state := .busy } : Loop) = L.rc .busy none := by
  have h1 := hL.re .ready none .busy none
  have h2 := hL.pe .ready none
  rw [← h1]
  cases hr : L.rc .ready none
  rw [hr] at h2
  simp only at h2
  subst h2
  rfl
/-- A round is left by 'return'. -/
theorem gk_leave (hL : L.Rc) (y : σx) (h : nx 1000 ks = some .ret) (hi : L.Out .ret y) (l : List Fact) (hl : L.OX .ret y = l) {bF : Fact} (hbF : bF = L.bF) (hs : SelAll (bF :: dfr L.D :: l) O) : GK (L.R kk s w1) ks f O R := .mk fun a w hr hk => by
  refine nx_sound h ?_
  subst hl hbF
  unfold LX.bF at hs
  rw [LX.busy hL] at hs
  obtain ⟨h1, h2⟩ := LX.fin1 hL (jump := some .ret) hk hs
  exact ⟨_, _, h1, false, rfl, .inr (.ret, y), LX.mod (k0 := 0) h2 (.head _), fun h => (by cases h), fun _ => hi⟩
/-- A round is left by a jump. -/
theorem gk_leaveX (hL : L.Rc) {id : Nat} (y : σx) (h : nx 1000 ks = some (.out id)) (hi : L.Out (.exit id) y) (l : List Fact) (hl : L.OX (.exit id) y = l) {bF : Fact} (hbF : bF = L.bF) (hs : SelAll (bF :: dfr L.D :: l) O) : GK (L.R kk s w1) ks f O R := .mk fun a w hr hk => by
  refine nx_sound h ?_
  subst hl hbF
  unfold LX.bF at hs
  rw [LX.busy hL] at hs
  obtain ⟨h1, h2⟩ := LX.fin1 hL (jump := some (.exit id)) hk hs
  exact ⟨_, _, h1, false, rfl, .inr (.exit id, y), LX.mod (k0 := 0) h2 (.head _), fun h => (by cases h), fun _ => hi⟩
end
section
variable {X : Cx} {f : Fr} {O O' R : List Fact} {ks k : List KI}
theorem gk_rangeG {κ σ σx α : Type} {g : Operand} {ps : Array Tmp} {cx cy : Code} {gf : Nat} {caps : List Value} {enc : α → List Value} {St : κ → α → κ → Prop} {k0 : κ} {Fin : κ → Prop} {RA : List Fact} {pl : List Nat} (Inv : κ → σ → Prop) (OO : σ → List Fact) (Out : Code → σx → Prop) (OX : Code → σx → List Fact) (s0 : σ) (rest : List Fact)
    (h : nx 1000 ks = some (.range g ps cx cy k)) (hgv : Gx.look X.n f g = some (.func (.func gf) #[] caps.toArray)) (hok : callable X.P gf = true) (hpl : ps = pl.toArray) (hps : ∀ x, (enc x).length = pl.length)
    (hit : ∀ w, Kn X.E X.w0 w O R → IterG X.P gf caps enc St k0 Fin RA w) (hRA : RA ⊆ R) (h0 : Inv k0 s0) (hO : SelAll (OO s0 ++ rest) O)
    (hbody : ∀ (L : LX κ σ σx) (q q' : κ) (x : α) (s : σ) (w : World), L.X = X → L.Rc → L.Inv = Inv → L.OO = OO → L.Out = Out → L.OX = OX → St q x q' → Inv q s → (∀ w' O' R', Kn (finE (L.Γ (.inl s)) w) w w' O' R' → Kn X.E X.w0 w' O' R') → GK (L.A q' s w) [.code cx, .inv (BI (L.R q' s w) cy L.l)] (withP pl (enc x) f) (recF L.l (L.rc .ready none) :: dfr L.D :: OO s) R)
    (hdone : ∀ D s q, Fin q → Inv q s → GK (X.mark D) k f (dfr D :: OO s ++ rest) R)
    (hstop : ∀ D c y, Out c y → GK (X.mark D) (.code c :: k) f (dfr D :: OX c y ++ rest) R) (hrd : X.rd = none := by rfl) : GK X ks f O R := .mk fun a w hr hk => by
  refine nx_sound h ?_
  have hF := Cx.wide hrd
  show (Code.rangeFunc g ps cx cy).wpIn X.F 0 X.P (wpK X.F X.P X.Q k) a w
  refine wpIn_rangeFunc fun fn hfn => ?_
  obtain ⟨L, hL⟩ : ∃ L : LX κ σ σx, L = ⟨X, w.heap.size + 1, w.heap.size, fun st pe => { state := st, pending := pe, fn, tmps := a.tmps, params := ps, assign := cx, body := cy, defers := w.heap.size }, Inv, OO, Out, OX⟩ := ⟨_, rfl⟩
  have hRc : L.Rc := by rw [hL]; exact ⟨fun _ _ => rfl, fun _ _ => rfl, fun _ _ _ _ => rfl⟩
  obtain ⟨W1, hW1⟩ : ∃ W1, W1 = (w.alloc (.deferred (some []))).alloc (.loop (L.rc .ready none)) := ⟨_, rfl⟩
  have hLl : L.l = w.heap.size + 1 := by rw [hL]
  have hLD : L.D = w.heap.size := by rw [hL]
  have hD1 : (w.alloc (.deferred (some []))).heap[w.heap.size]? = some (.deferred (some [])) := World.alloc_heap_new w _
  have k1 : Kn X.E X.w0 W1 (recF L.l (L.rc .ready none) :: dfr L.D :: O) R := by
    rw [hW1]
    refine hk.fresh (N := [recF L.l (L.rc .ready none), dfr L.D]) (bel_alloc (bel_alloc (Below.refl _ _) _) _) (fun φ hφ => ?_) ?_
    · rcases List.mem_cons.1 hφ with rfl | hφ
      · refine ⟨?_, fun b hb => ?_⟩
        · have := World.alloc_heap_new (w.alloc (.deferred (some []))) (.loop (L.rc .ready none))
          rw [World.size_alloc] at this
          show _ = _
          rw [hLl]
          exact this
        · have : b = L.l := hb
          rw [this, hLl, World.size_alloc, World.size_alloc]
          omega
      · obtain rfl := List.mem_singleton.1 hφ
        refine ⟨?_, fun b hb => ?_⟩
        · show _ = _
          rw [hLD]
          exact (Below.heap_alloc _ _ _ (by simp)).trans hD1
        · have : b = L.D := hb
          rw [this, hLD, World.size_alloc, World.size_alloc]
          omega
    · refine List.pairwise_cons.2 ⟨fun φ hφ b h1 h2 => ?_, List.pairwise_singleton _ _⟩
      obtain rfl := List.mem_singleton.1 hφ
      have e1 : b = L.l := h1
      have e2 : b = L.D := h2
      omega
  have kO : Kn X.E X.w0 W1 O R := k1.weak ((List.Sublist.refl _).cons _ |>.cons _) (List.Subset.refl _)
  have kG : Kn X.E X.w0 W1 (L.Γ (.inl s0) :: rest) R := by
    have h1 : SelAll ((recF L.l (L.rc .ready none) :: dfr L.D :: OO s0) ++ rest) (recF L.l (L.rc .ready none) :: dfr L.D :: O) := .cons .here (.cons .here hO)
    have h2 := k1.sel h1 (List.Subset.refl _)
    have h3 := Kn.pack h2
    have e : L.Γ (.inl s0) = packF (recF L.l (L.rc .ready none) :: dfr L.D :: OO s0) := by rw [hL]; rfl
    rw [e]
    exact h3
  have hev : a.eval g = .func (.func gf) #[] caps.toArray := hr.look hgv
  refine ⟨L.l, [markD L.D], W1, { target := .fn (.func gf) caps.toArray, args := #[.func (.yield L.l) #[] #[]] }, W1, gf, (.func (.yield L.l) #[] #[] :: caps).toArray, W1, ?_, ?_, fun f' _ => (by rw [hF]; trivial), ?_, fun e => (by rw [hF] at e; cases e), ?_⟩
  · have : X.F.round = none := by rw [hF]; rfl
    rw [this, run_enterLoop_outer, hLl, hW1, hL]
    rfl
  · have hcv : a.eval (.const (.func (.yield L.l) #[] #[])) = .func (.yield L.l) #[] #[] := rfl
    simp [resolve, hev, Deferred.ofValue, hcv]
  · have hok' := hok
    unfold callable at hok'
    split at hok'
    · rename_i fn' hfn'
      rw [Bool.and_eq_true] at hok'
      have hn' : ¬ fn'.name = "runtime.NumGoroutine" := by simpa using hok'.2
      have hb' : ¬ fn'.body = none := fun e => by rw [e] at hok'; simp at hok'
      simp [invoke, callFunc, hfn', hn', hb']
    · cases hok'
  · rw [hF]
    refine callsIn_wide.2 ((hit W1 kO L.l _ L.Γ L.Iv L.Dn (.inl s0) (by show L.Inv k0 s0; rw [hL]; exact h0) (kG.rO (.head _)) (fun ψ hψ b h1 h2 => kG.disR _ (.head _) ψ (hRA hψ) b h1 h2) ?_).mono ?_)
    · intro q x q' t wq hx hI hm
      cases t with
      | inr y => exact hI.elim
      | inl s =>
        have hI' : Inv q s := by have : L.Inv q s := hI; rw [hL] at this; exact this
        have kq : Kn X.E X.w0 wq (L.Γ (.inl s) :: rest) R := kG.mod hm (.here _)
        have kA : Kn (L.A q' s wq).E (L.A q' s wq).w0 wq (recF L.l (L.rc .ready none) :: dfr L.D :: OO s) R := by
          have h1 := Kn.startM (φ := L.Γ (.inl s)) (E := finE (L.Γ (.inl s)) wq) (R := R) hm.rd (fun b hb => (finE_mem hm.rd.2 b).2 hb) (fun ψ hψ => ⟨kq.rR hψ, fun b hb => kq.disR _ (.head _) ψ hψ b hb⟩)
          have e : L.Γ (.inl s) = packF (recF L.l (L.rc .ready none) :: dfr L.D :: OO s) := by rw [hL]; rfl
          have h2 : Kn (finE (L.Γ (.inl s)) wq) wq wq [packF (recF L.l (L.rc .ready none) :: dfr L.D :: OO s)] R := by rw [← e]; exact h1
          have h3 := Kn.unpack h2
          show Kn (finE (L.Γ (.inl s)) wq) wq wq _ R
          simpa using h3
        have hGK := hbody L q q' x s wq (by rw [hL]) hRc (by rw [hL]) (by rw [hL]) (by rw [hL]) (by rw [hL]) hx hI' (fun w' O' R' hk' => kq.up (fun b hb => finE_in b hb) hk')
        have hLX : L.X = X := by rw [hL]
        have hl : wq.heap[L.l]? = some (.loop (L.rc .ready none)) := kA.pO (recF L.l (L.rc .ready none)) (.head _)
        have hprm : (L.rc .ready none).params = ps := by rw [hL]
        have hy := run_yield (P := X.P) (args := (enc x).toArray) hl (by rw [hprm, hpl]; simpa using hps x)
        refine ⟨_, _, _, _, hy, roundIn_of_wpIn trivial ?_⟩
        have e1 : (L.rc .ready none).assign = cx := by rw [hL]
        have e2 : (L.rc .ready none).body = cy := by rw [hL]
        have e3 : (L.rc .ready none).tmps = a.tmps := by rw [hL]
        rw [e1, e2, e3, hprm, hpl]
        have hrel : Rel (L.A q' s wq).n (L.A q' s wq).ds ⟨(pl.zip (enc x)).foldl (fun t q => t.setIfInBounds q.1 q.2) a.tmps, []⟩ (withP pl (enc x) f) := by
          show Rel L.X.n [] _ _
          rw [hLX]
          exact Rel.withP pl (enc x) hr.noDs
        have hw := hGK.out _ wq hrel kA
        have eP : L.X.P = X.P := by rw [hLX]
        have ez : (pl.toArray.zip (enc x).toArray).foldl (fun tmps (p : Nat × Value) => tmps.setIfInBounds p.1 p.2) a.tmps = (pl.zip (enc x)).foldl (fun t q => t.setIfInBounds q.1 q.2) a.tmps := by
          rw [← Array.foldl_toList]
          simp
        rw [show ((pl.toArray.zip (enc x).toArray).foldl (fun tmps (t, a) => tmps.setIfInBounds t a) a.tmps) = _ from ez]
        have hw' : cx.wpIn (Fence.wide.inRound L.l) 0 X.P (wpK (L.A q' s wq).F (L.A q' s wq).P (L.A q' s wq).Q [.inv (BI (L.R q' s wq) cy L.l)]) ⟨(pl.zip (enc x)).foldl (fun t q => t.setIfInBounds q.1 q.2) a.tmps, []⟩ wq := by rw [← eP]; exact hw
        refine wpIn_mono hw' fun e a' w' hq => ?_
        cases e with
        | normal =>
          obtain ⟨w2, hb, hc⟩ := hq
          refine ⟨w2, by rw [← eP]; exact hb, ?_⟩
          have hc' : cy.wpIn (Fence.wide.inRound L.l) 0 X.P (L.R q' s wq).Q a' w2 := by rw [← eP]; exact hc
          refine wpIn_mono hc' fun e a2 w3 hq2 => ?_
          rw [← eP]
          cases e with
          | panic c => exact hq2.elim
          | _ => exact hq2
        | panic c => exact hq.elim
        | _ => exact hq.elim
    · rintro e w2 ⟨⟨v, rfl⟩, t', hm, hfin⟩
      have k2 : Kn X.E X.w0 w2 (L.Γ t' :: rest) R := kG.mod hm (.here _)
      have hfin' : ∀ (st : LoopState) (pe : Option Code) (l : List Fact), st ≠ .busy → L.Γ t' = packF (recF L.l (L.rc st pe) :: dfr L.D :: l) → ∃ w4, (Instr.endLoop L.l).run X.P w2 = .ok pe w4 ∧ Kn X.E X.w0 w4 (dfr L.D :: l ++ rest) R := fun st pe l hst e => by
        rw [e] at k2
        have h3 := Kn.unpack k2
        have h4 : (recF L.l (L.rc st pe)).p w2 := h3.pO _ (by simp)
        have h5 := run_endLoop (P := X.P) h4 (by rw [hRc.st]; exact hst)
        refine ⟨w2.putObj L.l (.loop { L.rc st pe with state := .exhausted }), h5.trans (congrArg (fun q => Result.ok q _) (hRc.pe st pe)), ?_⟩
        have h6 := Kn.putRec (r' := { L.rc st pe with state := .exhausted }) h3 (.here _)
        exact h6.weak (List.sublist_cons_self _ _) (List.Subset.refl _)
      have hrel : Rel (X.mark L.D).n (X.mark L.D).ds { a with defers := [markD L.D] ++ a.defers } f := ⟨hr.size, by show [markD L.D] ++ a.defers = markD L.D :: X.ds; rw [hr.defers]; rfl, hr.at_⟩
      cases t' with
      | inl s =>
        obtain ⟨q, hfq, hI⟩ : ∃ q, Fin q ∧ Inv q s := by
          rcases hfin with ⟨q, hq, h⟩ | h
          · have : L.Inv q s := h
            rw [hL] at this
            exact ⟨q, hq, this⟩
          · exact h.elim
        obtain ⟨w4, h5, h6⟩ := hfin' .ready none (OO s) (by simp) (by rw [hL]; rfl)
        refine ⟨none, w4, h5, ?_⟩
        have := (hdone L.D s q hfq hI).out _ w4 hrel h6
        rw [show (X.mark L.D).F = X.F from rfl, hF] at this
        exact this
      | inr y =>
        have hI : Out y.1 y.2 := by
          rcases hfin with ⟨_, _, h⟩ | h
          · exact h.elim
          · have : L.Out y.1 y.2 := h
            rw [hL] at this
            exact this
        obtain ⟨w4, h5, h6⟩ := hfin' .done (some y.1) (OX y.1 y.2) (by simp) (by rw [hL]; rfl)
        refine ⟨some y.1, w4, h5, ?_⟩
        have := (hstop L.D y.1 y.2 hI).out _ w4 hrel h6
        rw [show (X.mark L.D).F = X.F from rfl, hF] at this
        exact this
end
end Go.Proofs.Ytdkgmgfadpnhbaa.Gm

