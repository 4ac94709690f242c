/- The walk by reckoned steps: what maps tell, as functions; facts that hide something. The walk by reckoned steps: loops over functions: what an iterator gives, what a loop over it does. The walk by reckoned steps: ranges over maps (any order); a map cleared. -/
import Derived.Test.YtaghmffgoomebaaGreatGxN
import Derived.Test.YtaghmffgoomebaaGreatGxQ
import Derived.Test.YtaghmffgoomebaaGreatGxL
import Derived.Maps.RangeRun
import Derived.Maps.Range
set_option linter.unusedVariables false
set_option linter.unusedSimpArgs false
namespace Go.Proofs.YtaghmffgoomebaaGreat.Gx
open Go.RowKit Mem
section
variable {K : Type} [DecidableEq K]
def mg (k : K) (M : List (K × Value)) : Option Value := (lkG k M 0).map (·.2)
theorem zeL (k : K) : ∀ (M : List (K × Value)) (i : Nat), lkG k M (i + 1) = (lkG k M i).map fun p => (p.1 + 1, p.2)
 | [], _ => rfl
 | (a, v) :: r, i => by
   unfold lkG
   by_cases h : k = a
   ·rw [if_pos h, if_pos h]; rfl
   ·rw [if_neg h, if_neg h, zeL k r (i + 1)]
theorem zlk (k : K) : mg k [] = none := rfl
theorem zcz (k a : K) (v : Value) (r : List (K × Value)) : mg k ((a, v) :: r) = if k = a then some v else mg k r := by
 unfold mg
 have e : lkG k ((a, v) :: r) 0 = if k = a then some (0, v) else lkG k r 1 := rfl
 rw [e]
 by_cases h : k = a
 ·rw [if_pos h, if_pos h]; rfl
 ·rw [if_neg h, if_neg h, zeL]
  cases lkG k r 0 <;> rfl
theorem zll {k : K} : ∀ {M : List (K × Value)}, mg k M = none ↔ k ∉ M.map (·.1)
 | [] => by simp [zlk]
 | (a, v) :: r => by
   rw [zcz]
   by_cases h : k = a
   ·simp [h]
   ·rw [if_neg h, zll (M := r)]; simp [h]
theorem zoK (k : K) (v : Value) (k' : K) : ∀ M : List (K × Value), mg k' (msG k v M) = if k' = k then some v else mg k' M
 | [] => by unfold msG; rw [zcz, zlk]
 | (a, u) :: r => by
   unfold msG
   by_cases h : k = a
   ·rw [if_pos h, zcz, zcz]
    subst h
    by_cases h' : k' = k
    ·rw [if_pos h', if_pos h']
    ·rw [if_neg h', if_neg h', if_neg h']
   ·rw [if_neg h, zcz, zcz, zoK k v k' r]
    by_cases h' : k' = a
    ·rw [if_pos h', if_pos h', if_neg (fun e => h (e.symm.trans h'))]
    ·rw [if_neg h', if_neg h']
theorem zje (k : K) (v : Value) : ∀ M : List (K × Value), (msG k v M).map (·.1) = if k ∈ M.map (·.1) then M.map (·.1) else M.map (·.1) ++ [k]
 | [] => rfl
 | (a, u) :: r => by
   unfold msG
   by_cases h : k = a
   ·rw [if_pos h, if_pos (by simp [h])]; rfl
   ·rw [if_neg h]
    show a :: (msG k v r).map (·.1) = if k ∈ a :: r.map (·.1) then a :: r.map (·.1) else (a :: r.map (·.1)) ++ [k]
    rw [zje k v r]
    by_cases h2 : k ∈ r.map (·.1)
    ·rw [if_pos h2, if_pos (.tail _ h2)]
    ·rw [if_neg h2, if_neg (fun e => (List.mem_cons.1 e).elim h h2)]; first | rfl | done
theorem zlc {k : K} {v : Value} {M : List (K × Value)} (h : (M.map (·.1)).Nodup) : ((msG k v M).map (·.1)).Nodup := by
 rw [zje]
 split
 ·exact h
 ·rename_i hk
  exact List.nodup_append.2 ⟨h, by simp, fun a ha b hb e => by
   obtain rfl := List.mem_singleton.1 hb
   exact hk (e ▸ ha)⟩
theorem zoN (k : K) : ∀ M : List (K × Value), mdG k M = match M with | [] => [] | (a, u) :: r => if k = a then r else (a, u) :: mdG k r
 | [] => rfl
 | (a, u) :: r => by
   show (match lkG k ((a, u) :: r) 0 with | some (n, _) => ((a, u) :: r).eraseIdx n | none => (a, u) :: r) = _
   unfold lkG
   by_cases h : k = a
   ·rw [if_pos h]
    simp only [if_pos h, List.eraseIdx_zero, List.tail_cons]
   ·rw [if_neg h, zeL]
    unfold mdG
    simp only [if_neg h]
    cases lkG k r 0 <;> rfl
theorem zoL (k k' : K) : ∀ M : List (K × Value), (M.map (·.1)).Nodup → mg k' (mdG k M) = if k' = k then none else mg k' M
 | [], _ => by rw [zoN, zlk]; simp
 | (a, u) :: r, hn => by
   have hn' := List.nodup_cons.1 hn
   rw [zoN]
   by_cases h : k = a
   ·simp only [if_pos h]
    subst h
    rw [zcz]
    by_cases h' : k' = k
    ·rw [if_pos h', h']; exact zll.2 hn'.1
    ·rw [if_neg h', if_neg h']
   ·simp only [if_neg h]
    rw [zcz, zcz, zoL k k' r hn'.2]
    by_cases h' : k' = a
    ·rw [if_pos h', if_pos h', if_neg (fun e => h (e.symm.trans h'))]
    ·rw [if_neg h', if_neg h']
theorem zpY (k : K) (M : List (K × Value)) : (mdG k M).Sublist M := by
 unfold mdG
 split
 ·exact List.eraseIdx_sublist _ _
 ·exact List.Sublist.refl _
theorem zle {k : K} {M : List (K × Value)} (h : (M.map (·.1)).Nodup) : ((mdG k M).map (·.1)).Nodup := h.sublist ((zpY k M).map _)
structure MapIs (M : List (K × Value)) (g : K → Option Value) : Prop where
 nodup : (M.map (·.1)).Nodup
 get : ∀ k, mg k M = g k
theorem MapIs.nil : MapIs ([] : List (K × Value)) fun _ => none := ⟨List.nodup_nil, fun _ => rfl⟩
theorem MapIs.set {M : List (K × Value)} {g g' : K → Option Value} {k : K} {v : Value} (h : MapIs M g) (hg : ∀ k', g' k' = if k' = k then some v else g k') : MapIs (msG k v M) g' :=
 ⟨zlc h.nodup, fun k' => by rw [zoK, hg, h.get]⟩
theorem MapIs.del {M : List (K × Value)} {g g' : K → Option Value} {k : K} (h : MapIs M g) (hg : ∀ k', g' k' = if k' = k then none else g k') : MapIs (mdG k M) g' :=
 ⟨zle h.nodup, fun k' => by rw [zoL k k' M h.nodup, hg, h.get]⟩
theorem MapIs.congr {M : List (K × Value)} {g g' : K → Option Value} (h : MapIs M g) (hg : ∀ k, g' k = g k) : MapIs M g' := ⟨h.nodup, fun k => (h.get k).trans (hg k).symm⟩
end
end Go.Proofs.YtaghmffgoomebaaGreat.Gx
namespace Go.Proofs.YtaghmffgoomebaaGreat.Gx
open Go.RowKit Mem
theorem Kn.up {E E' : List Nat} {w0 wq w : World} {φ : Fact} {rest O R R' : List Fact} (h : Kn E w0 wq (φ :: rest) R) (hE : ∀ b, b ∈ E' → φ.S b) (g : Kn E' wq w O R') : Kn E w0 w O R' where
 os := g.os.trans h.os
 tape := g.tape.trans h.tape
 output := g.output.trans h.output
 size := Nat.le_trans h.size g.size
 block b hb hn := by
  refine (g.block b (Nat.lt_of_lt_of_le hb h.size) fun hE' => ?_).trans (h.block b hb hn)
  rcases h.ownS _ (.head _) b (hE b hE') with h1 | h1
  ·omega
  ·exact hn h1
 ownS ψ hψ b hb := by
  rcases g.ownS ψ hψ b hb with h1 | h1
  ·exact .inl (Nat.le_trans h.size h1)
  ·exact h.ownS _ (.head _) b (hE b h1)
 ltO := g.ltO
 ltR := g.ltR
 pO := g.pO
 pR := g.pR
 disO := g.disO
 disR := g.disR
theorem Mod.refl {w : World} {φ : Fact} (h : Rd1 w φ) : Mod w w φ φ := ⟨rfl, rfl, rfl, Nat.le_refl _, fun _ _ _ => rfl, h.1, fun b hb => ⟨.inl hb, h.2 b hb⟩⟩
theorem Mod.trans {w w1 w2 : World} {φ ψ χ : Fact} (h : Mod w w1 φ ψ) (g : Mod w1 w2 ψ χ) : Mod w w2 φ χ where
 os := g.os.trans h.os
 tape := g.tape.trans h.tape
 output := g.output.trans h.output
 size := Nat.le_trans h.size g.size
 block b hb hn := by
  refine (g.block b (Nat.lt_of_lt_of_le hb h.size) fun hS => ?_).trans (h.block b hb hn)
  rcases (h.S b hS).1 with h1 | h1
  ·exact hn h1
  ·omega
 p := g.p
 S b hb := by
  refine ⟨?_, (g.S b hb).2⟩
  rcases (g.S b hb).1 with h1 | h1
  ·exact (h.S b h1).1
  ·exact .inr (Nat.le_trans h.size h1)
theorem Mod.rd {w w1 : World} {φ ψ : Fact} (h : Mod w w1 φ ψ) : Rd1 w1 ψ := ⟨h.p, fun b hb => (h.S b hb).2⟩
noncomputable def finE (φ : Fact) (w : World) : List Nat := (List.range w.heap.size).filter fun b => tB (φ.S b)
theorem zaB {φ : Fact} {w : World} (h : ∀ b, φ.S b → b < w.heap.size) (b : Nat) : b ∈ finE φ w ↔ φ.S b := by
 unfold finE
 rw [List.mem_filter, List.mem_range, zaQ]
 exact ⟨fun h => h.2, fun hb => ⟨h b hb, hb⟩⟩
theorem zbT {φ : Fact} {w : World} (b : Nat) (h : b ∈ finE φ w) : φ.S b := by
 unfold finE at h
 rw [List.mem_filter, zaQ] at h
 exact h.2
def recF (l : Nat) (r : Loop) : Fact := ⟨fun b => b = l, fun w => w.heap[l]? = some (.loop r), fun w w' h hp => (h l rfl).trans hp⟩
theorem Kn.putO {E : List Nat} {w0 w : World} {O O' R : List Fact} {φ ψ : Fact} {b : Nat} {o : Obj} (h : Kn E w0 w O R) (hu : Upd φ ψ O O') (hS : ∀ k, φ.S k ↔ k = b) (hS' : ∀ k, ψ.S k ↔ k = b) (hp : (w.putObj b o).heap[b]? = some o → ψ.p (w.putObj b o)) : Kn E w0 (w.putObj b o) O' R := by
 have hlt : b < w.heap.size := h.ltO _ hu.mem b ((hS b).2 rfl)
 refine h.upd hu rfl rfl rfl (by simp) (fun k hk hne => World.putObj_heap_other (fun e => hne ((hS k).2 e))) (hp (World.putObj_heap_same hlt)) (fun k hk => ?_)
 obtain rfl := (hS' k).1 hk
 exact ⟨.inl ((hS k).2 rfl), by simpa using hlt⟩
theorem Kn.putRec {E : List Nat} {w0 w : World} {O O' R : List Fact} {l : Nat} {r r' : Loop} (h : Kn E w0 w O R) (hu : Upd (recF l r) (recF l r') O O') : Kn E w0 (w.putObj l (.loop r')) O' R :=
 h.putO hu (fun _ => Iff.rfl) (fun _ => Iff.rfl) id
def YC (P : Program) (l : Nat) (args : List Value) (w : World) (J : Bool → World → Prop) : Prop := YieldAt Fence.wide 0 P l args.toArray w fun e w' => ∃ b, e = .returned (.bool b) ∧ J b w'
theorem znZ (r : Option Nat) (P : Program) : Machine.fenced P (fenceR r) = Machine.fenced P Fence.wide := by cases r <;> rfl
theorem roundR {r : Option Nat} {n m : Nat} {P : Program} {l : Nat} {f : FuncId} {tmps : Array Value} {assign body : Code} {w : World} {R : Ending → World → Prop} (h : RoundIn Fence.wide n P l f tmps assign body w R) : RoundIn (fenceR r) m P l f tmps assign body w R := by
 refine ⟨zcn r f, fun c cs _ => ?_⟩
 rw [znZ]
 exact h.2 c cs (room_wide _)
section
variable {X : Cx} {f : Fr} {O O' R : List Fact} {ks k : List KI} {ops rest : List Oper} {o : Oper}
theorem zia {l : Nat} {c : Call} {x : Operand} {vals : List Value} {dd : Nat} {τ : Type} (Γ : τ → Fact) (t : τ) (J : Bool → τ → Prop) {OO : τ → List Fact}
 (hw : wantG X.n f ops o.guard = some true) (hd : o.dst = some dd) (ho : o.op = .call c) (hc : c.callee = .value x) (hx : look X.n f x = some (.func (.yield l) #[] #[])) (ha : lookL X.n f c.args.toList = some vals)
 (hY : ∀ w, Kn X.E X.w0 w O R → YC X.P l vals w fun b w' => ∃ t', Mod w w' (Γ t) (Γ t') ∧ J b t') (hu : ∀ t', Upd (Γ t) (Γ t') O (OO t'))
 (hg : ∀ b t', J b t' → G X ops rest k ((dd, .bool b) :: f) (OO t') R) : G X ops (o :: rest) k f O R := .mk fun a w hr hk => by
 have h1 := zaV hr hw
 unfold wpListIn
 rw [if_pos h1]
 obtain ⟨fn, tmps, assign, body, hy, hR⟩ := hY w hk
 have hev : a.eval x = .func (.yield l) #[] #[] := hr.look hx
 have hargs : c.args.map a.eval = vals.toArray := by apply Array.ext'; simpa using zaR hr ha
 have hrun : (execOp a.eval o).run X.P w = .ok (.round l fn tmps assign body) w := by
  simp [execOp, ho, resolve, hc, hev, Deferred.ofValue, hargs, invoke, hy]
 refine ⟨fun f' _ => zcn _ f', ?_⟩
 rw [Oper.semAt_eq _ _ _ (fun c' e => by rw [ho] at e; cases e), hrun]
 refine ⟨fun e => (by rw [show X.F = fenceR X.rn from rfl, zeb] at e; cases e), (roundR hR).mono ?_⟩
 rintro e w' ⟨b, rfl, t', hm, hJ⟩
 exact (hg b t' hJ).out _ w' (hr.put1 hd _) (hk.mod hm (hu t'))
end
def IterOk {α : Type} (P : Program) (gf : FuncId) (caps : List Value) (enc : α → List Value) (xs : List α) (RA : List Fact) (w1 : World) : Prop :=
 ∀ (l : Nat) (τ : Type) (Γ : τ → Fact) (Inv : Nat → τ → Prop) (Dn : τ → Prop) (t0 : τ), Inv 0 t0 → Rd1 w1 (Γ t0) → (∀ ψ, ψ ∈ RA → ∀ b, (Γ t0).S b → ¬ ψ.S b) →
  (∀ k x t w, xs[k]? = some x → Inv k t → Mod w1 w (Γ t0) (Γ t) → YC P l (enc x) w fun b w' => ∃ t', Mod w w' (Γ t) (Γ t') ∧ (b = true → Inv (k + 1) t') ∧ (b = false → Dn t')) →
  Calls P gf (.func (.yield l) #[] #[] :: caps).toArray w1 fun e w' => (∃ v, e = .returned v) ∧ ∃ t', Mod w1 w' (Γ t0) (Γ t') ∧ (Inv xs.length t' ∨ Dn t')
def withP : List Nat → List Value → Fr → Fr
 | p :: ps, v :: vs, f => withP ps vs ((p, v) :: f)
 | _, _, f => f
theorem Rel.withP {n : Nat} {ds : List Deferred} : ∀ (ps : List Nat) (vs : List Value) {tmps : Array Value} {f : Fr}, Rel n ds ⟨tmps, ds⟩ f → Rel n ds ⟨(ps.zip vs).foldl (fun t q => t.setIfInBounds q.1 q.2) tmps, ds⟩ (withP ps vs f)
 | [], _, _, _, h => h
 | _ :: _, [], _, _, h => h
 | p :: ps, v :: vs, tmps, f, h => Rel.withP ps vs (h.put (some p) v)
theorem Rel.noDs {n : Nat} {ds : List Deferred} {a : Act} {f : Fr} (h : Rel n ds a f) : Rel n [] ⟨a.tmps, []⟩ f := ⟨h.size, rfl, h.at_⟩
def BI (X : Cx) (c : Code) (l : Nat) : Act → World → Prop := fun a w => ∃ w2, (Instr.beginRound l).run X.P w = .ok () w2 ∧ c.wpIn X.F 0 X.P X.Q a w2
structure LX (σ σx : Type) where
 X : Cx
 l : Nat
 D : Nat
 rc : LoopState → Option Code → Loop
 Inv : Nat → σ → Prop
 OO : σ → List Fact
 Out : Code → σx → Prop
 OX : Code → σx → List Fact
section
variable {σ σx : Type}
def LX.Γ (L : LX σ σx) : σ ⊕ (Code × σx) → Fact
 | .inl s => packF (recF L.l (L.rc .ready none) :: dfr L.D :: L.OO s)
 | .inr y => packF (recF L.l (L.rc .done (some y.1)) :: dfr L.D :: L.OX y.1 y.2)
def LX.Iv (L : LX σ σx) (k : Nat) : σ ⊕ (Code × σx) → Prop
 | .inl s => L.Inv k s
 | .inr _ => False
def LX.Dn (L : LX σ σx) : σ ⊕ (Code × σx) → Prop
 | .inl _ => False
 | .inr y => L.Out y.1 y.2
def LX.J (L : LX σ σx) (k : Nat) (s : σ) (w : World) (b : Bool) (w' : World) : Prop := ∃ t', Mod w w' (L.Γ (.inl s)) (L.Γ t') ∧ (b = true → L.Iv (k + 1) t') ∧ (b = false → L.Dn t')
noncomputable def LX.R (L : LX σ σx) (k : Nat) (s : σ) (w : World) : Cx :=
 ⟨L.X.P, L.X.T, L.X.fn, L.X.n, finE (L.Γ (.inl s)) w, w, fun _ _ => True, [], some (L.l, roundPost L.X.P L.l fun e w' => ∃ b, e = .returned (.bool b) ∧ L.J k s w b w')⟩
noncomputable def LX.A (L : LX σ σx) (k : Nat) (s : σ) (w : World) : Cx :=
 ⟨L.X.P, L.X.T, L.X.fn, L.X.n, finE (L.Γ (.inl s)) w, w, fun _ _ => True, [], some (L.l, fun _ _ _ => False)⟩
def LX.bF (L : LX σ σx) : Fact := recF L.l { L.rc .ready none with state := .busy }
variable {L : LX σ σx} {kk : Nat} {s : σ} {w1 : World} {f : Fr} {O O' R : List Fact} {ks k : List KI}
theorem zgr {c : Code} (h : nx 1000 ks = some (.inv (BI (L.R kk s w1) c L.l))) (hs : Sel (recF L.l (L.rc .ready none)) O O') (hrc : (L.rc .ready none).state = .ready) (hg : ∀ bF, bF = L.bF → GK (L.R kk s w1) [.code c] f (bF :: O') R) : GK (L.A kk s w1) ks f O R := .mk fun a w hr hk => by
 refine zaI h ?_
 have h1 := hk.perm hs.perm
 have h2 := Kn.putRec (r' := { L.rc .ready none with state := .busy }) h1 (.here _)
 exact ⟨_, run_beginRound (h1.pO (recF L.l (L.rc .ready none)) (.head _)) hrc, (hg _ rfl).out a _ hr h2⟩
theorem LX.mod {k0 : Nat} {w : World} {t' : σ ⊕ (Code × σx)} (h : Kn (L.R kk s w1).E (L.R kk s w1).w0 w O R) (hm : L.Γ t' ∈ O) : Mod w1 w (L.Γ (.inl s)) (L.Γ t') :=
 Kn.outM h (fun b hb => zbT b hb) hm
structure LX.Rc (L : LX σ σx) : Prop where
 st : ∀ st pe, (L.rc st pe).state = st
 pe : ∀ st pe, (L.rc st pe).pending = pe
 re : ∀ st pe st' pe', { L.rc st pe with state := st', pending := pe' } = L.rc st' pe'
theorem LX.fin1 (hL : L.Rc) {jump : Option Code} {w : World} {l : List Fact} (hk : Kn (L.R kk s w1).E (L.R kk s w1).w0 w O R) (hs : SelAll (recF L.l (L.rc .busy none) :: dfr L.D :: l) O) :
 (Instr.endRound L.l jump).run L.X.P w = .ok (.bool jump.isNone) (w.putObj L.l (.loop (L.rc (if jump.isNone then .ready else .done) jump))) ∧ Kn (L.R kk s w1).E (L.R kk s w1).w0 (w.putObj L.l (.loop (L.rc (if jump.isNone then .ready else .done) jump))) [packF (recF L.l (L.rc (if jump.isNone then .ready else .done) jump) :: dfr L.D :: l)] R := by
 have h1 := hk.sel hs (List.Subset.refl _)
 have h2 := run_endRound (P := L.X.P) jump (h1.pO (recF L.l (L.rc .busy none)) (.head _))
 rw [hL.re] at h2
 refine ⟨h2, ?_⟩
 have h3 := Kn.putRec (r' := L.rc (if jump.isNone then .ready else .done) jump) h1 (.here _)
 exact Kn.pack (O := []) (by simpa using h3)
theorem zgl (hL : L.Rc) (s' : σ) (h : nx 1000 ks = some .fin) (hi : L.Inv (kk + 1) s') (l : List Fact) (hl : L.OO s' = l) {bF : Fact} (hbF : bF = L.bF) (hs : SelAll (bF :: dfr L.D :: l) O) : GK (L.R kk s w1) ks f O R := .mk fun a w hr hk => by
 refine zaI h ?_
 subst hl hbF
 unfold LX.bF at hs
 have e : ({ L.rc .ready none with state := .busy } : Loop) = L.rc .busy none := by
  have h1 := hL.re .ready none .busy none
  have h2 := hL.pe .ready none
  rw [← h1]
  cases hr : L.rc .ready none
  rw [hr] at h2
  simp only at h2
  subst h2
  rfl
 rw [e] at hs
 obtain ⟨h1, h2⟩ := LX.fin1 hL (jump := none) hk hs
 exact ⟨_, _, h1, true, rfl, .inl s', LX.mod (k0 := 0) h2 (.head _), fun _ => hi, fun h => by cases h⟩
theorem LX.busy (hL : L.Rc) : ({ L.rc .ready none with state := .busy } : Loop) = L.rc .busy none := by
 have h1 := hL.re .ready none .busy none
 have h2 := hL.pe .ready none
 rw [← h1]
 cases hr : L.rc .ready none
 rw [hr] at h2
 simp only at h2
 subst h2
 rfl
theorem zgp (hL : L.Rc) (y : σx) (h : nx 1000 ks = some .ret) (hi : L.Out .ret y) (l : List Fact) (hl : L.OX .ret y = l) {bF : Fact} (hbF : bF = L.bF) (hs : SelAll (bF :: dfr L.D :: l) O) : GK (L.R kk s w1) ks f O R := .mk fun a w hr hk => by
 refine zaI h ?_
 subst hl hbF
 unfold LX.bF at hs
 rw [LX.busy hL] at hs
 obtain ⟨h1, h2⟩ := LX.fin1 hL (jump := some .ret) hk hs
 exact ⟨_, _, h1, false, rfl, .inr (.ret, y), LX.mod (k0 := 0) h2 (.head _), fun h => (by cases h), fun _ => hi⟩
end
def Cx.mark (X : Cx) (D : Nat) : Cx := { X with ds := markD D :: X.ds }
section
variable {X : Cx} {f : Fr} {O O' R : List Fact} {ks k : List KI}
theorem zgn {σ σx α : Type} {g : Operand} {ps : Array Tmp} {cx cy : Code} {gf : Nat} {caps : List Value} {enc : α → List Value} {xs : List α} {RA : List Fact} {pl : List Nat} (Inv : Nat → σ → Prop) (OO : σ → List Fact) (Out : Code → σx → Prop) (OX : Code → σx → List Fact) (s0 : σ) (rest : List Fact)
 (h : nx 1000 ks = some (.range g ps cx cy k)) (hgv : look X.n f g = some (.func (.func gf) #[] caps.toArray)) (hok : callable X.P gf = true) (hpl : ps = pl.toArray) (hps : ∀ x, (enc x).length = pl.length)
 (hit : ∀ w, Kn X.E X.w0 w O R → IterOk X.P gf caps enc xs RA w) (hRA : RA ⊆ R) (h0 : Inv 0 s0) (hO : SelAll (OO s0 ++ rest) O)
 (hbody : ∀ (L : LX σ σx) (q : Nat) (x : α) (s : σ) (w : World), L.X = X → L.Rc → L.Inv = Inv → L.OO = OO → L.Out = Out → L.OX = OX → xs[q]? = some x → Inv q s → (∀ w' O' R', Kn (finE (L.Γ (.inl s)) w) w w' O' R' → Kn X.E X.w0 w' O' R') → GK (L.A q s w) [.code cx, .inv (BI (L.R q s w) cy L.l)] (withP pl (enc x) f) (recF L.l (L.rc .ready none) :: dfr L.D :: OO s) R)
 (hdone : ∀ D s, Inv xs.length s → GK (X.mark D) k f (dfr D :: OO s ++ rest) R)
 (hstop : ∀ D c y, Out c y → GK (X.mark D) (.code c :: k) f (dfr D :: OX c y ++ rest) R) (hrd : X.rd = none := by rfl) : GK X ks f O R := .mk fun a w hr hk => by
 refine zaI h ?_
 have hF := Cx.wide hrd
 show (Code.rangeFunc g ps cx cy).wpIn X.F 0 X.P (wpK X.F X.P X.Q k) a w
 refine wpIn_rangeFunc fun fn hfn => ?_
 obtain ⟨L, hL⟩ : ∃ L : LX σ σx, L = ⟨X, w.heap.size + 1, w.heap.size, fun st pe => { state := st, pending := pe, fn, tmps := a.tmps, params := ps, assign := cx, body := cy, defers := w.heap.size }, Inv, OO, Out, OX⟩ := ⟨_, rfl⟩
 have hRc : L.Rc := by rw [hL]; exact ⟨fun _ _ => rfl, fun _ _ => rfl, fun _ _ _ _ => rfl⟩
 obtain ⟨W1, hW1⟩ : ∃ W1, W1 = (w.alloc (.deferred (some []))).alloc (.loop (L.rc .ready none)) := ⟨_, rfl⟩
 have hLl : L.l = w.heap.size + 1 := by rw [hL]
 have hLD : L.D = w.heap.size := by rw [hL]
 have hD1 : (w.alloc (.deferred (some []))).heap[w.heap.size]? = some (.deferred (some [])) := World.alloc_heap_new w _
 have k1 : Kn X.E X.w0 W1 (recF L.l (L.rc .ready none) :: dfr L.D :: O) R := by
  rw [hW1]
  refine hk.fresh (N := [recF L.l (L.rc .ready none), dfr L.D]) (zaF (zaF (Below.refl _ _) _) _) (fun φ hφ => ?_) ?_
  ·rcases List.mem_cons.1 hφ with rfl | hφ
   ·refine ⟨?_, fun b hb => ?_⟩
    ·have := World.alloc_heap_new (w.alloc (.deferred (some []))) (.loop (L.rc .ready none))
     rw [World.size_alloc] at this
     show _ = _
     rw [hLl]
     exact this
    ·have : b = L.l := hb
     rw [this, hLl, World.size_alloc, World.size_alloc]
     omega
   ·obtain rfl := List.mem_singleton.1 hφ
    refine ⟨?_, fun b hb => ?_⟩
    ·show _ = _
     rw [hLD]
     exact (Below.heap_alloc _ _ _ (by simp)).trans hD1
    ·have : b = L.D := hb
     rw [this, hLD, World.size_alloc, World.size_alloc]
     omega
  ·refine List.pairwise_cons.2 ⟨fun φ hφ b h1 h2 => ?_, List.pairwise_singleton _ _⟩
   obtain rfl := List.mem_singleton.1 hφ
   have e1 : b = L.l := h1
   have e2 : b = L.D := h2
   omega
 have kO : Kn X.E X.w0 W1 O R := k1.weak ((List.Sublist.refl _).cons _ |>.cons _) (List.Subset.refl _)
 have kG : Kn X.E X.w0 W1 (L.Γ (.inl s0) :: rest) R := by
  have h1 : SelAll ((recF L.l (L.rc .ready none) :: dfr L.D :: OO s0) ++ rest) (recF L.l (L.rc .ready none) :: dfr L.D :: O) := .cons .here (.cons .here hO)
  have h2 := k1.sel h1 (List.Subset.refl _)
  have h3 := Kn.pack h2
  have e : L.Γ (.inl s0) = packF (recF L.l (L.rc .ready none) :: dfr L.D :: OO s0) := by rw [hL]; rfl
  rw [e]
  exact h3
 have hev : a.eval g = .func (.func gf) #[] caps.toArray := hr.look hgv
 refine ⟨L.l, [markD L.D], W1, { target := .fn (.func gf) caps.toArray, args := #[.func (.yield L.l) #[] #[]] }, W1, gf, (.func (.yield L.l) #[] #[] :: caps).toArray, W1, ?_, ?_, fun f' _ => (by rw [hF]; trivial), ?_, fun e => (by rw [hF] at e; cases e), ?_⟩
 ·have : X.F.round = none := by rw [hF]; rfl
  rw [this, run_enterLoop_outer, hLl, hW1, hL]
  rfl
 ·have hcv : a.eval (.const (.func (.yield L.l) #[] #[])) = .func (.yield L.l) #[] #[] := rfl
  simp [resolve, hev, Deferred.ofValue, hcv]
 ·have hok' := hok
  unfold callable at hok'
  split at hok'
  ·rename_i fn' hfn'
   rw [Bool.and_eq_true] at hok'
   have hn' : ¬ fn'.name = "runtime.NumGoroutine" := by simpa using hok'.2
   have hb' : ¬ fn'.body = none := fun e => by rw [e] at hok'; simp at hok'
   simp [invoke, callFunc, hfn', hn', hb']
  ·cases hok'
 ·rw [hF]
  refine callsIn_wide.2 ((hit W1 kO L.l _ L.Γ L.Iv L.Dn (.inl s0) (by show L.Inv 0 s0; rw [hL]; exact h0) (kG.rO (.head _)) (fun ψ hψ b h1 h2 => kG.disR _ (.head _) ψ (hRA hψ) b h1 h2) ?_).mono ?_)
  ·intro q x t wq hx hI hm
   cases t with
   | inr y => exact hI.elim
   | inl s =>
     have hI' : Inv q s := by have : L.Inv q s := hI; rw [hL] at this; exact this
     have kq : Kn X.E X.w0 wq (L.Γ (.inl s) :: rest) R := kG.mod hm (.here _)
     have kA : Kn (L.A q s wq).E (L.A q s wq).w0 wq (recF L.l (L.rc .ready none) :: dfr L.D :: OO s) R := by
      have h1 := Kn.startM (φ := L.Γ (.inl s)) (E := finE (L.Γ (.inl s)) wq) (R := R) hm.rd (fun b hb => (zaB hm.rd.2 b).2 hb) (fun ψ hψ => ⟨kq.rR hψ, fun b hb => kq.disR _ (.head _) ψ hψ b hb⟩)
      have e : L.Γ (.inl s) = packF (recF L.l (L.rc .ready none) :: dfr L.D :: OO s) := by rw [hL]; rfl
      have h2 : Kn (finE (L.Γ (.inl s)) wq) wq wq [packF (recF L.l (L.rc .ready none) :: dfr L.D :: OO s)] R := by rw [← e]; exact h1
      have h3 := Kn.unpack h2
      show Kn (finE (L.Γ (.inl s)) wq) wq wq _ R
      simpa using h3
     have hGK := hbody L q x s wq (by rw [hL]) hRc (by rw [hL]) (by rw [hL]) (by rw [hL]) (by rw [hL]) hx hI' (fun w' O' R' hk' => kq.up (fun b hb => zbT b hb) hk')
     have hLX : L.X = X := by rw [hL]
     have hl : wq.heap[L.l]? = some (.loop (L.rc .ready none)) := kA.pO (recF L.l (L.rc .ready none)) (.head _)
     have hprm : (L.rc .ready none).params = ps := by rw [hL]
     have hy := run_yield (P := X.P) (args := (enc x).toArray) hl (by rw [hprm, hpl]; simpa using hps x)
     refine ⟨_, _, _, _, hy, roundIn_of_wpIn trivial ?_⟩
     have e1 : (L.rc .ready none).assign = cx := by rw [hL]
     have e2 : (L.rc .ready none).body = cy := by rw [hL]
     have e3 : (L.rc .ready none).tmps = a.tmps := by rw [hL]
     rw [e1, e2, e3, hprm, hpl]
     have hrel : Rel (L.A q s wq).n (L.A q s wq).ds ⟨(pl.zip (enc x)).foldl (fun t q => t.setIfInBounds q.1 q.2) a.tmps, []⟩ (withP pl (enc x) f) := by
      show Rel L.X.n [] _ _
      rw [hLX]
      exact Rel.withP pl (enc x) hr.noDs
     have hw := hGK.out _ wq hrel kA
     have eP : L.X.P = X.P := by rw [hLX]
     have ez : (pl.toArray.zip (enc x).toArray).foldl (fun tmps (p : Nat × Value) => tmps.setIfInBounds p.1 p.2) a.tmps = (pl.zip (enc x)).foldl (fun t q => t.setIfInBounds q.1 q.2) a.tmps := by
      rw [← Array.foldl_toList]
      simp
     rw [show ((pl.toArray.zip (enc x).toArray).foldl (fun tmps (t, a) => tmps.setIfInBounds t a) a.tmps) = _ from ez]
     have hw' : cx.wpIn (Fence.wide.inRound L.l) 0 X.P (wpK (L.A q s wq).F (L.A q s wq).P (L.A q s wq).Q [.inv (BI (L.R q s wq) cy L.l)]) ⟨(pl.zip (enc x)).foldl (fun t q => t.setIfInBounds q.1 q.2) a.tmps, []⟩ wq := by rw [← eP]; exact hw
     refine wpIn_mono hw' fun e a' w' hq => ?_
     cases e with
     | normal =>
       obtain ⟨w2, hb, hc⟩ := hq
       refine ⟨w2, by rw [← eP]; exact hb, ?_⟩
       have hc' : cy.wpIn (Fence.wide.inRound L.l) 0 X.P (L.R q s wq).Q a' w2 := by rw [← eP]; exact hc
       refine wpIn_mono hc' fun e a2 w3 hq2 => ?_
       rw [← eP]
       cases e with
       | panic c => exact hq2.elim
       | _ => exact hq2
     | panic c => exact hq.elim
     | _ => exact hq.elim
  ·rintro e w2 ⟨⟨v, rfl⟩, t', hm, hfin⟩
   have k2 : Kn X.E X.w0 w2 (L.Γ t' :: rest) R := kG.mod hm (.here _)
   have hfin' : ∀ (st : LoopState) (pe : Option Code) (l : List Fact), st ≠ .busy → L.Γ t' = packF (recF L.l (L.rc st pe) :: dfr L.D :: l) → ∃ w4, (Instr.endLoop L.l).run X.P w2 = .ok pe w4 ∧ Kn X.E X.w0 w4 (dfr L.D :: l ++ rest) R := fun st pe l hst e => by
    rw [e] at k2
    have h3 := Kn.unpack k2
    have h4 : (recF L.l (L.rc st pe)).p w2 := h3.pO _ (by simp)
    have h5 := run_endLoop (P := X.P) h4 (by rw [hRc.st]; exact hst)
    refine ⟨w2.putObj L.l (.loop { L.rc st pe with state := .exhausted }), h5.trans (congrArg (fun q => Result.ok q _) (hRc.pe st pe)), ?_⟩
    have h6 := Kn.putRec (r' := { L.rc st pe with state := .exhausted }) h3 (.here _)
    exact h6.weak (List.sublist_cons_self _ _) (List.Subset.refl _)
   have hrel : Rel (X.mark L.D).n (X.mark L.D).ds { a with defers := [markD L.D] ++ a.defers } f := ⟨hr.size, by show [markD L.D] ++ a.defers = markD L.D :: X.ds; rw [hr.defers]; rfl, hr.at_⟩
   cases t' with
   | inl s =>
     have hI : Inv xs.length s := by
      rcases hfin with h | h
      ·have : L.Inv xs.length s := h
       rw [hL] at this
       exact this
      ·exact h.elim
     obtain ⟨w4, h5, h6⟩ := hfin' .ready none (OO s) (by simp) (by rw [hL]; rfl)
     refine ⟨none, w4, h5, ?_⟩
     have := (hdone L.D s hI).out _ w4 hrel h6
     rw [show (X.mark L.D).F = X.F from rfl, hF] at this
     exact this
   | inr y =>
     have hI : Out y.1 y.2 := by
      rcases hfin with h | h
      ·exact h.elim
      ·have : L.Out y.1 y.2 := h
       rw [hL] at this
       exact this
     obtain ⟨w4, h5, h6⟩ := hfin' .done (some y.1) (OX y.1 y.2) (by simp) (by rw [hL]; rfl)
     refine ⟨some y.1, w4, h5, ?_⟩
     have := (hstop L.D y.1 y.2 hI).out _ w4 hrel h6
     rw [show (X.mark L.D).F = X.F from rfl, hF] at this
     exact this
inductive Marks : List Deferred → List Fact → List Fact → Prop
 | nil {O : List Fact} : Marks [] O O
 | cons {D : Nat} {ds : List Deferred} {O O1 O2 : List Fact} (hs : Sel (dfr D) O O1) (h : Marks ds O1 O2) : Marks (markD D :: ds) O O2
theorem zcM {P : Program} {fn : Func} {tmps : Array Value} {Rr : Ending → World → Prop} {E : List Nat} {w0 : World} {R : List Fact} : ∀ {ds : List Deferred} {O O' : List Fact} {w : World}, Marks ds O O' → Kn E w0 w O R → (∀ w, Kn E w0 w O' R → ∃ v, (results fn tmps).run P w = .ok v w ∧ Rr (.returned v) w) → LeavesInM Fence.wide 0 P fn tmps Rr ds .returning w
 | _, _, _, w, .nil, hk, hp => by obtain ⟨v, h1, h2⟩ := hp w hk; exact zcj h1 h2
 | _, _, _, w, .cons (D := D) (O1 := O1) hs h, hk, hp => by
   have h1 := hk.perm hs.perm
   have h2 := run_takeDeferred (P := P) (h1.pO (dfr D) (.head _))
   refine ⟨by simp, .inl ⟨D, _, rfl, h2, ?_⟩⟩
   have hS : ∀ k, (dfr D).S k ↔ k = D := fun k => Iff.rfl
   have h3 : Kn E w0 (w.putObj D (.deferred none)) (⟨fun b => b = D, fun _ => True, fun _ _ _ h => h⟩ :: O1) R := h1.putO (.here _) hS (fun _ => Iff.rfl) (fun _ => trivial)
   exact zcM h (h3.weak (List.sublist_cons_self _ _) (List.Subset.refl _)) hp
theorem zgm (hT : TabOk X.P X.T) {rs : List ResultVar} {vs : List Value} (hm : Marks X.ds O O') (h : nx 1000 ks = some .ret) (hrs : X.fn.results = rs.toArray) (hv : ResOk X f O' rs vs) (hp : ∀ w, Kn X.E X.w0 w O' R → X.Post (.returned (resVal vs)) w) (hrd : X.rd = none := by rfl) : GK X ks f O R := .mk fun a w hr hk => by
 refine zaI h ?_
 show X.Q .ret a w
 unfold Cx.Q
 rw [hrd]
 show LeavesInM Fence.wide 0 X.P X.fn a.tmps X.Post a.defers .returning w
 rw [hr.defers]
 exact zcM hm hk fun w' hk' => ⟨_, zct hT hr hk' hrs hv, hp w' hk'⟩
theorem zpK (hT : TabOk X.P X.T) {rs : List ResultVar} {vs : List Value} (hm : Marks X.ds O O') (h : nx 1000 ks = some .fin) (hrs : X.fn.results = rs.toArray) (hv : ResOk X f O' rs vs) (hp : ∀ w, Kn X.E X.w0 w O' R → X.Post (.returned (resVal vs)) w) (hrd : X.rd = none := by rfl) : GK X ks f O R := .mk fun a w hr hk => by
 refine zaI h ?_
 show X.Q .normal a w
 unfold Cx.Q
 rw [hrd]
 show LeavesInM Fence.wide 0 X.P X.fn a.tmps X.Post a.defers .returning w
 rw [hr.defers]
 exact zcM hm hk fun w' hk' => ⟨_, zct hT hr hk' hrs hv, hp w' hk'⟩
end
end Go.Proofs.YtaghmffgoomebaaGreat.Gx
namespace Go.Proofs.YtaghmffgoomebaaGreat.Gx
open Go.RowKit Mem
section
variable {K : Type} {ek : K → Value}
def rng (b r : Nat) (ek : K → Value) (M : List (K × Value)) (Q : List Nat) : Fact := ⟨fun x => x = b ∨ x = r,
 fun w => ∃ es ck since seen c0 B, w.heap[b]? = some (.map es ck) ∧ Es ek es ck M B ∧ w.heap[r]? = some (.mapIter (some b) since seen c0) ∧ (∀ x ∈ es.toList, x.born < since) ∧ since ≤ c0 ∧ since ≤ ck ∧ (∀ (i : Nat) (x : MapEntry), es.toList[i]? = some x → (seen.contains x.born = true ↔ i ∈ Q)) ∧ (∀ (i : Nat), Q.head? = some i → ∃ x seen0, es.toList[i]? = some x ∧ seen = Array.push seen0 x.born ∧ c0 = ck),
 fun w w' h ⟨es, ck, since, seen, c0, B, h1, h2, h3, h4⟩ => ⟨es, ck, since, seen, c0, B, (h b (.inl rfl)).trans h1, h2, (h r (.inr rfl)).trans h3, h4⟩⟩
variable {X : Cx} {f : Fr} {O O' R : List Fact} {ks k : List KI} {ops rest : List Oper} {o : Oper} {S : List Fact} {N : Fr → List Fact → List Fact → Prop}
end
end Go.Proofs.YtaghmffgoomebaaGreat.Gx
namespace Go.Proofs.YtaghmffgoomebaaGreat.Gx
open Go.RowKit Mem
section
variable {X : Cx} {f : Fr} {O R : List Fact} {ks k : List KI} {ops rest : List Oper} {o : Oper} {N : Fr → List Fact → List Fact → Prop}
theorem zgK {S : List Fact} {fid : Nat} {fs cs : Array Operand} {us vs : List Value} (ho : o.op = .makeFunc (.func fid) fs cs) (hf : lookL X.n f fs.toList = some us) (hv : lookL X.n f cs.toList = some vs) : Ys X S f o (.func (.func fid) us.toArray vs.toArray) := fun ac w hr _ => by
 have e1 : cs.map ac.eval = vs.toArray := by apply Array.ext'; simpa using zaR hr hv
 have e2 : fs.map ac.eval = us.toArray := by apply Array.ext'; simpa using zaR hr hf
 simp [execOp, ho, Instr.makeFunc, e1, e2]
theorem Kn.derO {E : List Nat} {w0 w : World} {l r : List Fact} {φ : Fact} (h : Kn E w0 w O R) (hs : SelAll (l ++ r) O) (d : Der l φ) : Kn E w0 w (φ :: r) R := by
 have h1 := Kn.andI (h.sel hs (List.Subset.refl _))
 exact h1.upd (.here r) rfl rfl rfl (Nat.le_refl _) (fun _ _ _ => rfl) (d.p w fun ψ hψ => h1.pO _ (.head _) ψ hψ) (fun b hb => by
  obtain ⟨ψ, h2, h3⟩ := d.S b hb
  have h4 : (andF l).S b := ⟨ψ, h2, h3⟩
  exact ⟨.inl h4, h1.ltO _ (.head _) b h4⟩)
theorem zgq (l r : List Fact) {φ : Fact} (d : Der l φ) (hs : SelAll (l ++ r) O) (hg : GK X ks f (φ :: r) R) : GK X ks f O R := .mk fun a w hr hk => hg.out a w hr (hk.derO hs d)
end
end Go.Proofs.YtaghmffgoomebaaGreat.Gx
namespace Go.Proofs.YtaghmffgoomebaaGreat.Gx
open Go.RowKit Mem
end Go.Proofs.YtaghmffgoomebaaGreat.Gx
