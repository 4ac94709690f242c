/- The walk by reckoned steps: what maps tell, as functions; facts that hide something. The walk by reckoned steps: loops over functions: what an iterator gives, what a loop over it does. The walk by reckoned steps: ranges over maps (any order); a map cleared. slices.Clone at bytes. A disk, plain: what is sure, what is late; what is read. A disk, as memory has it; spend, done. Late writes that may be are done. A disk: Flush, Crash, Write. -/
import Derived.Test.YtaghmffgoomebaaGreatGxN
import Derived.Test.YtaghmffgoomebaaGreatGxQ
import Derived.Test.YtaghmffgoomebaaGreatGxL
import Derived.Maps.RangeRun
import Derived.Maps.Range
import Derived.Test.YtaghmffgoomebaaGreatCrcLaw
namespace Go.Proofs.YtaghmffgoomebaaGreat.Gx
open Go.RowKit Mem
set_option linter.unusedVariables false
set_option linter.unusedSimpArgs false
section
variable {K : Type} [DecidableEq K]
/-- What a map has at a key. -/
def mg (k : K) (M : List (K × Value)) : Option Value := (lkG k M 0).map (·.2)
theorem lkG_shift (k : K) : ∀ (M : List (K × Value)) (i : Nat), lkG k M (i + 1) = (lkG k M i).map fun p => (p.1 + 1, p.2)
  | [], _ => rfl
  | (a, v) :: r, i => by
    unfold lkG
    by_cases h : k = a
    · rw [if_pos h, if_pos h]; rfl
    · rw [if_neg h, if_neg h, lkG_shift k r (i + 1)]
theorem mg_nil (k : K) : mg k [] = none := rfl
theorem mg_cons (k a : K) (v : Value) (r : List (K × Value)) : mg k ((a, v) :: r) = if k = a then some v else mg k r := by
  unfold mg
  have e : lkG k ((a, v) :: r) 0 = if k = a then some (0, v) else lkG k r 1 := rfl
  rw [e]
  by_cases h : k = a
  · rw [if_pos h, if_pos h]; rfl
  · rw [if_neg h, if_neg h, lkG_shift]
    cases lkG k r 0 <;> rfl
theorem mg_mem {k : K} : ∀ {M : List (K × Value)}, mg k M = none ↔ k ∉ M.map (·.1)
  | [] => by simp [mg_nil]
  | (a, v) :: r => by
    rw [mg_cons]
    by_cases h : k = a
    · simp [h]
    · rw [if_neg h, mg_mem (M := r)]; simp [h]
theorem mg_set (k : K) (v : Value) (k' : K) : ∀ M : List (K × Value), mg k' (msG k v M) = if k' = k then some v else mg k' M
  | [] => by unfold msG; rw [mg_cons, mg_nil]
  | (a, u) :: r => by
    unfold msG
    by_cases h : k = a
    · rw [if_pos h, mg_cons, mg_cons]
      subst h
      by_cases h' : k' = k
      · rw [if_pos h', if_pos h']
      · rw [if_neg h', if_neg h', if_neg h']
    · rw [if_neg h, mg_cons, mg_cons, mg_set k v k' r]
      by_cases h' : k' = a
      · rw [if_pos h', if_pos h', if_neg (fun e => h (e.symm.trans h'))]
      · rw [if_neg h', if_neg h']
theorem keys_set (k : K) (v : Value) : ∀ M : List (K × Value), (msG k v M).map (·.1) = if k ∈ M.map (·.1) then M.map (·.1) else M.map (·.1) ++ [k]
  | [] => rfl
  | (a, u) :: r => by
    unfold msG
    by_cases h : k = a
    · rw [if_pos h, if_pos (by simp [h])]; rfl
    · rw [if_neg h]
      show a :: (msG k v r).map (·.1) = if k ∈ a :: r.map (·.1) then a :: r.map (·.1) else (a :: r.map (·.1)) ++ [k]
      rw [keys_set k v r]
      by_cases h2 : k ∈ r.map (·.1)
      · rw [if_pos h2, if_pos (.tail _ h2)]
      · rw [if_neg h2, if_neg (fun e => (List.mem_cons.1 e).elim h h2)]; first | rfl | done
theorem nodup_set {k : K} {v : Value} {M : List (K × Value)} (h : (M.map (·.1)).Nodup) : ((msG k v M).map (·.1)).Nodup := by
  rw [keys_set]
  split
  · exact h
  · rename_i hk
    exact List.nodup_append.2 ⟨h, by simp, fun a ha b hb e => by
      obtain rfl := List.mem_singleton.1 hb
      exact hk (e ▸ ha)⟩
theorem mdG_eq (k : K) : ∀ M : List (K × Value), mdG k M = match M with | [] => [] | (a, u) :: r => if k = a then r else (a, u) :: mdG k r
  | [] => rfl
  | (a, u) :: r => by
    show (match lkG k ((a, u) :: r) 0 with | some (n, _) => ((a, u) :: r).eraseIdx n | none => (a, u) :: r) = _
    unfold lkG
    by_cases h : k = a
    · rw [if_pos h]
      simp only [if_pos h, List.eraseIdx_zero, List.tail_cons]
    · rw [if_neg h, lkG_shift]
      unfold mdG
      simp only [if_neg h]
      cases lkG k r 0 <;> rfl
theorem mg_del (k k' : K) : ∀ M : List (K × Value), (M.map (·.1)).Nodup → mg k' (mdG k M) = if k' = k then none else mg k' M
  | [], _ => by rw [mdG_eq, mg_nil]; simp
  | (a, u) :: r, hn => by
    have hn' := List.nodup_cons.1 hn
    rw [mdG_eq]
    by_cases h : k = a
    · simp only [if_pos h]
      subst h
      rw [mg_cons]
      by_cases h' : k' = k
      · rw [if_pos h', h']; exact mg_mem.2 hn'.1
      · rw [if_neg h', if_neg h']
    · simp only [if_neg h]
      rw [mg_cons, mg_cons, mg_del k k' r hn'.2]
      by_cases h' : k' = a
      · rw [if_pos h', if_pos h', if_neg (fun e => h (e.symm.trans h'))]
      · rw [if_neg h', if_neg h']
theorem del_sub (k : K) (M : List (K × Value)) : (mdG k M).Sublist M := by
  unfold mdG
  split
  · exact List.eraseIdx_sublist _ _
  · exact List.Sublist.refl _
theorem nodup_del {k : K} {M : List (K × Value)} (h : (M.map (·.1)).Nodup) : ((mdG k M).map (·.1)).Nodup := h.sublist ((del_sub k M).map _)
/-- A map tells what a function tells. -/
structure MapIs (M : List (K × Value)) (g : K → Option Value) : Prop where
  nodup : (M.map (·.1)).Nodup
  get : ∀ k, mg k M = g k
theorem MapIs.nil : MapIs ([] : List (K × Value)) fun _ => none := ⟨List.nodup_nil, fun _ => rfl⟩
theorem MapIs.set {M : List (K × Value)} {g g' : K → Option Value} {k : K} {v : Value} (h : MapIs M g) (hg : ∀ k', g' k' = if k' = k then some v else g k') : MapIs (msG k v M) g' :=
  ⟨nodup_set h.nodup, fun k' => by rw [mg_set, hg, h.get]⟩
theorem MapIs.del {M : List (K × Value)} {g g' : K → Option Value} {k : K} (h : MapIs M g) (hg : ∀ k', g' k' = if k' = k then none else g k') : MapIs (mdG k M) g' :=
  ⟨nodup_del h.nodup, fun k' => by rw [mg_del k k' M h.nodup, hg, h.get]⟩
theorem MapIs.congr {M : List (K × Value)} {g g' : K → Option Value} (h : MapIs M g) (hg : ∀ k, g' k = g k) : MapIs M g' := ⟨h.nodup, fun k => (h.get k).trans (hg k).symm⟩
end
/-! ### facts that hide something -/
end Go.Proofs.YtaghmffgoomebaaGreat.Gx
namespace Go.Proofs.YtaghmffgoomebaaGreat.Gx
open Go.RowKit Mem
set_option linter.unusedVariables false
set_option linter.unusedSimpArgs false
/-! ### one fact becomes another, again and again -/
/-- What is known of a round's world, seen from the function's start. -/
theorem Kn.up {E E' : List Nat} {w0 wq w : World} {φ : Fact} {rest O R R' : List Fact} (h : Kn E w0 wq (φ :: rest) R) (hE : ∀ b, b ∈ E' → φ.S b) (g : Kn E' wq w O R') : Kn E w0 w O R' where
  os := g.os.trans h.os
  tape := g.tape.trans h.tape
  output := g.output.trans h.output
  size := Nat.le_trans h.size g.size
  block b hb hn := by
    refine (g.block b (Nat.lt_of_lt_of_le hb h.size) fun hE' => ?_).trans (h.block b hb hn)
    rcases h.ownS _ (.head _) b (hE b hE') with h1 | h1
    · omega
    · exact hn h1
  ownS ψ hψ b hb := by
    rcases g.ownS ψ hψ b hb with h1 | h1
    · exact .inl (Nat.le_trans h.size h1)
    · exact h.ownS _ (.head _) b (hE b h1)
  ltO := g.ltO
  ltR := g.ltR
  pO := g.pO
  pR := g.pR
  disO := g.disO
  disR := g.disR
theorem Mod.refl {w : World} {φ : Fact} (h : Rd1 w φ) : Mod w w φ φ := ⟨rfl, rfl, rfl, Nat.le_refl _, fun _ _ _ => rfl, h.1, fun b hb => ⟨.inl hb, h.2 b hb⟩⟩
theorem Mod.trans {w w1 w2 : World} {φ ψ χ : Fact} (h : Mod w w1 φ ψ) (g : Mod w1 w2 ψ χ) : Mod w w2 φ χ where
  os := g.os.trans h.os
  tape := g.tape.trans h.tape
  output := g.output.trans h.output
  size := Nat.le_trans h.size g.size
  block b hb hn := by
    refine (g.block b (Nat.lt_of_lt_of_le hb h.size) fun hS => ?_).trans (h.block b hb hn)
    rcases (h.S b hS).1 with h1 | h1
    · exact hn h1
    · omega
  p := g.p
  S b hb := by
    refine ⟨?_, (g.S b hb).2⟩
    rcases (g.S b hb).1 with h1 | h1
    · exact (h.S b h1).1
    · exact .inr (Nat.le_trans h.size h1)
theorem Mod.rd {w w1 : World} {φ ψ : Fact} (h : Mod w w1 φ ψ) : Rd1 w1 ψ := ⟨h.p, fun b hb => (h.S b hb).2⟩
/-- A fact's blocks, as a list. -/
noncomputable def finE (φ : Fact) (w : World) : List Nat := (List.range w.heap.size).filter fun b => tB (φ.S b)
theorem finE_mem {φ : Fact} {w : World} (h : ∀ b, φ.S b → b < w.heap.size) (b : Nat) : b ∈ finE φ w ↔ φ.S b := by
  unfold finE
  rw [List.mem_filter, List.mem_range, tB_iff]
  exact ⟨fun h => h.2, fun hb => ⟨h b hb, hb⟩⟩
theorem finE_in {φ : Fact} {w : World} (b : Nat) (h : b ∈ finE φ w) : φ.S b := by
  unfold finE at h
  rw [List.mem_filter, tB_iff] at h
  exact h.2
/-! ### the loop's record, the block for deferred calls -/
def recF (l : Nat) (r : Loop) : Fact := ⟨fun b => b = l, fun w => w.heap[l]? = some (.loop r), fun w w' h hp => (h l rfl).trans hp⟩
/-! ### calls of yield -/
/-! ### what an iterator gives -/
/-! ### a loop over an iterator -/
/-- All that a loop is about: its record, its states. -/
structure LX (σ σx : Type) where
  X : Cx
  l : Nat
  D : Nat
  rc : LoopState → Option Code → Loop
  Inv : Nat → σ → Prop
  OO : σ → List Fact
  Out : Code → σx → Prop
  OX : Code → σx → List Fact
section
variable {σ σx : Type}
def LX.Γ (L : LX σ σx) : σ ⊕ (Code × σx) → Fact
  | .inl s => packF (recF L.l (L.rc .ready none) :: dfr L.D :: L.OO s)
  | .inr y => packF (recF L.l (L.rc .done (some y.1)) :: dfr L.D :: L.OX y.1 y.2)
def LX.Iv (L : LX σ σx) (k : Nat) : σ ⊕ (Code × σx) → Prop
  | .inl s => L.Inv k s
  | .inr _ => False
def LX.Dn (L : LX σ σx) : σ ⊕ (Code × σx) → Prop
  | .inl _ => False
  | .inr y => L.Out y.1 y.2
def LX.J (L : LX σ σx) (k : Nat) (s : σ) (w : World) (b : Bool) (w' : World) : Prop := ∃ t', Mod w w' (L.Γ (.inl s)) (L.Γ t') ∧ (b = true → L.Iv (k + 1) t') ∧ (b = false → L.Dn t')
/-- A round, walked. -/
noncomputable def LX.R (L : LX σ σx) (k : Nat) (s : σ) (w : World) : Cx :=
  ⟨L.X.P, L.X.T, L.X.fn, L.X.n, finE (L.Γ (.inl s)) w, w, fun _ _ => True, [], some (L.l, roundPost L.X.P L.l fun e w' => ∃ b, e = .returned (.bool b) ∧ L.J k s w b w')⟩
/-- The assignment ahead of a round. -/
noncomputable def LX.A (L : LX σ σx) (k : Nat) (s : σ) (w : World) : Cx :=
  ⟨L.X.P, L.X.T, L.X.fn, L.X.n, finE (L.Γ (.inl s)) w, w, fun _ _ => True, [], some (L.l, fun _ _ _ => False)⟩
variable {L : LX σ σx} {kk : Nat} {s : σ} {w1 : World} {f : Fr} {O O' R : List Fact} {ks k : List KI}
theorem LX.mod {k0 : Nat} {w : World} {t' : σ ⊕ (Code × σx)} (h : Kn (L.R kk s w1).E (L.R kk s w1).w0 w O R) (hm : L.Γ t' ∈ O) : Mod w1 w (L.Γ (.inl s)) (L.Γ t') :=
  Kn.outM h (fun b hb => finE_in b hb) hm
end
end Go.Proofs.YtaghmffgoomebaaGreat.Gx
namespace Go.Proofs.YtaghmffgoomebaaGreat.Gx
open Go.RowKit Mem
set_option linter.unusedVariables false
set_option linter.unusedSimpArgs false
section
variable {K : Type} {ek : K → Value}
/-- A map that is gone through: an iterator over it, which entries have come. -/
def rng (b r : Nat) (ek : K → Value) (M : List (K × Value)) (Q : List Nat) : Fact := ⟨fun x => x = b ∨ x = r,
  fun w => ∃ es ck since seen c0 B, w.heap[b]? = some (.map es ck) ∧ Es ek es ck M B ∧ w.heap[r]? = some (.mapIter (some b) since seen c0) ∧ (∀ x ∈ es.toList, x.born < since) ∧ since ≤ c0 ∧ since ≤ ck ∧ (∀ (i : Nat) (x : MapEntry), es.toList[i]? = some x → (seen.contains x.born = true ↔ i ∈ Q)) ∧ (∀ (i : Nat), Q.head? = some i → ∃ x seen0, es.toList[i]? = some x ∧ seen = Array.push seen0 x.born ∧ c0 = ck),
  fun w w' h ⟨es, ck, since, seen, c0, B, h1, h2, h3, h4⟩ => ⟨es, ck, since, seen, c0, B, (h b (.inl rfl)).trans h1, h2, (h r (.inr rfl)).trans h3, h4⟩⟩
variable {X : Cx} {f : Fr} {O O' R : List Fact} {ks k : List KI} {ops rest : List Oper} {o : Oper} {S : List Fact} {N : Fr → List Fact → List Fact → Prop}
end
end Go.Proofs.YtaghmffgoomebaaGreat.Gx
namespace Go.Proofs.YtaghmffgoomebaaGreat.Gx
open Go.RowKit Mem
set_option linter.unusedVariables false
set_option linter.unusedSimpArgs false
/-! ### a call of a function value with arguments bound ahead; one's own facts, said otherwise -/
section
variable {X : Cx} {f : Fr} {O R : List Fact} {ks k : List KI} {ops rest : List Oper} {o : Oper} {N : Fr → List Fact → List Fact → Prop}
theorem Kn.derO {E : List Nat} {w0 w : World} {l r : List Fact} {φ : Fact} (h : Kn E w0 w O R) (hs : SelAll (l ++ r) O) (d : Der l φ) : Kn E w0 w (φ :: r) R := by
  have h1 := Kn.andI (h.sel hs (List.Subset.refl _))
  exact h1.upd (.here r) rfl rfl rfl (Nat.le_refl _) (fun _ _ _ => rfl) (d.p w fun ψ hψ => h1.pO _ (.head _) ψ hψ) (fun b hb => by
    obtain ⟨ψ, h2, h3⟩ := d.S b hb
    have h4 : (andF l).S b := ⟨ψ, h2, h3⟩
    exact ⟨.inl h4, h1.ltO _ (.head _) b h4⟩)
theorem gk_derO (l r : List Fact) {φ : Fact} (d : Der l φ) (hs : SelAll (l ++ r) O) (hg : GK X ks f (φ :: r) R) : GK X ks f O R := .mk fun a w hr hk => hg.out a w hr (hk.derO hs d)
end
end Go.Proofs.YtaghmffgoomebaaGreat.Gx
namespace Go.Proofs.YtaghmffgoomebaaGreat.Gx
open Go.RowKit Mem
set_option linter.unusedVariables false
set_option linter.unusedSimpArgs false
/-! ### a range over a map that may only be read -/
end Go.Proofs.YtaghmffgoomebaaGreat.Gx
namespace Go.Proofs.YtaghmffgoomebaaGreat.Dk
open Go.RowKit Mem Gx
set_option linter.unusedVariables false
set_option linter.unusedSimpArgs false
set_option maxRecDepth 100000
set_option maxHeartbeats 2000000
theorem elt_B : Elt Tryz.prog 23 5 1 1 := Elt.mk' (z := .int .u8 0) Tryz.underlying23 (by kernel_rfl) rfl (by decide)
theorem clone_B (A : Option Addr) (n c : Nat) (L : List Int) (w : World) (hn : n = L.length) (hb : n ≤ 100000000) (hs : Sl w A 1 (IE .u8) L) :
    Calls Tryz.prog 48 [.slice A n c].toArray w (Ret (fun s : SlV => s.Ok L.length) SlV.v (fun s => [sl s.A 1 (IE .u8) L]) w) := by
  rcases A with _ | a
  · have hL : L = [] := by
      rcases Nat.eq_zero_or_pos L.length with h | h
      · exact List.length_eq_zero_iff.1 h
      · obtain ⟨b, off, e, _⟩ := hs h; cases e
    subst hL
    refine g_enter0 T [] [] [] Tryz.func48 rfl Tryz.ntmps48 rfl (Kn.start _) ?_
    (repeat (refine gG ?_; try intro _))
    refine gk_nilsl none 1 (IE .u8) ?_
    refine gk_ret hT rfl rfl (.tmp rfl .nil) (fun w' hk => ?_)
    exact Ret.mk ⟨none, 0, 0⟩ ⟨rfl, Nat.le_refl _, Nat.zero_le _, fun _ => rfl⟩ rfl hk sA
  · refine g_enter0 T [] [] [sl (some a) 1 (IE .u8) L] Tryz.func48 rfl Tryz.ntmps48 rfl ((Kn.start w).argR hs (by decide) (fun _ h => by cases h)) ?_
    (repeat (refine gG1 ?_; try intro _))
    refine g_mv rfl (mv_empty 1 (IE .u8) rfl hT rfl rfl rfl rfl rfl (fun g => ?_))
    (repeat (refine gG1 ?_; try intro _))
    refine g_mv rfl (mv_append (L := []) rfl L rfl rfl rfl rfl elt_B (by intro _; first | ((repeat (first | with_reducible exact Upd.here _ | with_reducible apply Upd.there)); done) | ((repeat (first | exact Upd.here _ | apply Upd.there)); done) | fail) (src_R mE) hn (by intro x j; rfl) (by simp [maxLen]; omega) (by simp; omega) (Nat.zero_le _) (fun v => ?_))
    (repeat (refine gG1 ?_; try intro _))
    refine gk_freeze _ (by intro _; first | ((repeat (first | with_reducible exact Upd.here _ | with_reducible apply Upd.there)); done) | ((repeat (first | exact Upd.here _ | apply Upd.there)); done) | fail) (fun A2 c2 hA2 hA21 hA22 hA23 => ?_); subst hA2
    refine gk_ret hT rfl rfl (.tmp rfl .nil) (fun w' hk => ?_)
    exact Ret.mk ⟨A2, _, c2⟩ ⟨by simp, hA21, hA22, hA23⟩ rfl hk sA
end Go.Proofs.YtaghmffgoomebaaGreat.Dk
namespace Go.Proofs.YtaghmffgoomebaaGreat.Dk
open Bytes
set_option linter.unusedVariables false
set_option linter.unusedSimpArgs false
set_option maxRecDepth 100000
abbrev Sec := List Int
abbrev Wr := Nat × Sec
/-- All sectors are as sectors are. -/
def SecOk (l : Sec) : Prop := l.length = 128 ∧ IsB l
end Go.Proofs.YtaghmffgoomebaaGreat.Dk
namespace Go.Proofs.YtaghmffgoomebaaGreat.Dk
open Go.RowKit Mem Gx Bytes
set_option linter.unusedVariables false
set_option linter.unusedSimpArgs false
set_option maxRecDepth 100000
set_option maxHeartbeats 1000000
/-- A sector, as memory has it. -/
structure SecD where
  s : SlV
  L : List Int
instance : Inhabited SecD := ⟨⟨⟨none, 0, 0⟩, []⟩⟩
/-- A late write. -/
structure WrD where
  a : Nat
  d : SecD
instance : Inhabited WrD := ⟨⟨0, default⟩⟩
def SE : SecD → Nat → Value := fun x _ => .slice x.s.A x.s.n x.s.c
def WE : WrD → Nat → Value := fun x k => match k with
  | 0 => .int .i64 x.a
  | _ => .slice x.d.s.A x.d.s.n x.d.s.c
def WrD.val (x : WrD) : Value := .agg #[.int .i64 x.a, .slice x.d.s.A x.d.s.n x.d.s.c]
abbrev secF (d : SecD) : Fact := sl d.s.A 1 (IE .u8) d.L
abbrev wrF (x : WrD) : Fact := sl x.d.s.A 1 (IE .u8) x.d.L
structure SecD.Ok (d : SecD) : Prop where
  s : d.s.Ok d.L.length
  k : SecOk d.L
theorem elt_W : Elt Tryz.prog 112 119 2 32 := Elt.mk' (z := .agg #[.int .i64 0, .slice none 0 0]) Tryz.underlying112 (by kernel_rfl) rfl (by decide)
theorem oneW : ∀ (x : WrD) (j : Nat), (WE x j).oneCell' = true := by intro x j; rcases j with _ | j <;> rfl
/-- What is sure, what is late, and where they lie. -/
structure DkS where
  sv : Value
  lv : Value
  S : List SecD
  W : List WrD
structure DkS.Ok (s : DkS) : Prop where
  S : ∀ d ∈ s.S, d.Ok
  W : ∀ x ∈ s.W, x.d.Ok ∧ x.a < s.S.length
  n : s.S.length ≤ 4096
abbrev dkL (g : Nat) (s : DkS) : List Fact := [blk g [s.sv, s.lv, .bool false, .int .i64 0] 114, own 0 23 1 s.sv SE s.S, own 0 119 2 s.lv WE s.W, allF s.S secF, allF s.W wrF]
abbrev dkF (g : Nat) (s : DkS) : Fact := packF (dkL g s)
theorem all_set {S : List SecD} {i : Nat} {d : SecD} : Der [allF S secF, secF d] (allF (S.set i d) secF) := .all fun x hx => by
  rcases List.mem_or_eq_of_mem_set hx with h | rfl
  · exact Der.elem (L := S) (F := secF) (.mem (.head _)) h
  · exact .mem (.tail _ (.head _))
theorem all_snoc {W : List WrD} {x : WrD} : Der [allF W wrF, wrF x] (allF (W ++ [x]) wrF) := .all fun y hy => by
  rcases List.mem_append.1 hy with h | h
  · exact Der.elem (L := W) (F := wrF) (.mem (.head _)) h
  · obtain rfl := List.mem_singleton.1 h
    exact .mem (.tail _ (.head _))
theorem dead_any (g : Nat) (sv lv : Value) (w : World) (hB : Rd1 w (blk g [sv, lv, .bool false, .int .i64 0] 114)) : Calls Tryz.prog 73 [.pointer (some ⟨g, 0, none⟩)].toArray w fun e w' => e = .returned (.bool false) ∧ Below w.heap.size w w' := by
  refine g_enter0 T [] [] [blk g [sv, lv, .bool false, .int .i64 0] 114] Tryz.func73 rfl Tryz.ntmps73 rfl (Rds.cons hB .nil).kn ?_
  refine gk_rowR (g := g) mE ?_
  (repeat' (first | (refine gG ?_; try intro _) | ((first | refine g_split rfl rfl tE (fun _ => ?_) (fun _ => ?_) | refine gk_cond rfl rfl tE (fun _ => ?_) (fun _ => ?_)) <;> (try first | (exfalso; omega; done) | (rename_i hx; exact absurd rfl hx) | (rename_i hx; cases hx; done)))))
  refine gk_ret hT rfl rfl (.tmp rfl .nil) (fun w' hk => ?_)
  exact ⟨rfl, hk.toBelow⟩
theorem spend_any (g : Nat) (sv lv : Value) (w : World) (hB : Rd1 w (blk g [sv, lv, .bool false, .int .i64 0] 114)) : Calls Tryz.prog 47 [.pointer (some ⟨g, 0, none⟩)].toArray w fun e w' => e = .returned (.bool true) ∧ Below w.heap.size w w' := by
  refine g_enter0 T [] [] [blk g [sv, lv, .bool false, .int .i64 0] 114] Tryz.func47 rfl Tryz.ntmps47 rfl (Rds.cons hB .nil).kn ?_
  (repeat' (first | (refine gG ?_; try intro _) | (refine g_mv rfl ?_; first | refine mv_call_bel (fun w hk => dead_any g sv lv w (hk.rR mE)) rfl rfl rfl rfl rfl (by kernel_rfl) ?_) | ((first | refine g_split rfl rfl tE (fun _ => ?_) (fun _ => ?_) | refine gk_cond rfl rfl tE (fun _ => ?_) (fun _ => ?_)) <;> (try first | (exfalso; omega; done) | (rename_i hx; exact absurd rfl hx) | (rename_i hx; cases hx; done)))))
  refine g_rowR (g := g) mE ?_
  (repeat' (first | (refine gG ?_; try intro _) | ((first | refine g_split rfl rfl tE (fun _ => ?_) (fun _ => ?_) | refine gk_cond rfl rfl tE (fun _ => ?_) (fun _ => ?_)) <;> (try first | (exfalso; omega; done) | (rename_i hx; exact absurd rfl hx) | (rename_i hx; cases hx; done)))))
  refine gk_ret hT rfl rfl (.tmp rfl .nil) (fun w' hk => ?_)
  exact ⟨rfl, hk.toBelow⟩
end Go.Proofs.YtaghmffgoomebaaGreat.Dk
namespace Go.Proofs.YtaghmffgoomebaaGreat.Dk
open Go.RowKit Mem Gx Bytes
set_option linter.unusedVariables false
set_option linter.unusedSimpArgs false
set_option maxRecDepth 100000
set_option maxHeartbeats 1000000
abbrev WrD.c (x : WrD) : Wr := (x.a, x.d.L)
end Go.Proofs.YtaghmffgoomebaaGreat.Dk
namespace Go.Proofs.YtaghmffgoomebaaGreat.Dk
open Go.RowKit Mem Gx Bytes
set_option linter.unusedVariables false
set_option linter.unusedSimpArgs false
set_option maxRecDepth 100000
set_option maxHeartbeats 1000000
structure DkOk (S : List SecD) (W : List WrD) : Prop where
  s : ∀ d ∈ S, d.Ok
  w : ∀ x ∈ W, x.d.Ok ∧ x.a < S.length
  n : S.length ≤ 4096
end Go.Proofs.YtaghmffgoomebaaGreat.Dk
