/- Twelfth part: calls that make a slice grow, or hand back one's own; literals as one's own; facts side by side. -/
import Derived.Test.YtkdphoacniigjaaGx11
namespace Go.Proofs.Ytkdphoacniigjaa.Gx
open Go.RowKit Mem
set_option linter.unusedVariables false
set_option linter.unusedSimpArgs false
def catO : List Fact → List Fact → Option (List Fact)
  | [], O => some O
  | x :: r, O => match catO r O with | some l => some (x :: l) | none => none
theorem catO_eq : ∀ {L O O' : List Fact}, catO L O = some O' → O' = L ++ O
  | [], O, O', h => by injection h with h; subst h; rfl
  | x :: r, O, O', h => by
    unfold catO at h
    split at h
    · rename_i l hl
      injection h with h
      subst h
      rw [catO_eq hl]; rfl
    · cases h
section
variable {X : Cx} {f : Fr} {O R : List Fact} {ks k : List KI} {ops rest : List Oper} {o : Oper} {N : Fr → List Fact → List Fact → Prop}
theorem mv_call_rt {σ : Type} {I : σ → Prop} {V : σ → Value} {FF OO : σ → List Fact} {fid : Nat} {args : List Value} (h : ∀ w, Kn X.E X.w0 w O R → Calls X.P fid args.toArray w (Ret I V FF w)) {dd : Nat} (hd : o.dst = some dd) {c : Call} {x : Operand} (ho : o.op = .call c) (hc : c.callee = .value x) (hx : look X.n f x = some (.func (.func fid) #[] #[])) (ha : lookL X.n f c.args.toList = some args) (hok : callable X.P fid = true)
    (hcat : ∀ s, catO (FF s) O = some (OO s)) (hg : ∀ s, I s → N ((dd, V s) :: f) (OO s) R) : Mv X f O R o N :=
  mv_call hd ho hc hx ha hok fun w hk => (h w hk).mono fun e w' ⟨s, hi, he, hf⟩ => ⟨_, _, _, he, by rw [catO_eq (hcat s)]; exact hk.fresh hf.bel _ hf.ok hf.dis, hg s hi⟩
theorem mv_call_grow {α : Type} [Inhabited α] {e base sz : Nat} {v : Value} {enc : α → Nat → Value} {L M : List α} {OO : Value → List Fact} {fid : Nat} {args : List Value} (h : ∀ w, Kn X.E X.w0 w O R → Calls X.P fid args.toArray w (fun e' w' => ∃ v', e' = .returned v' ∧ OwnL w' base e sz v' enc (L ++ M) ∧ Grew w w' v v')) {dd : Nat} (hd : o.dst = some dd) {c : Call} {x : Operand} (ho : o.op = .call c) (hc : c.callee = .value x) (hx : look X.n f x = some (.func (.func fid) #[] #[])) (ha : lookL X.n f c.args.toList = some args) (hok : callable X.P fid = true)
    (hu : ∀ v', Upd (own base e sz v enc L) (own base e sz v' enc (L ++ M)) O (OO v')) (hg : ∀ v', N ((dd, v') :: f) (OO v') R) : Mv X f O R o N :=
  mv_call hd ho hc hx ha hok fun w hk => (h w hk).mono fun e w' ⟨v', he, h2, h3⟩ => ⟨v', _, _, he, Kn.grew hk h3 h2 (hu v'), hg v'⟩
theorem mv_call_own {α : Type} [Inhabited α] {e sz : Nat} {enc : α → Nat → Value} {L : List α} {fid : Nat} {args : List Value} (h : ∀ w, Kn X.E X.w0 w O R → Calls X.P fid args.toArray w (fun e' w' => ∃ v', e' = .returned v' ∧ OwnL w' w.heap.size e sz v' enc L ∧ Below w.heap.size w w')) {dd : Nat} (hd : o.dst = some dd) {c : Call} {x : Operand} (ho : o.op = .call c) (hc : c.callee = .value x) (hx : look X.n f x = some (.func (.func fid) #[] #[])) (ha : lookL X.n f c.args.toList = some args) (hok : callable X.P fid = true)
    (hg : ∀ v', N ((dd, v') :: f) (own 0 e sz v' enc L :: O) R) : Mv X f O R o N :=
  mv_call hd ho hc hx ha hok fun w hk => (h w hk).mono fun e' w' ⟨v', he, h2, h3⟩ => ⟨v', _, _, he, hk.fresh h3 [own 0 e sz v' enc L] (fun φ hφ => by
    rcases List.mem_cons.1 hφ with rfl | h7
    · refine ⟨OwnL.mono h2 (Nat.zero_le _), fun b hb => ?_⟩
      exact OwnL.lt' h2 b hb
    · cases h7) (List.pairwise_singleton _ _), hg v'⟩
/-- A literal of one-cell elements: it is one's own. -/
theorem Kn.lit {E : List Nat} {w0 w : World} {α : Type} [Inhabited α] {g e n : Nat} {cs : List Value} {enc : α → Nat → Value} (M : List α) {O' : List Fact} (h : Kn E w0 w O R) (hn : M.length = n) (hm : n ≤ maxLen) (hcs : cs = M.map (fun x => enc x 0)) (hu : Upd (blk g cs e) (own 0 e 1 (.slice (some ⟨g, 0, none⟩) n n) enc M) O O') : Kn E w0 w O' R := by
  subst hcs
  subst hn
  refine h.upd hu rfl rfl rfl (Nat.le_refl _) (fun b hb hne => rfl) ?_ (fun b hb => ?_)
  · have := h.pO _ hu.mem
    have hfl : flat 1 (LF enc M) M.length = M.map (fun x => enc x 0) := by
      apply List.ext_getElem?
      intro i
      by_cases hi : i < M.length
      · rw [flat_get _ _ _ _ (by omega), List.getElem?_map, List.getElem?_eq_getElem hi]
        simp [LF, List.getD_eq_getElem?_getD, List.getElem?_eq_getElem hi, Nat.mod_one]
      · rw [List.getElem?_eq_none (by rw [flat_length]; omega), List.getElem?_eq_none (by simp; omega)]
    exact ⟨by rw [flat_length], .inr ⟨g, M.length, (M.map (fun x => enc x 0)).toArray, rfl, Nat.zero_le _, this, Nat.le_refl _, hm, by simp, by rw [hfl]; simp [List.take_of_length_le]⟩⟩
  · have hbg : g = b := by
      have h1 : (Value.slice (some ⟨g, 0, none⟩) M.length M.length).ownBlock = some b := hb
      simpa [Value.ownBlock] using h1
    subst hbg
    exact ⟨.inl rfl, h.ltO _ hu.mem g rfl⟩
theorem g_lit {α : Type} [Inhabited α] (g n : Nat) {e : Nat} {cs : List Value} {enc : α → Nat → Value} (M : List α) {l : List Oper} {O' : List Fact} (hn : M.length = n) (hm : n ≤ maxLen) (hcs : cs = M.map (fun x => enc x 0)) (hu : Upd (blk g cs e) (own 0 e 1 (.slice (some ⟨g, 0, none⟩) n n) enc M) O O') (hg : G X ops l k f O' R) : G X ops l k f O R := .mk fun a w hr hk =>
  hg.out a w hr (hk.lit M hn hm hcs hu)
theorem gk_lit {α : Type} [Inhabited α] (g n : Nat) {e : Nat} {cs : List Value} {enc : α → Nat → Value} (M : List α) {O' : List Fact} (hn : M.length = n) (hm : n ≤ maxLen) (hcs : cs = M.map (fun x => enc x 0)) (hu : Upd (blk g cs e) (own 0 e 1 (.slice (some ⟨g, 0, none⟩) n n) enc M) O O') (hg : GK X ks f O' R) : GK X ks f O R := .mk fun a w hr hk =>
  hg.out a w hr (hk.lit M hn hm hcs hu)
/-- A slot's value that is a slice of one's own, as numbers. -/
theorem ret_own {α : Type} [Inhabited α] {F : Value → Value} {sz : Nat} {enc : α → Nat → Value} {L : List α} {w : World} {A : Option Addr} {n c : Nat} {w' : World} (hk : Kn [] w w' O R) (hs : SelAll [sl A sz enc L] O) (hn : n = L.length) (hc : n ≤ c) (hm : c ≤ maxLen) (hA : A = none → c = 0) : Ret (fun s : SlV => s.Ok L.length) (fun s => F s.v) (fun s => [sl s.A sz enc L]) w (.returned (F (.slice A n c))) w' :=
  ⟨⟨A, n, c⟩, ⟨hn, hc, hm, hA⟩, rfl, hk.out hs⟩
end
end Go.Proofs.Ytkdphoacniigjaa.Gx
