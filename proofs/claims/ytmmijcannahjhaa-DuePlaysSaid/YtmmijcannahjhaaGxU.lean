/- The walk by reckoned steps: what maps tell, as functions; facts that hide something. -/
import Derived.Test.YtmmijcannahjhaaGxT
import Derived.Test.YtmmijcannahjhaaGxS
namespace Go.Proofs.Ytmmijcannahjhaa.Gx
open Go.RowKit Mem
set_option linter.unusedVariables false
set_option linter.unusedSimpArgs false
section
variable {K : Type} [DecidableEq K]
/-- What a map has at a key. -/
def mg (k : K) (M : List (K × Value)) : Option Value := (lkG k M 0).map (·.2)
theorem lkG_shift (k : K) : ∀ (M : List (K × Value)) (i : Nat), lkG k M (i + 1) = (lkG k M i).map fun p => (p.1 + 1, p.2)
  | [], _ => rfl
  | (a, v) :: r, i => by
    unfold lkG
    by_cases h : k = a
    · rw [if_pos h, if_pos h]; rfl
    · rw [if_neg h, if_neg h, lkG_shift k r (i + 1)]
theorem mg_nil (k : K) : mg k [] = none := rfl
theorem mg_cons (k a : K) (v : Value) (r : List (K × Value)) : mg k ((a, v) :: r) = if k = a then some v else mg k r := by
  unfold mg
  have e : lkG k ((a, v) :: r) 0 = if k = a then some (0, v) else lkG k r 1 := rfl
  rw [e]
  by_cases h : k = a
  · rw [if_pos h, if_pos h]; rfl
  · rw [if_neg h, if_neg h, lkG_shift]
    cases lkG k r 0 <;> rfl
theorem mg_lk {k : K} {M : List (K × Value)} {u : Value} (h : mg k M = some u) : ∃ j, lkG k M 0 = some (j, u) ∧ M[j]? = some (k, u) := by
  unfold mg at h
  cases hl : lkG k M 0 with
  | none => rw [hl] at h; cases h
  | some p =>
    obtain ⟨j, x⟩ := p
    rw [hl] at h
    obtain rfl : x = u := Option.some.inj h
    obtain ⟨n, e1, e2, ⟨a, e3, e4⟩, _⟩ := msG_some (v := x) hl
    subst e4
    have : j = n := by omega
    subst this
    exact ⟨j, rfl, e3⟩
theorem mg_none {k : K} {M : List (K × Value)} : mg k M = none ↔ lkG k M 0 = none := by
  unfold mg
  cases lkG k M 0 <;> simp
theorem mg_mem {k : K} : ∀ {M : List (K × Value)}, mg k M = none ↔ k ∉ M.map (·.1)
  | [] => by simp [mg_nil]
  | (a, v) :: r => by
    rw [mg_cons]
    by_cases h : k = a
    · simp [h]
    · rw [if_neg h, mg_mem (M := r)]; simp [h]
theorem mg_set (k : K) (v : Value) (k' : K) : ∀ M : List (K × Value), mg k' (msG k v M) = if k' = k then some v else mg k' M
  | [] => by unfold msG; rw [mg_cons, mg_nil]
  | (a, u) :: r => by
    unfold msG
    by_cases h : k = a
    · rw [if_pos h, mg_cons, mg_cons]
      subst h
      by_cases h' : k' = k
      · rw [if_pos h', if_pos h']
      · rw [if_neg h', if_neg h', if_neg h']
    · rw [if_neg h, mg_cons, mg_cons, mg_set k v k' r]
      by_cases h' : k' = a
      · rw [if_pos h', if_pos h', if_neg (fun e => h (e.symm.trans h'))]
      · rw [if_neg h', if_neg h']
theorem keys_set (k : K) (v : Value) : ∀ M : List (K × Value), (msG k v M).map (·.1) = if k ∈ M.map (·.1) then M.map (·.1) else M.map (·.1) ++ [k]
  | [] => rfl
  | (a, u) :: r => by
    unfold msG
    by_cases h : k = a
    · rw [if_pos h, if_pos (by simp [h])]; rfl
    · rw [if_neg h]
      show a :: (msG k v r).map (·.1) = if k ∈ a :: r.map (·.1) then a :: r.map (·.1) else (a :: r.map (·.1)) ++ [k]
      rw [keys_set k v r]
      by_cases h2 : k ∈ r.map (·.1)
      · rw [if_pos h2, if_pos (.tail _ h2)]
      · rw [if_neg h2, if_neg (fun e => (List.mem_cons.1 e).elim h h2)]; first | rfl | done
theorem nodup_set {k : K} {v : Value} {M : List (K × Value)} (h : (M.map (·.1)).Nodup) : ((msG k v M).map (·.1)).Nodup := by
  rw [keys_set]
  split
  · exact h
  · rename_i hk
    exact List.nodup_append.2 ⟨h, by simp, fun a ha b hb e => by
      obtain rfl := List.mem_singleton.1 hb
      exact hk (e ▸ ha)⟩
theorem len_set {k : K} {v : Value} (M : List (K × Value)) : (msG k v M).length = if mg k M = none then M.length + 1 else M.length := by
  have := congrArg List.length (keys_set k v M)
  simp only [List.length_map] at this
  rw [this]
  by_cases h : k ∈ M.map (·.1)
  · rw [if_pos h, if_neg (fun e => mg_mem.1 e h)]; simp
  · rw [if_neg h, if_pos (mg_mem.2 h)]; simp
theorem mdG_eq (k : K) : ∀ M : List (K × Value), mdG k M = match M with | [] => [] | (a, u) :: r => if k = a then r else (a, u) :: mdG k r
  | [] => rfl
  | (a, u) :: r => by
    show (match lkG k ((a, u) :: r) 0 with | some (n, _) => ((a, u) :: r).eraseIdx n | none => (a, u) :: r) = _
    unfold lkG
    by_cases h : k = a
    · rw [if_pos h]
      simp only [if_pos h, List.eraseIdx_zero, List.tail_cons]
    · rw [if_neg h, lkG_shift]
      unfold mdG
      simp only [if_neg h]
      cases lkG k r 0 <;> rfl
theorem mg_del (k k' : K) : ∀ M : List (K × Value), (M.map (·.1)).Nodup → mg k' (mdG k M) = if k' = k then none else mg k' M
  | [], _ => by rw [mdG_eq, mg_nil]; simp
  | (a, u) :: r, hn => by
    have hn' := List.nodup_cons.1 hn
    rw [mdG_eq]
    by_cases h : k = a
    · simp only [if_pos h]
      subst h
      rw [mg_cons]
      by_cases h' : k' = k
      · rw [if_pos h', h']; exact mg_mem.2 hn'.1
      · rw [if_neg h', if_neg h']
    · simp only [if_neg h]
      rw [mg_cons, mg_cons, mg_del k k' r hn'.2]
      by_cases h' : k' = a
      · rw [if_pos h', if_pos h', if_neg (fun e => h (e.symm.trans h'))]
      · rw [if_neg h', if_neg h']
theorem del_sub (k : K) (M : List (K × Value)) : (mdG k M).Sublist M := by
  unfold mdG
  split
  · exact List.eraseIdx_sublist _ _
  · exact List.Sublist.refl _
theorem nodup_del {k : K} {M : List (K × Value)} (h : (M.map (·.1)).Nodup) : ((mdG k M).map (·.1)).Nodup := h.sublist ((del_sub k M).map _)
theorem len_del {k : K} : ∀ (M : List (K × Value)), (mdG k M).length = if mg k M = none then M.length else M.length - 1
  | [] => by rw [mdG_eq, mg_nil]; simp
  | (a, u) :: r => by
    rw [mdG_eq, mg_cons]
    by_cases h : k = a
    · simp [h]
    · simp only [if_neg h, List.length_cons, len_del r]
      cases hr : mg k r with
      | none => simp
      | some x =>
        have : 0 < r.length := by
          cases r with
          | nil => simp [mg_nil] at hr
          | cons y s => simp
        simp
        omega
theorem mg_in {k : K} {v : Value} {M : List (K × Value)} (hn : (M.map (·.1)).Nodup) : mg k M = some v ↔ (k, v) ∈ M := by
  induction M with
  | nil => simp [mg_nil]
  | cons p r ih =>
    obtain ⟨a, u⟩ := p
    have hn' := List.nodup_cons.1 hn
    rw [mg_cons]
    by_cases h : k = a
    · subst h
      rw [if_pos rfl]
      constructor
      · intro e; rw [Option.some.inj e]; exact .head _
      · intro e
        rcases List.mem_cons.1 e with e | e
        · injection e with _ e; rw [e]
        · exact absurd (List.mem_map_of_mem (f := (·.1)) e) hn'.1
    · rw [if_neg h, ih hn'.2]
      simp [h]
/-- A map tells what a function tells. -/
structure MapIs (M : List (K × Value)) (g : K → Option Value) : Prop where
  nodup : (M.map (·.1)).Nodup
  get : ∀ k, mg k M = g k
theorem MapIs.nil : MapIs ([] : List (K × Value)) fun _ => none := ⟨List.nodup_nil, fun _ => rfl⟩
theorem MapIs.set {M : List (K × Value)} {g g' : K → Option Value} {k : K} {v : Value} (h : MapIs M g) (hg : ∀ k', g' k' = if k' = k then some v else g k') : MapIs (msG k v M) g' :=
  ⟨nodup_set h.nodup, fun k' => by rw [mg_set, hg, h.get]⟩
theorem MapIs.del {M : List (K × Value)} {g g' : K → Option Value} {k : K} (h : MapIs M g) (hg : ∀ k', g' k' = if k' = k then none else g k') : MapIs (mdG k M) g' :=
  ⟨nodup_del h.nodup, fun k' => by rw [mg_del k k' M h.nodup, hg, h.get]⟩
theorem MapIs.congr {M : List (K × Value)} {g g' : K → Option Value} (h : MapIs M g) (hg : ∀ k, g' k = g k) : MapIs M g' := ⟨h.nodup, fun k => (h.get k).trans (hg k).symm⟩
end
/-! ### facts that hide something -/
/-- Some a has I, and its fact holds. -/
def exF {α : Type} (S : Nat → Prop) (I : α → Prop) (ψ : α → Fact) (hS : ∀ a, I a → (ψ a).S = S) : Fact := ⟨S, fun w => ∃ a, I a ∧ (ψ a).p w, fun w w' h ⟨a, ha, hp⟩ => ⟨a, ha, (ψ a).loc w w' (fun b hb => h b (by rw [hS a ha] at hb; exact hb)) hp⟩⟩
section
variable {X : Cx} {f : Fr} {E : List Nat} {w0 w : World} {O O' R : List Fact} {ks k : List KI} {ops lo : List Oper} {α : Type} {S : Nat → Prop} {I : α → Prop} {ψ : α → Fact} {hS : ∀ a, I a → (ψ a).S = S}
theorem Kn.sub1 {φ χ : Fact} (h : Kn E w0 w (φ :: O) R) (hp : χ.p w) (hs : χ.S = φ.S) : Kn E w0 w (χ :: O) R where
  os := h.os
  tape := h.tape
  output := h.output
  size := h.size
  block := h.block
  ownS ζ hζ b hb := by
    rcases List.mem_cons.1 hζ with rfl | h1
    · rw [hs] at hb; exact h.ownS φ (.head _) b hb
    · exact h.ownS ζ (.tail _ h1) b hb
  ltO ζ hζ b hb := by
    rcases List.mem_cons.1 hζ with rfl | h1
    · rw [hs] at hb; exact h.ltO φ (.head _) b hb
    · exact h.ltO ζ (.tail _ h1) b hb
  ltR := h.ltR
  pO ζ hζ := by
    rcases List.mem_cons.1 hζ with rfl | h1
    · exact hp
    · exact h.pO ζ (.tail _ h1)
  pR := h.pR
  disO := by
    obtain ⟨h1, h2⟩ := List.pairwise_cons.1 h.disO
    exact List.pairwise_cons.2 ⟨fun ζ hζ b hb => h1 ζ hζ b (by rw [hs] at hb; exact hb), h2⟩
  disR ζ hζ θ hθ b hb := by
    rcases List.mem_cons.1 hζ with rfl | h1
    · rw [hs] at hb; exact h.disR φ (.head _) θ hθ b hb
    · exact h.disR ζ (.tail _ h1) θ hθ b hb
theorem gk_exE (hs : Sel (exF S I ψ hS) O O') (hg : ∀ a, I a → GK X ks f (ψ a :: O') R) : GK X ks f O R := .mk fun a w hr hk => by
  have h1 := hk.perm hs.perm
  obtain ⟨x, hx, hp⟩ := h1.pO _ (.head _)
  exact (hg x hx).out a w hr (h1.sub1 hp (hS x hx))
theorem g_exE (hs : Sel (exF S I ψ hS) O O') (hg : ∀ a, I a → G X ops lo k f (ψ a :: O') R) : G X ops lo k f O R := .mk fun a w hr hk => by
  have h1 := hk.perm hs.perm
  obtain ⟨x, hx, hp⟩ := h1.pO _ (.head _)
  exact (hg x hx).out a w hr (h1.sub1 hp (hS x hx))
theorem gk_exI (x : α) (hx : I x) (hs : Sel (ψ x) O O') (hg : GK X ks f (exF S I ψ hS :: O') R) : GK X ks f O R := .mk fun a w hr hk =>
  hg.out a w hr ((hk.perm hs.perm).sub1 ⟨x, hx, (hk.perm hs.perm).pO _ (.head _)⟩ (hS x hx).symm)
theorem g_exI (x : α) (hx : I x) (hs : Sel (ψ x) O O') (hg : G X ops lo k f (exF S I ψ hS :: O') R) : G X ops lo k f O R := .mk fun a w hr hk =>
  hg.out a w hr ((hk.perm hs.perm).sub1 ⟨x, hx, (hk.perm hs.perm).pO _ (.head _)⟩ (hS x hx).symm)
theorem gk_mpb {K : Type} {r : Nat} {ek : K → Value} {M : List (K × Value)} (hs : Sel (mpk r ek M) O O') (hg : ∀ B : List Nat, B.length = M.length → GK X ks f (mpb r ek M B :: O') R) : GK X ks f O R := .mk fun a w hr hk => by
  have h1 := hk.perm hs.perm
  obtain ⟨es, ck, e1, B, e2⟩ := h1.pO _ (.head _)
  exact (hg B e2.size.2).out a w hr (h1.sub1 ⟨es, ck, e1, e2⟩ rfl)
theorem gk_mpbI {K : Type} {r : Nat} {ek : K → Value} {M : List (K × Value)} {B : List Nat} (hs : Sel (mpb r ek M B) O O') (hg : GK X ks f (mpk r ek M :: O') R) : GK X ks f O R := .mk fun a w hr hk => by
  have h1 := hk.perm hs.perm
  obtain ⟨es, ck, e1, e2⟩ := h1.pO _ (.head _)
  exact hg.out a w hr (h1.sub1 ⟨es, ck, e1, B, e2⟩ rfl)
theorem Rd1.exE (h : Rd1 w (exF S I ψ hS)) : ∃ x, I x ∧ Rd1 w (ψ x) := by
  obtain ⟨⟨x, hx, hp⟩, hlt⟩ := h
  exact ⟨x, hx, hp, fun b hb => hlt b (by rw [hS x hx] at hb; exact hb)⟩
end
end Go.Proofs.Ytmmijcannahjhaa.Gx

