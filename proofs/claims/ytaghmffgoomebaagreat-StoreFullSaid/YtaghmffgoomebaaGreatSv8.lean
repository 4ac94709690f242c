/- What a change leaves of a tree: its nodes are new, or were there (plain; no program). -/
import Derived.Test.YtaghmffgoomebaaGreatTl
import Derived.Test.YtaghmffgoomebaaGreatSv2
namespace Go.Proofs.YtaghmffgoomebaaGreat.Tr
open Go.RowKit Mem Nd Gx Tw
set_option linter.unusedVariables false
set_option linter.unusedSimpArgs false
section
/-- All trees within a tree are so. -/
def AllT (P : (h : Nat) → T h → Prop) : (h : Nat) → T h → Prop
  | 0, t => P 0 t
  | h + 1, t => P (h + 1) t ∧ ∀ k ∈ t.2, AllT P h k
theorem allT_nd {p : NodeD → Prop} : ∀ {h : Nat} {t : T h}, AllT (fun h t => p (nd h t)) h t → ∀ d ∈ nds h t, p d
  | 0, t, z, d, hd => by
    obtain rfl := List.mem_singleton.1 hd
    exact z
  | h + 1, t, z, d, hd => by
    rcases nds_cases hd with rfl | ⟨k, hk, hd⟩
    · exact z.1
    · exact allT_nd (z.2 k hk) d hd
variable {P : (h : Nat) → T h → Prop} (h0 : ∀ (h : Nat) (t : T h), (nd h t).a = 0 → P h t)
include h0
theorem cut_p {h : Nat} {ts : List (T (h + 1))} {L : List (T h)} (e : ts.map (fun s => s.2) = cutN L) (hi : ∀ s ∈ ts, IsInner (s.2.map (nd h)) s.1) (hL : ∀ k ∈ L, AllT P h k) : ∀ s ∈ ts, AllT P (h + 1) s := fun s hs =>
  ⟨h0 (h + 1) s (hi s hs).a, fun k hk => hL k ((mem_snd e hs).2 k hk)⟩
theorem leaf_p {ts : List (T 0)} (hi : ∀ s ∈ ts, IsLeaf s.2 s.1) : ∀ s ∈ ts, AllT P 0 s := fun s hs => h0 0 s (hi s hs).a
theorem setR_p : ∀ (h : Nat) (t : T h) (e : EntD) (ts : List (T h)), SetR h t e ts → AllT P h t → ∀ s ∈ ts, AllT P h s
  | 0, t, e, ts, ⟨_, _, _, hl⟩, z => leaf_p h0 hl
  | h + 1, t, e, ts, ⟨q, c, us, hq, hc, hs, hts, hl⟩, z => cut_p h0 hts hl fun k hk => by
    rcases List.mem_append.1 hk with hk | hk
    · rcases List.mem_append.1 hk with hk | hk
      · exact z.2 _ (List.mem_of_mem_take hk)
      · exact setR_p h c e us hs (z.2 _ (List.mem_of_getElem? hc)) k hk
    · exact z.2 _ (List.mem_of_mem_drop hk)
theorem joinR_p : ∀ (h : Nat) (a b : T h) (js : List (T h)), JoinR h a b js → AllT P h a → AllT P h b → ∀ s ∈ js, AllT P h s
  | 0, a, b, js, ⟨_, hl⟩, _, _ => leaf_p h0 hl
  | h + 1, a, b, js, ⟨h1, hl⟩, za, zb => cut_p h0 h1 hl fun k hk => by
    rcases List.mem_append.1 hk with hk | hk
    · exact za.2 _ hk
    · exact zb.2 _ hk
theorem joinedR_p {h : Nat} {ks ks' : List (T h)} {i : Nat} (hj : JoinedR h ks i ks') (z : ∀ k ∈ ks, AllT P h k) : ∀ k ∈ ks', AllT P h k := by
  obtain ⟨c, hc, ⟨_, rfl⟩ | ⟨_, a, b, js, ha, hb, hr, rfl⟩⟩ := hj
  · exact z
  · intro k hk
    rcases List.mem_append.1 hk with hk | hk
    · rcases List.mem_append.1 hk with hk | hk
      · exact z k (List.mem_of_mem_take hk)
      · exact joinR_p h0 h a b js hr (z a (List.mem_of_getElem? ha)) (z b (List.mem_of_getElem? hb)) k hk
    · exact z k (List.mem_of_mem_drop hk)
theorem delR_p : ∀ (h : Nat) (t : T h) (k : KeyD) (ts : List (T h)), DelR h t k ts → AllT P h t → ∀ s ∈ ts, AllT P h s
  | 0, t, k, ts, ⟨_, _, _, _, hl⟩, z => leaf_p h0 hl
  | h + 1, t, k, ts, ⟨q, c, us, ks, hq, hc, hs, hj, hts, hl⟩, z => cut_p h0 hts hl (joinedR_p h0 hj fun x hx => by
    rcases List.mem_append.1 hx with hx | hx
    · rcases List.mem_append.1 hx with hx | hx
      · exact z.2 _ (List.mem_of_mem_take hx)
      · exact delR_p h c k us hs (z.2 _ (List.mem_of_getElem? hc)) x hx
    · exact z.2 _ (List.mem_of_mem_drop hx))
theorem setS_p {H : Nat} {t : T H} {e : EntD} {a : AT} (hs : SetS t e a) (z : AllT P H t) : AllT P a.h a.t := by
  obtain ⟨ts, h1, ⟨s, e1, e2⟩ | ⟨x, y, d, e1, hd, e2⟩⟩ := hs
  · subst e1 e2
    exact setR_p h0 H t e [s] h1 z s (.head _)
  · subst e1 e2
    exact ⟨h0 (H + 1) ((d, [x, y]) : NodeD × List (T H)) hd.a, fun k hk => setR_p h0 H t e [x, y] h1 z k hk⟩
theorem delS_p {H : Nat} {t : T H} {k : KeyD} {a : Option AT} (hs : DelS t k a) (z : AllT P H t) : ∀ b, a = some b → AllT P b.h b.t := by
  obtain ⟨ts, h1, ⟨_, e⟩ | ⟨s, b, e1, e2, h2⟩⟩ := hs
  · intro b hb; rw [e] at hb; cases hb
  · intro b' hb'
    rw [e2] at hb'
    obtain rfl := Option.some.inj hb'
    subst e1
    have hz := delR_p h0 H t k [s] h1 z s (.head _)
    rcases h2 with rfl | h2
    · exact hz
    · cases H with
      | zero => cases h2
      | succ H =>
        have e3 : (s.2.map fun k => (⟨H, k⟩ : AT)) = [b] := h2
        have hm : b ∈ s.2.map fun k => (⟨H, k⟩ : AT) := by rw [e3]; exact .head _
        obtain ⟨x, hx, rfl⟩ := List.mem_map.1 hm
        exact hz.2 x hx
/-- All nodes of a tree, if there is one, are so. -/
def AllO (P : (h : Nat) → T h → Prop) (a : Option AT) : Prop := ∀ b, a = some b → AllT P b.h b.t
theorem step_p {a : Option AT} {M : List EntD} {o : OpD} {r : StepO} (hr : StepI a M o r) (z : AllO P a) : AllO P r.a := by
  obtain ⟨p, hp, hM, hd, hs⟩ := hr.p
  cases hdel : o.del with
  | true =>
    have h1 := hd hdel
    cases a with
    | none => intro b hb; rw [show r.a = none from h1] at hb; cases hb
    | some a =>
      obtain ⟨h2, h3⟩ := h1
      by_cases hf : tB ((keysOf M)[p]? = some o.e.k) = true
      · exact delS_p h0 (h3 hf) (z a rfl)
      · rw [h2 (by simpa using hf)]; exact z
  | false =>
    have h1 := hs hdel
    cases a with
    | none =>
      obtain ⟨d, h2, h3⟩ := h1
      intro b hb
      rw [h2] at hb
      obtain rfl := Option.some.inj hb
      exact h0 0 ((d, [o.e]) : NodeD × List EntD) h3.a
    | some a =>
      obtain ⟨c, h2, h3⟩ := h1
      intro b hb
      rw [h2] at hb
      obtain rfl := Option.some.inj hb
      exact setS_p h0 h3 (z a rfl)
end
/-- Entries keep to their bounds. -/
theorem step_bd {a : Option AT} {M : List EntD} {o : OpD} {r : StepO} (hr : StepI a M o r) (hM : ∀ e ∈ M, e.Bd) (ho : o.e.Bd) : ∀ e ∈ r.M, e.Bd := by
  obtain ⟨p, hp, e, _⟩ := hr.p
  intro x hx
  rw [e] at hx
  split at hx
  · unfold delAt at hx
    split at hx
    · rcases List.mem_append.1 hx with hx | hx
      · exact hM x (List.mem_of_mem_take hx)
      · exact hM x (List.mem_of_mem_drop hx)
    · exact hM x hx
  · unfold setAt at hx
    split at hx
    · rcases List.mem_or_eq_of_mem_set hx with hx | rfl
      · exact hM x hx
      · exact ho
    · rcases List.mem_append.1 hx with hx | hx
      · rcases List.mem_append.1 hx with hx | hx
        · exact hM x (List.mem_of_mem_take hx)
        · obtain rfl := List.mem_singleton.1 hx; exact ho
      · exact hM x (List.mem_of_mem_drop hx)
theorem step_len {a : Option AT} {M : List EntD} {o : OpD} {r : StepO} (hr : StepI a M o r) : r.M.length ≤ M.length + 1 := by
  obtain ⟨p, hp, hM, _⟩ := hr.p
  have hpl := hp.le
  rw [List.length_map] at hpl
  rw [hM]
  split
  · have := (delAt_len (t := o.e.k) hpl).1; omega
  · exact (setAt_len hpl).2
end Go.Proofs.YtaghmffgoomebaaGreat.Tr
