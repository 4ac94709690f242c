/- The heads that a heap has, and what is left of the rows (plain). -/
import Derived.Test.YtmbphmckakigaaaMh5
namespace Go.Proofs.Ytmbphmckakigaaa.Mg
open Go.RowKit Mem Gx Hp Nd
set_option linter.unusedVariables false
set_option linter.unusedSimpArgs false
set_option maxRecDepth 100000
structure HR (RS : List RwD) (L : List HdD) (rem : List (List EntD)) : Prop where
  ok : ∀ x, x ∈ L → HOk RS x ∧ rem[x.i]? = some x.E
  all : ∀ (i : Nat) (r : List EntD), rem[i]? = some r → r ≠ [] → ∃ x, x ∈ L ∧ x.i = i
  nd : (L.map HdD.i).Nodup
  srt : ∀ r, r ∈ rem → Srt r
theorem HR.start (RS : List RwD) : HR RS [] [] := ⟨fun x h => (by cases h), fun i r h => (by simp at h), List.nodup_nil, fun r h => (by cases h)⟩
theorem HR.perm {RS : List RwD} {L L' : List HdD} {rem : List (List EntD)} (h : HR RS L rem) (hp : L'.Perm L) : HR RS L' rem :=
  ⟨fun x hx => h.ok x (hp.mem_iff.1 hx), fun i r hr hne => by
    obtain ⟨x, hx, e⟩ := h.all i r hr hne
    exact ⟨x, hp.mem_iff.2 hx, e⟩, (hp.map HdD.i).nodup_iff.2 h.nd, h.srt⟩
theorem HR.push0 {RS : List RwD} {L : List HdD} {rem : List (List EntD)} (h : HR RS L rem) : HR RS L (rem ++ [[]]) := by
  refine ⟨fun x hx => ?_, fun i r hr hne => ?_, h.nd, fun r hr => ?_⟩
  · obtain ⟨h1, h2⟩ := h.ok x hx
    exact ⟨h1, by rw [List.getElem?_append_left (List.getElem?_eq_some_iff.1 h2).1]; exact h2⟩
  · by_cases hi : i < rem.length
    · rw [List.getElem?_append_left hi] at hr
      exact h.all i r hr hne
    · rw [List.getElem?_append_right (by omega)] at hr
      have := (List.getElem?_eq_some_iff.1 hr).1
      rw [List.length_singleton] at this
      rw [show i - rem.length = 0 by omega] at hr
      exact absurd (Option.some.inj hr).symm hne
  · rcases List.mem_append.1 hr with hr | hr
    · exact h.srt r hr
    · obtain rfl := List.mem_singleton.1 hr
      exact List.Pairwise.nil
theorem HR.push1 {RS : List RwD} {L : List HdD} {rem : List (List EntD)} {s : SlV} {E : List EntD} (h : HR RS L rem) (ho : HOk RS ⟨s, E, rem.length⟩) (hs : Srt E) : HR RS (L ++ [⟨s, E, rem.length⟩]) (rem ++ [E]) := by
  refine ⟨fun x hx => ?_, fun i r hr hne => ?_, ?_, fun r hr => ?_⟩
  · rcases List.mem_append.1 hx with hx | hx
    · obtain ⟨h1, h2⟩ := h.ok x hx
      exact ⟨h1, by rw [List.getElem?_append_left (List.getElem?_eq_some_iff.1 h2).1]; exact h2⟩
    · obtain rfl := List.mem_singleton.1 hx
      exact ⟨ho, by show (rem ++ [E])[rem.length]? = some E; rw [List.getElem?_append_right (Nat.le_refl _), Nat.sub_self]; rfl⟩
  · by_cases hi : i < rem.length
    · rw [List.getElem?_append_left hi] at hr
      obtain ⟨x, hx, e⟩ := h.all i r hr hne
      exact ⟨x, List.mem_append_left _ hx, e⟩
    · rw [List.getElem?_append_right (by omega)] at hr
      have := (List.getElem?_eq_some_iff.1 hr).1
      rw [List.length_singleton] at this
      exact ⟨⟨s, E, rem.length⟩, List.mem_append_right _ (.head _), by show rem.length = i; omega⟩
  · rw [List.map_append]
    refine List.nodup_append.2 ⟨h.nd, (List.nodup_cons.2 ⟨by simp, List.nodup_nil⟩), fun a ha b hb hab => ?_⟩
    obtain rfl := List.mem_singleton.1 hb
    obtain ⟨x, hx, rfl⟩ := List.mem_map.1 ha
    have := (List.getElem?_eq_some_iff.1 (h.ok x hx).2).1
    have hab' : x.i = rem.length := hab
    omega
  · rcases List.mem_append.1 hr with hr | hr
    · exact h.srt r hr
    · obtain rfl := List.mem_singleton.1 hr
      exact hs
theorem HR.nil {RS : List RwD} {rem : List (List EntD)} (h : HR RS [] rem) : ∀ r, r ∈ rem → r = [] := fun r hr => by
  obtain ⟨i, hi⟩ := List.getElem?_of_mem hr
  exact Classical.byContradiction fun hne => by
    obtain ⟨x, hx, _⟩ := h.all i r hi hne
    cases hx
/-- All of a row are not below its first. -/
theorem srt_fst {e : EntD} {t : List EntD} (h : Srt (e :: t)) : ∀ z, z ∈ e :: t → ¬ klt z.k e.k := fun z hz => by
  rcases List.mem_cons.1 hz with rfl | hz
  · exact klt_irr _
  · exact (List.pairwise_cons.1 h).1 z hz
theorem HR.next {RS : List RwD} {x : HdD} {L : List HdD} {rem : List (List EntD)} {e : EntD} {t : List EntD} (h : HR RS (x :: L) rem) (hx : x.E = e :: t) (hm : ∀ y, y ∈ x :: L → ¬ ltH y x) : insAll rem = e :: insAll (rem.set x.i t) := by
  obtain ⟨_, h2⟩ := h.ok x (.head _)
  rw [hx] at h2
  obtain ⟨hi, he⟩ := List.getElem?_eq_some_iff.1 h2
  have hsx := h.srt _ (List.mem_of_getElem? h2)
  have e1 : rem = rem.take x.i ++ (e :: t) :: rem.drop (x.i + 1) := by
    conv => lhs; rw [← List.take_append_drop x.i rem, List.drop_eq_getElem_cons hi, he]
  have e2 : rem.set x.i t = rem.take x.i ++ t :: rem.drop (x.i + 1) := by rw [List.set_eq_take_append_cons_drop, if_pos hi]
  have hfx : (fstE x.E).k = e.k := by rw [hx]; rfl
  have key : ∀ (j : Nat) (r : List EntD), rem[j]? = some r → j ≠ x.i → ∀ z, z ∈ r → (j < x.i → klt e.k z.k) ∧ ¬ klt z.k e.k := fun j r hr hj z hz => by
    cases r with
    | nil => cases hz
    | cons a r =>
      obtain ⟨y, hy, rfl⟩ := h.all j _ hr (by simp)
      obtain ⟨_, q2⟩ := h.ok y hy
      rw [hr] at q2
      have hyE : y.E = a :: r := (Option.some.inj q2).symm
      have hfy : (fstE y.E).k = a.k := by rw [hyE]; rfl
      have hna := srt_fst (h.srt _ (List.mem_of_getElem? hr)) z hz
      have hmy := hm y hy
      unfold ltH at hmy
      rw [hfx, hfy] at hmy
      have h3 : ¬ klt a.k e.k := fun h => hmy (.inl h)
      refine ⟨fun hlt => ?_, nlt_trans h3 hna⟩
      have h4 : klt e.k a.k := Classical.byContradiction fun h5 => hmy (.inr ⟨h5, hlt⟩)
      exact klt_nlt h4 hna
  rw [e2]
  conv => lhs; rw [e1]
  refine ins_next (fun r hr z hz => ?_) (fun z hz => (List.pairwise_cons.1 hsx).1 z hz) (fun r hr z hz => ?_)
  · obtain ⟨j, hj⟩ := List.getElem?_of_mem hr
    rw [List.getElem?_take] at hj
    split at hj
    · rename_i hlt
      exact (key j r hj (by omega) z hz).1 hlt
    · cases hj
  · obtain ⟨j, hj⟩ := List.getElem?_of_mem hr
    rw [List.getElem?_drop] at hj
    exact (key _ r hj (by omega) z hz).2
theorem HR.step1 {RS : List RwD} {x : HdD} {L : List HdD} {rem : List (List EntD)} {e : EntD} {t : List EntD} {s : SlV} (h : HR RS (x :: L) rem) (hx : x.E = e :: t) (ho : HOk RS ⟨s, t, x.i⟩) : HR RS (⟨s, t, x.i⟩ :: L) (rem.set x.i t) := by
  obtain ⟨_, h2⟩ := h.ok x (.head _)
  rw [hx] at h2
  have hi := (List.getElem?_eq_some_iff.1 h2).1
  have hnd := List.nodup_cons.1 h.nd
  refine ⟨fun y hy => ?_, fun j r hr hne => ?_, h.nd, fun r hr => ?_⟩
  · rcases List.mem_cons.1 hy with rfl | hy
    · exact ⟨ho, by show (rem.set x.i t)[x.i]? = some t; simp [hi]⟩
    · obtain ⟨q1, q2⟩ := h.ok y (.tail _ hy)
      have hne : x.i ≠ y.i := fun e => hnd.1 (e ▸ List.mem_map.2 ⟨y, hy, rfl⟩)
      exact ⟨q1, by rw [List.getElem?_set_ne hne]; exact q2⟩
  · by_cases e : x.i = j
    · exact ⟨_, .head _, e⟩
    · rw [List.getElem?_set_ne e] at hr
      obtain ⟨y, hy, hyj⟩ := h.all j r hr hne
      rcases List.mem_cons.1 hy with rfl | hy
      · exact absurd hyj e
      · exact ⟨y, .tail _ hy, hyj⟩
  · rcases List.mem_or_eq_of_mem_set hr with hr | rfl
    · exact h.srt r hr
    · exact (List.pairwise_cons.1 (h.srt _ (List.mem_of_getElem? h2))).2
theorem HR.step0 {RS : List RwD} {x z : HdD} {L L' : List HdD} {rem : List (List EntD)} {e : EntD} (h : HR RS (x :: L) rem) (hx : x.E = [e]) (hz : z.i = x.i) (hp : (L' ++ [z]).Perm (z :: L)) : HR RS L' (rem.set x.i []) := by
  have hp' : L'.Perm L := by
    have h1 : (z :: L').Perm (z :: L) := (List.perm_append_singleton z L').symm.trans hp
    exact (List.perm_cons z).1 h1
  have hnd := List.nodup_cons.1 h.nd
  have h0 : HR RS L (rem.set x.i []) := by
    refine ⟨fun y hy => ?_, fun j r hr hne => ?_, hnd.2, fun r hr => ?_⟩
    · obtain ⟨q1, q2⟩ := h.ok y (.tail _ hy)
      have hne : x.i ≠ y.i := fun e => hnd.1 (e ▸ List.mem_map.2 ⟨y, hy, rfl⟩)
      exact ⟨q1, by rw [List.getElem?_set_ne hne]; exact q2⟩
    · by_cases e : x.i = j
      · subst e
        have hi := (List.getElem?_eq_some_iff.1 hr).1
        rw [List.length_set] at hi
        rw [List.getElem?_set_self hi] at hr
        exact absurd (Option.some.inj hr).symm hne
      · rw [List.getElem?_set_ne e] at hr
        obtain ⟨y, hy, hyj⟩ := h.all j r hr hne
        rcases List.mem_cons.1 hy with rfl | hy
        · exact absurd hyj e
        · exact ⟨y, hy, hyj⟩
    · rcases List.mem_or_eq_of_mem_set hr with hr | rfl
      · exact h.srt r hr
      · exact List.Pairwise.nil
  exact h0.perm hp'
end Go.Proofs.Ytmbphmckakigaaa.Mg

