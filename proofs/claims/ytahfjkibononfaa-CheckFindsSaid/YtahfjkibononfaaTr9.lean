/- Trees as data: a tree's state between calls, and how Set and Delete change it (plain; no program). Trees as data: how many nodes there are, and a queue of trees (plain; no program). Trees as data: the keys of each node rise; each is of entries that rise (plain; no program). Trees as data: the way down, step by step, from the root (plain; no program). -/
import Derived.Test.YtahfjkibononfaaTr4
namespace Go.Proofs.Ytahfjkibononfaa.Tr
open Nd Gx
set_option linter.unusedVariables false
set_option linter.unusedSimpArgs false
/-- A tree that has a row of entries. -/
structure Has (h : Nat) (t : T h) (L : List EntD) : Prop where
  ok : Ok h t
  size : Root h t
  row : ents h t = L
  asc : AscK (keysOf L)
theorem Has.pos {h : Nat} {t : T h} {L : List EntD} (H : Has h t L) : 0 < L.length := by rw [← H.row]; exact (first_key h t H.ok).1
/-- How high a tree is. -/
theorem Has.high {h : Nat} {t : T h} {L : List EntD} (H : Has h t L) : h = 0 ∨ 2 * 3 ^ h ≤ L.length := by
  cases h with
  | zero => exact .inl rfl
  | succ h =>
    right
    obtain ⟨d, ks⟩ := t
    obtain ⟨h1, _, h3⟩ := H.size
    have h1' : 2 ≤ ks.length := h1
    have h3' : ∀ k ∈ ks, Good h k := h3
    rw [← H.row]
    show 2 * 3 ^ (h + 1) ≤ ((ks.map (ents h)).flatten).length
    match ks, h1', h3' with
    | a :: b :: r, _, h3' =>
      have h4 := good_many h a (h3' a (.head _))
      have h5 := good_many h b (h3' b (.tail _ (.head _)))
      simp only [List.map_cons, List.flatten_cons, List.length_append]
      omega
theorem Has.low {h : Nat} {t : T h} {L : List EntD} (H : Has h t L) (h9 : L.length ≤ 160) : h ≤ 3 := by
  rcases H.high with h0 | h1
  · omega
  · rcases Nat.lt_or_ge h 4 with h2 | h2
    · omega
    · have : 3 ^ 4 ≤ 3 ^ h := Nat.pow_le_pow_right (by omega) h2
      omega
/-- Set: one node is the root now, or two are below a new one. -/
theorem set_one {h : Nat} {t s : T h} {L : List EntD} {e : EntD} (H : Has h t L) (hs : SetR h t e [s]) : ∃ p, PosK (keysOf L) e.k p ∧ Has h s (setAt L e p) := by
  have ha : AscK (keysOf (ents h t)) := by rw [H.row]; exact H.asc
  obtain ⟨⟨p, hp, e1⟩, h2⟩ := setR_ok h t e [s] H.ok ha hs
  rw [H.row] at hp e1
  refine ⟨p, hp, h2 s (.head _), ?_, by simpa using e1, setAt_asc H.asc hp⟩
  rcases (setR_size h t e [s] hs).2 H.size with ⟨_, h3⟩ | ⟨h3, _⟩
  · exact h3 s (.head _)
  · simp at h3
theorem set_two {h : Nat} {t a b : T h} {L : List EntD} {e : EntD} {d : NodeD} (H : Has h t L) (hs : SetR h t e [a, b]) (hd : IsInner [nd h a, nd h b] d) : ∃ p, PosK (keysOf L) e.k p ∧ Has (h + 1) ((d, [a, b]) : NodeD × List (T h)) (setAt L e p) := by
  have ha : AscK (keysOf (ents h t)) := by rw [H.row]; exact H.asc
  obtain ⟨⟨p, hp, e1⟩, h2⟩ := setR_ok h t e [a, b] H.ok ha hs
  rw [H.row] at hp e1
  have hg : ∀ s ∈ [a, b], Good h s := by
    rcases (setR_size h t e [a, b] hs).2 H.size with ⟨h3, _⟩ | ⟨_, h3⟩
    · simp at h3
    · exact h3
  exact ⟨p, hp, ⟨hd, by show 0 < 2; omega, h2⟩, ⟨by show 2 ≤ 2; omega, by show 2 ≤ 6; omega, hg⟩, e1, setAt_asc H.asc hp⟩
theorem set_len {h : Nat} {t : T h} {L : List EntD} {e : EntD} {ts : List (T h)} (H : Has h t L) (hs : SetR h t e ts) : (∃ s, ts = [s]) ∨ ∃ a b, ts = [a, b] := by
  rcases (setR_size h t e ts hs).2 H.size with ⟨h3, _⟩ | ⟨h3, _⟩
  · match ts, h3 with
    | [s], _ => exact .inl ⟨s, rfl⟩
  · match ts, h3 with
    | [a, b], _ => exact .inr ⟨a, b, rfl⟩
/-- The first entry: a leaf of one. -/
theorem has_leaf {e : EntD} {d : NodeD} (hd : IsLeaf [e] d) : Has 0 ((d, [e]) : NodeD × List EntD) [e] :=
  ⟨⟨hd, by show 0 < 1; omega⟩, ⟨by show 1 ≤ 1; omega, by show 1 ≤ 6; omega⟩, rfl, fun i j h1 h2 => by
    have h2' : j < 1 := h2
    omega⟩
/-- Delete: none is left, or one node, which may have one child only: then that is the root. -/
theorem del_none {h : Nat} {t : T h} {L : List EntD} {k : KeyD} (H : Has h t L) (hs : DelR h t k []) : ∃ p, PosK (keysOf L) k p ∧ (keysOf L)[p]? = some k ∧ delAt L k p = [] := by
  have ha : AscK (keysOf (ents h t)) := by rw [H.row]; exact H.asc
  obtain ⟨⟨p, hp, hf, e1⟩, _⟩ := delR_ok h t k [] H.ok ha hs
  rw [H.row] at hp hf e1
  exact ⟨p, hp, hf, by rw [← e1]; rfl⟩
theorem del_one {h : Nat} {t s : T h} {L : List EntD} {k : KeyD} (H : Has h t L) (hs : DelR h t k [s]) : ∃ p, PosK (keysOf L) k p ∧ (keysOf L)[p]? = some k ∧ Ok h s ∧ Low h s ∧ ents h s = delAt L k p ∧ AscK (keysOf (delAt L k p)) := by
  have ha : AscK (keysOf (ents h t)) := by rw [H.row]; exact H.asc
  obtain ⟨⟨p, hp, hf, e1⟩, h2⟩ := delR_ok h t k [s] H.ok ha hs
  rw [H.row] at hp hf e1
  refine ⟨p, hp, hf, h2 s (.head _), ?_, by simpa using e1, delAt_asc H.asc⟩
  rcases (delR_size h t k [s] hs).2 H.size with ⟨h3, _⟩ | ⟨s', h3, h4⟩
  · cases h3
  · injection h3 with h3
    rw [h3]; exact h4
theorem low_root {h : Nat} {s : T h} {L : List EntD} (ok : Ok h s) (lw : Low h s) (hr : ents h s = L) (ha : AscK (keysOf L)) (h1 : h = 0 ∨ 2 ≤ ln h s) : Has h s L := by
  refine ⟨ok, ?_, hr, ha⟩
  cases h with
  | zero => exact lw
  | succ h =>
    rcases h1 with h1 | h1
    · cases h1
    · exact ⟨h1, lw.2.1, lw.2.2⟩
theorem low_kid {h : Nat} {d : NodeD} {c : T h} {L : List EntD} (ok : Ok (h + 1) ((d, [c]) : NodeD × List (T h))) (lw : Low (h + 1) ((d, [c]) : NodeD × List (T h))) (hr : ents (h + 1) ((d, [c]) : NodeD × List (T h)) = L) (ha : AscK (keysOf L)) : Has h c L ∧ (h = 0 ∨ 2 ≤ ln h c) := by
  have hg : Good h c := lw.2.2 c (.head _)
  refine ⟨⟨ok.2.2 c (.head _), hg.near.root, ?_, ha⟩, .inr (by have := hg.ln; omega)⟩
  rw [← hr]
  show ents h c = ([c].map (ents h)).flatten
  simp
theorem del_len {h : Nat} {t : T h} {L : List EntD} {k : KeyD} {ts : List (T h)} (H : Has h t L) (hs : DelR h t k ts) : ts = [] ∨ ∃ s, ts = [s] := by
  rcases (delR_size h t k ts hs).2 H.size with ⟨h3, _⟩ | ⟨s, h3, _⟩
  · exact .inl h3
  · exact .inr ⟨s, h3⟩
end Go.Proofs.Ytahfjkibononfaa.Tr
namespace Go.Proofs.Ytahfjkibononfaa.Tr
open Nd Gx
set_option linter.unusedVariables false
set_option linter.unusedSimpArgs false
def cnt : (h : Nat) → T h → Nat
  | 0, _ => 1
  | h + 1, t => 1 + (t.2.map (cnt h)).sum
theorem cnt_pos : ∀ (h : Nat) (t : T h), 1 ≤ cnt h t
  | 0, _ => Nat.le_refl _
  | h + 1, t => Nat.le_add_right 1 _
theorem cnt_kids {h : Nat} : ∀ (l : List (T h)), (∀ k ∈ l, 2 * cnt h k + 1 ≤ (ents h k).length) → 2 * (l.map (cnt h)).sum + l.length ≤ ((l.map (ents h)).flatten).length
  | [], _ => by simp
  | x :: r, hg => by
    have h1 := hg x (.head _)
    have h2 := cnt_kids r fun k hk => hg k (.tail _ hk)
    simp only [List.map_cons, List.sum_cons, List.flatten_cons, List.length_append, List.length_cons]
    omega
theorem cnt_good : ∀ (h : Nat) (t : T h), Good h t → 2 * cnt h t + 1 ≤ (ents h t).length
  | 0, t, ⟨h1, _⟩ => by
    have h1' : 3 ≤ t.2.length := h1
    show 2 * 1 + 1 ≤ t.2.length
    omega
  | h + 1, (d, ks), ⟨h1, _, h3⟩ => by
    have h1' : 3 ≤ ks.length := h1
    have := cnt_kids ks fun k hk => cnt_good h k (h3 k hk)
    show 2 * (1 + (ks.map (cnt h)).sum) + 1 ≤ ((ks.map (ents h)).flatten).length
    omega
theorem cnt_has {h : Nat} {t : T h} {L : List EntD} (H : Has h t L) : cnt h t ≤ L.length / 2 + 1 := by
  cases h with
  | zero => show 1 ≤ _; omega
  | succ h =>
    obtain ⟨d, ks⟩ := t
    obtain ⟨h1, _, h3⟩ := H.size
    have h1' : 2 ≤ ks.length := h1
    have := cnt_kids ks fun k hk => cnt_good h k (h3 k hk)
    have hr : ((ks.map (ents h)).flatten).length = L.length := by rw [← H.row]; rfl
    show 1 + (ks.map (cnt h)).sum ≤ L.length / 2 + 1
    omega
/-- A tree of any height. -/
structure AT where
  h : Nat
  t : T h
def AT.nd (a : AT) : NodeD := Tr.nd a.h a.t
def AT.cnt (a : AT) : Nat := Tr.cnt a.h a.t
def AT.ents (a : AT) : List EntD := Tr.ents a.h a.t
def AT.Ok (a : AT) : Prop := Tr.Ok a.h a.t
def AT.kids : AT → List AT
  | ⟨0, _⟩ => []
  | ⟨h + 1, t⟩ => (Tr.kids t).map fun k => ⟨h, k⟩
theorem AT.cnt_eq (a : AT) : a.cnt = 1 + (a.kids.map AT.cnt).sum := by
  obtain ⟨h, t⟩ := a
  cases h with
  | zero => rfl
  | succ h =>
    show 1 + (t.2.map (Tr.cnt h)).sum = 1 + (((t.2.map fun k => (⟨h, k⟩ : AT))).map AT.cnt).sum
    rw [List.map_map]
    rfl
theorem AT.kids_ok {a : AT} (ok : a.Ok) : ∀ k ∈ a.kids, k.Ok := by
  obtain ⟨h, t⟩ := a
  cases h with
  | zero => intro k hk; cases hk
  | succ h =>
    intro k hk
    obtain ⟨c, hc, rfl⟩ := List.mem_map.1 hk
    exact ok.2.2 c hc
theorem AT.Cs_eq {a : AT} (ok : a.Ok) : a.nd.Cs = a.kids.map fun k => k.nd.g := by
  obtain ⟨h, t⟩ := a
  cases h with
  | zero => exact ok.1.Cs
  | succ h =>
    show t.1.Cs = ((t.2.map fun k => (⟨h, k⟩ : AT))).map fun k => k.nd.g
    rw [ok.1.Cs, List.map_map, List.map_map]
    rfl
theorem AT.leaf_eq {a : AT} (ok : a.Ok) : a.nd.leaf = decide (a.h = 0) := by
  obtain ⟨h, t⟩ := a
  cases h with
  | zero => exact ok.1.leaf
  | succ h => exact ok.1.leaf
/-- A queue: what is behind place i stands for all its trees. -/
def left (Q : List AT) (i : Nat) : Nat := ((Q.drop i).map fun a => a.cnt - 1).sum
theorem left_all (Q : List AT) : left Q Q.length = 0 := by unfold left; rw [List.drop_length]; rfl
theorem left_step {Q : List AT} {i : Nat} {a : AT} (hq : Q[i]? = some a) : (Q ++ a.kids).length + left (Q ++ a.kids) (i + 1) = Q.length + left Q i := by
  have hi := (List.getElem?_eq_some_iff.1 hq).1
  have e1 : Q.drop i = a :: Q.drop (i + 1) := by
    rw [List.getElem?_eq_getElem hi] at hq
    injection hq with hq
    rw [← hq]
    exact List.drop_eq_getElem_cons hi
  have e2 : (Q ++ a.kids).drop (i + 1) = Q.drop (i + 1) ++ a.kids := List.drop_append_of_le_length (by omega)
  have e3 : ∀ l : List AT, (l.map fun a => a.cnt - 1).sum + l.length = (l.map AT.cnt).sum := by
    intro l
    induction l with
    | nil => rfl
    | cons x r ih =>
      have : 1 ≤ x.cnt := cnt_pos x.h x.t
      simp only [List.map_cons, List.sum_cons, List.length_cons]
      omega
  have e4 := e3 a.kids
  have e5 := a.cnt_eq
  unfold left
  rw [e1, e2, List.map_append, List.sum_append, List.map_cons, List.sum_cons, List.length_append]
  omega
/-- The entries of some trees, in order. -/
def entsA (l : List AT) : List EntD := (l.map AT.ents).flatten
theorem entsA_append (l m : List AT) : entsA (l ++ m) = entsA l ++ entsA m := by unfold entsA; rw [List.map_append, List.flatten_append]
theorem AT.ents_kids {a : AT} (h : a.h ≠ 0) : a.ents = entsA a.kids := by
  obtain ⟨h', t⟩ := a
  cases h' with
  | zero => exact absurd rfl h
  | succ h' =>
    show ((t.2.map (Tr.ents h')).flatten) = ((t.2.map fun k => (⟨h', k⟩ : AT)).map AT.ents).flatten
    rw [List.map_map]
    rfl
theorem AT.kids_h {a : AT} : ∀ k ∈ a.kids, k.h + 1 = a.h := by
  obtain ⟨h', t⟩ := a
  cases h' with
  | zero => intro k hk; cases hk
  | succ h' =>
    intro k hk
    obtain ⟨c, _, rfl⟩ := List.mem_map.1 hk
    rfl
/-- Level by level: what waits, and what was gone through, have all entries. -/
def Bfs (P : List AT) (acc L : List EntD) : Prop := ∃ (X Y : List AT) (m : Nat), P = X ++ Y ∧ (∀ a ∈ X, a.h = m) ∧ (∀ b ∈ Y, b.h + 1 = m) ∧ L = acc ++ entsA Y ++ entsA X ∧ (acc = [] ∨ m = 0)
theorem bfs_start (a : AT) : Bfs [a] [] a.ents := ⟨[a], [], a.h, rfl, fun b hb => by rw [List.mem_singleton.1 hb], fun b hb => (by cases hb), by simp [entsA], .inl rfl⟩
theorem bfs_nil {acc L : List EntD} (h : Bfs [] acc L) : acc = L := by
  obtain ⟨X, Y, m, e, _, _, eL, _⟩ := h
  obtain ⟨rfl, rfl⟩ := List.append_eq_nil_iff.1 e.symm
  rw [eL]
  simp [entsA]
theorem bfs_step {a : AT} {P : List AT} {acc L : List EntD} (h : Bfs (a :: P) acc L) : Bfs (P ++ a.kids) (acc ++ if a.h = 0 then a.ents else []) L := by
  have key : ∀ (X Y : List AT) (m : Nat), a :: P = (a :: X) ++ Y → (∀ b ∈ a :: X, b.h = m) → (∀ b ∈ Y, b.h + 1 = m) → L = acc ++ entsA Y ++ entsA (a :: X) → (acc = [] ∨ m = 0) → Bfs (P ++ a.kids) (acc ++ if a.h = 0 then a.ents else []) L := by
    intro X Y m e hX hY eL hacc
    have hP : P = X ++ Y := by
      rw [List.cons_append] at e
      injection e
    have ham : a.h = m := hX a (.head _)
    have e1 : entsA (a :: X) = a.ents ++ entsA X := rfl
    by_cases h0 : a.h = 0
    · have hm0 : m = 0 := by omega
      subst hm0
      have hY0 : Y = [] := by
        cases Y with
        | nil => rfl
        | cons y r => exact absurd (hY y (.head _)) (by omega)
      subst hY0
      have hk0 : a.kids = [] := by
        cases hk : a.kids with
        | nil => rfl
        | cons k r =>
          have := AT.kids_h (a := a) k (by rw [hk]; exact .head _)
          omega
      rw [if_pos h0, hk0, hP]
      refine ⟨X, [], 0, by simp, fun b hb => hX b (.tail _ hb), fun b hb => (by cases hb), ?_, .inr rfl⟩
      rw [eL, e1]
      simp [entsA]
    · rw [if_neg h0, List.append_nil, hP]
      have hacc0 : acc = [] := by
        rcases hacc with h1 | h1
        · exact h1
        · omega
      refine ⟨X, Y ++ a.kids, m, by rw [List.append_assoc], fun b hb => hX b (.tail _ hb), fun b hb => ?_, ?_, .inl hacc0⟩
      · rcases List.mem_append.1 hb with h1 | h1
        · exact hY b h1
        · have := AT.kids_h b h1
          omega
      · rw [eL, e1, entsA_append, AT.ents_kids h0]
        simp only [List.append_assoc]
  obtain ⟨X, Y, m, e, hX, hY, eL, hacc⟩ := h
  cases X with
  | cons x X =>
    rw [List.cons_append] at e
    injection e with e1 e2
    subst e1
    exact key X Y m (by rw [e2]; rfl) hX hY eL hacc
  | nil =>
    rw [List.nil_append] at e
    subst e
    have hm : 0 < m := by have := hY a (.head _); omega
    refine key P [] (m - 1) (by simp) (fun b hb => by have := hY b hb; omega) (fun b hb => (by cases hb)) ?_ ?_
    · rw [eL]; simp [entsA]
    · rcases hacc with h1 | h1
      · exact .inl h1
      · omega
end Go.Proofs.Ytahfjkibononfaa.Tr
namespace Go.Proofs.Ytahfjkibononfaa.Tr
open Nd Gx
set_option linter.unusedVariables false
set_option linter.unusedSimpArgs false
theorem asc_first {Bs : List (List EntD)} (hne : ∀ B ∈ Bs, 0 < B.length) (ha : AscK (keysOf Bs.flatten)) : AscK (Bs.map fstK) := by
  intro i j hij hj
  rw [List.length_map] at hj
  obtain ⟨B, hB⟩ : ∃ B, Bs[i]? = some B := ⟨Bs[i]'(by omega), List.getElem?_eq_getElem (by omega)⟩
  obtain ⟨C, hC⟩ : ∃ C, Bs[j]? = some C := ⟨Bs[j], List.getElem?_eq_getElem hj⟩
  rw [getD_at (show (Bs.map fstK)[i]? = some (fstK B) by rw [List.getElem?_map, hB]; rfl), getD_at (show (Bs.map fstK)[j]? = some (fstK C) by rw [List.getElem?_map, hC]; rfl)]
  obtain ⟨x, r, e1, e2⟩ := fstK_at (hne B (List.mem_of_getElem? hB))
  obtain ⟨y, s, e3, e4⟩ := fstK_at (hne C (List.mem_of_getElem? hC))
  rw [e2, e4]
  exact parts_lt ha hij hB hC x (by rw [e1]; exact .head _) y (by rw [e3]; exact .head _)
theorem asc_node : ∀ (h : Nat) (t : T h), Ok h t → AscK (keysOf (ents h t)) → AscK (nd h t).Ks
  | 0, t, ok, ha => by
    show AscK t.1.Ks
    rw [ok.1.Ks]
    exact ha
  | h + 1, (d, ks), ok, ha => by
    rw [keys_inner ok]
    refine asc_first (fun B hB => ?_) ha
    obtain ⟨x, hx, rfl⟩ := List.mem_map.1 hB
    exact (first_key h x (ok.2.2 x hx)).1
/-- A tree whose entries rise; so do those of its children. -/
def AT.Fine (a : AT) : Prop := a.Ok ∧ AscK (keysOf a.ents)
theorem AT.Fine.keys {a : AT} (f : a.Fine) : AscK a.nd.Ks := asc_node a.h a.t f.1 f.2
theorem AT.Fine.kids {a : AT} (f : a.Fine) : ∀ k ∈ a.kids, k.Fine := by
  intro k hk
  refine ⟨AT.kids_ok f.1 k hk, ?_⟩
  obtain ⟨h, t⟩ := a
  cases h with
  | zero => cases hk
  | succ h =>
    obtain ⟨c, hc, rfl⟩ := List.mem_map.1 hk
    obtain ⟨i, hi⟩ := List.getElem?_of_mem hc
    have hB : (((Tr.kids t)).map (Tr.ents h))[i]? = some (Tr.ents h c) := by rw [List.getElem?_map, hi]; rfl
    exact part_asc (Bs := (Tr.kids t).map (Tr.ents h)) f.2 hB
def AT.Good (a : AT) : Prop := Tr.Good a.h a.t
def AT.Root (a : AT) : Prop := Tr.Root a.h a.t
theorem AT.Root.kids {a : AT} (r : a.Root) : ∀ k ∈ a.kids, k.Good := by
  obtain ⟨h, t⟩ := a
  cases h with
  | zero => intro k hk; cases hk
  | succ h =>
    intro k hk
    obtain ⟨c, hc, rfl⟩ := List.mem_map.1 hk
    exact r.2.2 c hc
theorem AT.Good.kids {a : AT} (g : a.Good) : ∀ k ∈ a.kids, k.Good := AT.Root.kids (a := a) (Near.root (Good.near g))
/-- How many keys a node has. -/
theorem AT.Ks_len {a : AT} (ok : a.Ok) : a.nd.Ks.length = if a.h = 0 then a.ents.length else a.kids.length := by
  obtain ⟨h, t⟩ := a
  cases h with
  | zero =>
    show t.1.Ks.length = t.2.length
    rw [ok.1.Ks, List.length_map]
  | succ h =>
    show (Tr.nd (h + 1) t).Ks.length = ((Tr.kids t).map fun k => (⟨h, k⟩ : AT)).length
    rw [len_inner ok, List.length_map]
theorem AT.Good.len {a : AT} (g : a.Good) (ok : a.Ok) : 3 ≤ a.nd.Ks.length ∧ a.nd.Ks.length ≤ 6 := by
  have := Good.ln g
  rw [ln_eq ok] at this
  exact this
theorem AT.Root.len {a : AT} (r : a.Root) (ok : a.Ok) : (if a.h = 0 then 1 else 2) ≤ a.nd.Ks.length ∧ a.nd.Ks.length ≤ 6 := by
  obtain ⟨h, t⟩ := a
  cases h with
  | zero =>
    have e : t.1.Ks.length = t.2.length := by rw [ok.1.Ks, List.length_map]
    show 1 ≤ t.1.Ks.length ∧ t.1.Ks.length ≤ 6
    rw [e]
    exact r
  | succ h =>
    have e : (Tr.nd (h + 1) t).Ks.length = t.2.length := len_inner ok
    show 2 ≤ (Tr.nd (h + 1) t).Ks.length ∧ (Tr.nd (h + 1) t).Ks.length ≤ 6
    rw [e]
    exact ⟨r.1, r.2.1⟩
/-- The first key of a node is that of its first entry. -/
theorem AT.fst {a : AT} (ok : a.Ok) : 0 < a.ents.length ∧ a.nd.Ks.getD 0 default = fstK a.ents := first_key a.h a.t ok
theorem AT.keys_eq {a : AT} (ok : a.Ok) (h : a.h ≠ 0) : a.nd.Ks = a.kids.map fun k => k.nd.Ks.getD 0 default := by
  obtain ⟨h', t⟩ := a
  cases h' with
  | zero => exact absurd rfl h
  | succ h' =>
    show t.1.Ks = ((t.2.map fun k => (⟨h', k⟩ : AT))).map fun k => k.nd.Ks.getD 0 default
    rw [ok.1.Ks, List.map_map, List.map_map]
    rfl
end Go.Proofs.Ytahfjkibononfaa.Tr
namespace Go.Proofs.Ytahfjkibononfaa.Tr
open Nd Gx
set_option linter.unusedVariables false
set_option linter.unusedSimpArgs false
/-- The steps from the root down to a node on a key's way; what is ahead of it, and behind it. -/
inductive Pth {H : Nat} (t : T H) (k : KeyD) : (h : Nat) → T h → List (Nat × Nat) → List EntD → List EntD → Prop
  | root : Pth t k H t [] [] []
  | down {h : Nat} {s : T (h + 1)} {l : List (Nat × Nat)} {A C : List EntD} (q : Nat) {c : T h} (hp : Pth t k (h + 1) s l A C) (hq : PosK ((s.2.map (ents h)).map fstK) k q)
      (hc : s.2[kidIx ((s.2.map (ents h)).map fstK) k q]? = some c) :
      Pth t k h c (l ++ [((nd (h + 1) s).g, kidIx ((s.2.map (ents h)).map fstK) k q)]) (A ++ ((s.2.map (ents h)).take (kidIx ((s.2.map (ents h)).map fstK) k q)).flatten)
        (((s.2.map (ents h)).drop (kidIx ((s.2.map (ents h)).map fstK) k q + 1)).flatten ++ C)
section
variable {H : Nat} {t : T H} {k : KeyD}
theorem Pth.len {h : Nat} {s : T h} {l : List (Nat × Nat)} {A C : List EntD} (p : Pth t k h s l A C) : l.length + h = H := by
  induction p with
  | root => simp
  | down q hp hq hc ih => rw [List.length_append]; simp only [List.length_cons, List.length_nil]; omega
theorem Pth.ents {h : Nat} {s : T h} {l : List (Nat × Nat)} {A C : List EntD} (p : Pth t k h s l A C) : ents H t = A ++ Tr.ents h s ++ C := by
  induction p with
  | root => simp
  | @down h s l A C q c hp hq hc ih =>
    rw [ih]
    show A ++ (s.2.map (Tr.ents h)).flatten ++ C = _
    rw [flat_split (s.2.map (Tr.ents h)) (i := kidIx ((s.2.map (Tr.ents h)).map fstK) k q) (B := Tr.ents h c) (by rw [List.getElem?_map, hc]; rfl)]
    simp only [List.append_assoc]
theorem Pth.ok {h : Nat} {s : T h} {l : List (Nat × Nat)} {A C : List EntD} (p : Pth t k h s l A C) (ok : Ok H t) : Ok h s := by
  induction p with
  | root => exact ok
  | down q hp hq hc ih => exact ih.2.2 _ (List.mem_of_getElem? hc)
theorem Pth.asc {h : Nat} {s : T h} {l : List (Nat × Nat)} {A C : List EntD} (p : Pth t k h s l A C) (ha : AscK (keysOf (Tr.ents H t))) : AscK (keysOf (Tr.ents h s)) := by
  rw [p.ents, keys_append, keys_append] at ha
  exact (asc_append.1 (asc_append.1 ha).1).2.1
/-- With the way from there on it is the way. -/
theorem Pth.way {h : Nat} {s : T h} {l : List (Nat × Nat)} {A C : List EntD} (p : Pth t k h s l A C) : ∀ {lf : T 0} {A' C' : List EntD}, WayR h s k lf A' C' → WayR H t k lf (A ++ A') (C' ++ C) := by
  induction p with
  | root => intro lf A' C' hw; simpa using hw
  | @down h s l A C q c hp hq hc ih =>
    intro lf A' C' hw
    have := ih (lf := lf) (A' := ((s.2.map (Tr.ents h)).take (kidIx ((s.2.map (Tr.ents h)).map fstK) k q)).flatten ++ A') (C' := C' ++ ((s.2.map (Tr.ents h)).drop (kidIx ((s.2.map (Tr.ents h)).map fstK) k q + 1)).flatten) ⟨q, c, A', C', hq, hc, hw, rfl, rfl⟩
    simpa only [List.append_assoc] using this
theorem Pth.leaf {lf : T 0} {l : List (Nat × Nat)} {A C : List EntD} (p : Pth t k 0 lf l A C) : WayR H t k lf A C := by
  have := p.way (lf := lf) (A' := []) (C' := []) ⟨rfl, rfl, rfl⟩
  simpa using this
/-- The last step. -/
theorem Pth.last {h : Nat} {c : T h} {l : List (Nat × Nat)} {x : Nat × Nat} {A C : List EntD} (p : Pth t k h c (l ++ [x]) A C) :
    ∃ (s : T (h + 1)) (A' C' : List EntD) (q : Nat), Pth t k (h + 1) s l A' C' ∧ PosK ((s.2.map (Tr.ents h)).map fstK) k q ∧ s.2[kidIx ((s.2.map (Tr.ents h)).map fstK) k q]? = some c ∧
      x = ((nd (h + 1) s).g, kidIx ((s.2.map (Tr.ents h)).map fstK) k q) ∧ C = ((s.2.map (Tr.ents h)).drop (kidIx ((s.2.map (Tr.ents h)).map fstK) k q + 1)).flatten ++ C' := by
  generalize hl : l ++ [x] = l0 at p
  cases p with
  | root => simp at hl
  | @down _ s l1 A1 C1 q _ hp hq hc =>
    obtain ⟨e1, e2⟩ := List.append_inj' hl rfl
    subst e1
    exact ⟨s, A1, C1, q, hp, hq, hc, by simpa using e2, rfl⟩
/-- No step: it is the root. -/
theorem Pth.top {P : (h : Nat) → T h → Prop} {h : Nat} {c : T h} {A C : List EntD} (p : Pth t k h c [] A C) (hP : P h c) : P H t ∧ C = [] := by
  generalize hl : ([] : List (Nat × Nat)) = l0 at p
  cases p with
  | root => exact ⟨hP, rfl⟩
  | down q hp hq hc => simp at hl
end
end Go.Proofs.Ytahfjkibononfaa.Tr

