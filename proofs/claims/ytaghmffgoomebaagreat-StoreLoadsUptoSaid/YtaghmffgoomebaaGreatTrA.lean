/- Trees as data: a tree's state between calls, and how Set and Delete change it (plain; no program). Trees as data: how many nodes there are, and a queue of trees (plain; no program). Trees as data: the keys of each node rise; each is of entries that rise (plain; no program). Trees as data: the way down, step by step, from the root (plain; no program). A tree's nodes in memory, as one fact that may be read. Trees as data: nodes that were made, as trees; facts on trees from others; Set as a change of the tree. -/
import Derived.Test.YtaghmffgoomebaaGreatTr4
import Derived.Test.YtaghmffgoomebaaGreatGxL
import Derived.Test.YtaghmffgoomebaaGreatNdO
import Derived.Test.YtaghmffgoomebaaGreatGxP
namespace Go.Proofs.YtaghmffgoomebaaGreat.Tr
open Nd Gx
set_option linter.unusedVariables false
set_option linter.unusedSimpArgs false
/-- A tree that has a row of entries. -/
structure Has (h : Nat) (t : T h) (L : List EntD) : Prop where
  ok : Ok h t
  size : Root h t
  row : ents h t = L
  asc : AscK (keysOf L)
theorem Has.pos {h : Nat} {t : T h} {L : List EntD} (H : Has h t L) : 0 < L.length := by rw [← H.row]; exact (first_key h t H.ok).1
/-- Set: one node is the root now, or two are below a new one. -/
theorem set_one {h : Nat} {t s : T h} {L : List EntD} {e : EntD} (H : Has h t L) (hs : SetR h t e [s]) : ∃ p, PosK (keysOf L) e.k p ∧ Has h s (setAt L e p) := by
  have ha : AscK (keysOf (ents h t)) := by rw [H.row]; exact H.asc
  obtain ⟨⟨p, hp, e1⟩, h2⟩ := setR_ok h t e [s] H.ok ha hs
  rw [H.row] at hp e1
  refine ⟨p, hp, h2 s (.head _), ?_, by simpa using e1, setAt_asc H.asc hp⟩
  rcases (setR_size h t e [s] hs).2 H.size with ⟨_, h3⟩ | ⟨h3, _⟩
  · exact h3 s (.head _)
  · simp at h3
theorem set_two {h : Nat} {t a b : T h} {L : List EntD} {e : EntD} {d : NodeD} (H : Has h t L) (hs : SetR h t e [a, b]) (hd : IsInner [nd h a, nd h b] d) : ∃ p, PosK (keysOf L) e.k p ∧ Has (h + 1) ((d, [a, b]) : NodeD × List (T h)) (setAt L e p) := by
  have ha : AscK (keysOf (ents h t)) := by rw [H.row]; exact H.asc
  obtain ⟨⟨p, hp, e1⟩, h2⟩ := setR_ok h t e [a, b] H.ok ha hs
  rw [H.row] at hp e1
  have hg : ∀ s ∈ [a, b], Good h s := by
    rcases (setR_size h t e [a, b] hs).2 H.size with ⟨h3, _⟩ | ⟨_, h3⟩
    · simp at h3
    · exact h3
  exact ⟨p, hp, ⟨hd, by show 0 < 2; omega, h2⟩, ⟨by show 2 ≤ 2; omega, by show 2 ≤ 6; omega, hg⟩, e1, setAt_asc H.asc hp⟩
end Go.Proofs.YtaghmffgoomebaaGreat.Tr
namespace Go.Proofs.YtaghmffgoomebaaGreat.Tr
open Nd Gx
set_option linter.unusedVariables false
set_option linter.unusedSimpArgs false
def cnt : (h : Nat) → T h → Nat
  | 0, _ => 1
  | h + 1, t => 1 + (t.2.map (cnt h)).sum
theorem cnt_pos : ∀ (h : Nat) (t : T h), 1 ≤ cnt h t
  | 0, _ => Nat.le_refl _
  | h + 1, t => Nat.le_add_right 1 _
/-- A tree of any height. -/
structure AT where
  h : Nat
  t : T h
def AT.nd (a : AT) : NodeD := Tr.nd a.h a.t
def AT.cnt (a : AT) : Nat := Tr.cnt a.h a.t
def AT.ents (a : AT) : List EntD := Tr.ents a.h a.t
def AT.Ok (a : AT) : Prop := Tr.Ok a.h a.t
def AT.kids : AT → List AT
  | ⟨0, _⟩ => []
  | ⟨h + 1, t⟩ => (Tr.kids t).map fun k => ⟨h, k⟩
theorem AT.cnt_eq (a : AT) : a.cnt = 1 + (a.kids.map AT.cnt).sum := by
  obtain ⟨h, t⟩ := a
  cases h with
  | zero => rfl
  | succ h =>
    show 1 + (t.2.map (Tr.cnt h)).sum = 1 + (((t.2.map fun k => (⟨h, k⟩ : AT))).map AT.cnt).sum
    rw [List.map_map]
    rfl
theorem AT.kids_ok {a : AT} (ok : a.Ok) : ∀ k ∈ a.kids, k.Ok := by
  obtain ⟨h, t⟩ := a
  cases h with
  | zero => intro k hk; cases hk
  | succ h =>
    intro k hk
    obtain ⟨c, hc, rfl⟩ := List.mem_map.1 hk
    exact ok.2.2 c hc
/-- A queue: what is behind place i stands for all its trees. -/
def left (Q : List AT) (i : Nat) : Nat := ((Q.drop i).map fun a => a.cnt - 1).sum
theorem left_step {Q : List AT} {i : Nat} {a : AT} (hq : Q[i]? = some a) : (Q ++ a.kids).length + left (Q ++ a.kids) (i + 1) = Q.length + left Q i := by
  have hi := (List.getElem?_eq_some_iff.1 hq).1
  have e1 : Q.drop i = a :: Q.drop (i + 1) := by
    rw [List.getElem?_eq_getElem hi] at hq
    injection hq with hq
    rw [← hq]
    exact List.drop_eq_getElem_cons hi
  have e2 : (Q ++ a.kids).drop (i + 1) = Q.drop (i + 1) ++ a.kids := List.drop_append_of_le_length (by omega)
  have e3 : ∀ l : List AT, (l.map fun a => a.cnt - 1).sum + l.length = (l.map AT.cnt).sum := by
    intro l
    induction l with
    | nil => rfl
    | cons x r ih =>
      have : 1 ≤ x.cnt := cnt_pos x.h x.t
      simp only [List.map_cons, List.sum_cons, List.length_cons]
      omega
  have e4 := e3 a.kids
  have e5 := a.cnt_eq
  unfold left
  rw [e1, e2, List.map_append, List.sum_append, List.map_cons, List.sum_cons, List.length_append]
  omega
theorem AT.kids_h {a : AT} : ∀ k ∈ a.kids, k.h + 1 = a.h := by
  obtain ⟨h', t⟩ := a
  cases h' with
  | zero => intro k hk; cases hk
  | succ h' =>
    intro k hk
    obtain ⟨c, _, rfl⟩ := List.mem_map.1 hk
    rfl
end Go.Proofs.YtaghmffgoomebaaGreat.Tr
namespace Go.Proofs.YtaghmffgoomebaaGreat.Tr
open Nd Gx
set_option linter.unusedVariables false
set_option linter.unusedSimpArgs false
theorem asc_first {Bs : List (List EntD)} (hne : ∀ B ∈ Bs, 0 < B.length) (ha : AscK (keysOf Bs.flatten)) : AscK (Bs.map fstK) := by
  intro i j hij hj
  rw [List.length_map] at hj
  obtain ⟨B, hB⟩ : ∃ B, Bs[i]? = some B := ⟨Bs[i]'(by omega), List.getElem?_eq_getElem (by omega)⟩
  obtain ⟨C, hC⟩ : ∃ C, Bs[j]? = some C := ⟨Bs[j], List.getElem?_eq_getElem hj⟩
  rw [getD_at (show (Bs.map fstK)[i]? = some (fstK B) by rw [List.getElem?_map, hB]; rfl), getD_at (show (Bs.map fstK)[j]? = some (fstK C) by rw [List.getElem?_map, hC]; rfl)]
  obtain ⟨x, r, e1, e2⟩ := fstK_at (hne B (List.mem_of_getElem? hB))
  obtain ⟨y, s, e3, e4⟩ := fstK_at (hne C (List.mem_of_getElem? hC))
  rw [e2, e4]
  exact parts_lt ha hij hB hC x (by rw [e1]; exact .head _) y (by rw [e3]; exact .head _)
theorem asc_node : ∀ (h : Nat) (t : T h), Ok h t → AscK (keysOf (ents h t)) → AscK (nd h t).Ks
  | 0, t, ok, ha => by
    show AscK t.1.Ks
    rw [ok.1.Ks]
    exact ha
  | h + 1, (d, ks), ok, ha => by
    rw [keys_inner ok]
    refine asc_first (fun B hB => ?_) ha
    obtain ⟨x, hx, rfl⟩ := List.mem_map.1 hB
    exact (first_key h x (ok.2.2 x hx)).1
/-- A tree whose entries rise; so do those of its children. -/
def AT.Fine (a : AT) : Prop := a.Ok ∧ AscK (keysOf a.ents)
theorem AT.Fine.keys {a : AT} (f : a.Fine) : AscK a.nd.Ks := asc_node a.h a.t f.1 f.2
theorem AT.Fine.kids {a : AT} (f : a.Fine) : ∀ k ∈ a.kids, k.Fine := by
  intro k hk
  refine ⟨AT.kids_ok f.1 k hk, ?_⟩
  obtain ⟨h, t⟩ := a
  cases h with
  | zero => cases hk
  | succ h =>
    obtain ⟨c, hc, rfl⟩ := List.mem_map.1 hk
    obtain ⟨i, hi⟩ := List.getElem?_of_mem hc
    have hB : (((Tr.kids t)).map (Tr.ents h))[i]? = some (Tr.ents h c) := by rw [List.getElem?_map, hi]; rfl
    exact part_asc (Bs := (Tr.kids t).map (Tr.ents h)) f.2 hB
def AT.Good (a : AT) : Prop := Tr.Good a.h a.t
def AT.Root (a : AT) : Prop := Tr.Root a.h a.t
theorem AT.Root.kids {a : AT} (r : a.Root) : ∀ k ∈ a.kids, k.Good := by
  obtain ⟨h, t⟩ := a
  cases h with
  | zero => intro k hk; cases hk
  | succ h =>
    intro k hk
    obtain ⟨c, hc, rfl⟩ := List.mem_map.1 hk
    exact r.2.2 c hc
theorem AT.Good.kids {a : AT} (g : a.Good) : ∀ k ∈ a.kids, k.Good := AT.Root.kids (a := a) (Near.root (Good.near g))
theorem AT.Good.len {a : AT} (g : a.Good) (ok : a.Ok) : 3 ≤ a.nd.Ks.length ∧ a.nd.Ks.length ≤ 6 := by
  have := Good.ln g
  rw [ln_eq ok] at this
  exact this
theorem AT.Root.len {a : AT} (r : a.Root) (ok : a.Ok) : (if a.h = 0 then 1 else 2) ≤ a.nd.Ks.length ∧ a.nd.Ks.length ≤ 6 := by
  obtain ⟨h, t⟩ := a
  cases h with
  | zero =>
    have e : t.1.Ks.length = t.2.length := by rw [ok.1.Ks, List.length_map]
    show 1 ≤ t.1.Ks.length ∧ t.1.Ks.length ≤ 6
    rw [e]
    exact r
  | succ h =>
    have e : (Tr.nd (h + 1) t).Ks.length = t.2.length := len_inner ok
    show 2 ≤ (Tr.nd (h + 1) t).Ks.length ∧ (Tr.nd (h + 1) t).Ks.length ≤ 6
    rw [e]
    exact ⟨r.1, r.2.1⟩
end Go.Proofs.YtaghmffgoomebaaGreat.Tr
namespace Go.Proofs.YtaghmffgoomebaaGreat.Tr
open Nd Gx
set_option linter.unusedVariables false
set_option linter.unusedSimpArgs false
/-- The steps from the root down to a node on a key's way; what is ahead of it, and behind it. -/
inductive Pth {H : Nat} (t : T H) (k : KeyD) : (h : Nat) → T h → List (Nat × Nat) → List EntD → List EntD → Prop
  | root : Pth t k H t [] [] []
  | down {h : Nat} {s : T (h + 1)} {l : List (Nat × Nat)} {A C : List EntD} (q : Nat) {c : T h} (hp : Pth t k (h + 1) s l A C) (hq : PosK ((s.2.map (ents h)).map fstK) k q)
      (hc : s.2[kidIx ((s.2.map (ents h)).map fstK) k q]? = some c) :
      Pth t k h c (l ++ [((nd (h + 1) s).g, kidIx ((s.2.map (ents h)).map fstK) k q)]) (A ++ ((s.2.map (ents h)).take (kidIx ((s.2.map (ents h)).map fstK) k q)).flatten)
        (((s.2.map (ents h)).drop (kidIx ((s.2.map (ents h)).map fstK) k q + 1)).flatten ++ C)
section
variable {H : Nat} {t : T H} {k : KeyD}
theorem Pth.len {h : Nat} {s : T h} {l : List (Nat × Nat)} {A C : List EntD} (p : Pth t k h s l A C) : l.length + h = H := by
  induction p with
  | root => simp
  | down q hp hq hc ih => rw [List.length_append]; simp only [List.length_cons, List.length_nil]; omega
theorem Pth.ents {h : Nat} {s : T h} {l : List (Nat × Nat)} {A C : List EntD} (p : Pth t k h s l A C) : ents H t = A ++ Tr.ents h s ++ C := by
  induction p with
  | root => simp
  | @down h s l A C q c hp hq hc ih =>
    rw [ih]
    show A ++ (s.2.map (Tr.ents h)).flatten ++ C = _
    rw [flat_split (s.2.map (Tr.ents h)) (i := kidIx ((s.2.map (Tr.ents h)).map fstK) k q) (B := Tr.ents h c) (by rw [List.getElem?_map, hc]; rfl)]
    simp only [List.append_assoc]
theorem Pth.ok {h : Nat} {s : T h} {l : List (Nat × Nat)} {A C : List EntD} (p : Pth t k h s l A C) (ok : Ok H t) : Ok h s := by
  induction p with
  | root => exact ok
  | down q hp hq hc ih => exact ih.2.2 _ (List.mem_of_getElem? hc)
theorem Pth.asc {h : Nat} {s : T h} {l : List (Nat × Nat)} {A C : List EntD} (p : Pth t k h s l A C) (ha : AscK (keysOf (Tr.ents H t))) : AscK (keysOf (Tr.ents h s)) := by
  rw [p.ents, keys_append, keys_append] at ha
  exact (asc_append.1 (asc_append.1 ha).1).2.1
/-- With the way from there on it is the way. -/
theorem Pth.way {h : Nat} {s : T h} {l : List (Nat × Nat)} {A C : List EntD} (p : Pth t k h s l A C) : ∀ {lf : T 0} {A' C' : List EntD}, WayR h s k lf A' C' → WayR H t k lf (A ++ A') (C' ++ C) := by
  induction p with
  | root => intro lf A' C' hw; simpa using hw
  | @down h s l A C q c hp hq hc ih =>
    intro lf A' C' hw
    have := ih (lf := lf) (A' := ((s.2.map (Tr.ents h)).take (kidIx ((s.2.map (Tr.ents h)).map fstK) k q)).flatten ++ A') (C' := C' ++ ((s.2.map (Tr.ents h)).drop (kidIx ((s.2.map (Tr.ents h)).map fstK) k q + 1)).flatten) ⟨q, c, A', C', hq, hc, hw, rfl, rfl⟩
    simpa only [List.append_assoc] using this
theorem Pth.leaf {lf : T 0} {l : List (Nat × Nat)} {A C : List EntD} (p : Pth t k 0 lf l A C) : WayR H t k lf A C := by
  have := p.way (lf := lf) (A' := []) (C' := []) ⟨rfl, rfl, rfl⟩
  simpa using this
/-- The last step. -/
theorem Pth.last {h : Nat} {c : T h} {l : List (Nat × Nat)} {x : Nat × Nat} {A C : List EntD} (p : Pth t k h c (l ++ [x]) A C) :
    ∃ (s : T (h + 1)) (A' C' : List EntD) (q : Nat), Pth t k (h + 1) s l A' C' ∧ PosK ((s.2.map (Tr.ents h)).map fstK) k q ∧ s.2[kidIx ((s.2.map (Tr.ents h)).map fstK) k q]? = some c ∧
      x = ((nd (h + 1) s).g, kidIx ((s.2.map (Tr.ents h)).map fstK) k q) ∧ C = ((s.2.map (Tr.ents h)).drop (kidIx ((s.2.map (Tr.ents h)).map fstK) k q + 1)).flatten ++ C' := by
  generalize hl : l ++ [x] = l0 at p
  cases p with
  | root => simp at hl
  | @down _ s l1 A1 C1 q _ hp hq hc =>
    obtain ⟨e1, e2⟩ := List.append_inj' hl rfl
    subst e1
    exact ⟨s, A1, C1, q, hp, hq, hc, by simpa using e2, rfl⟩
end
end Go.Proofs.YtaghmffgoomebaaGreat.Tr
namespace Go.Proofs.YtaghmffgoomebaaGreat.Tr
open Go.RowKit Mem Nd Gx
set_option linter.unusedVariables false
set_option linter.unusedSimpArgs false
def treeF : (h : Nat) → T h → Fact
  | 0, t => nodeF t.1
  | h + 1, t => allF [nodeF t.1, allF t.2 (treeF h)] id
section
variable {w w' : World} {RA : List Fact} {h : Nat}
theorem tree_ndS {t : T h} {b : Nat} (hb : (nodeF (nd h t)).S b) : (treeF h t).S b := by
  cases h with
  | zero => exact hb
  | succ h => exact ⟨nodeF t.1, .head _, hb⟩
theorem tree_ndp {t : T h} (hp : (treeF h t).p w) : (nodeF (nd h t)).p w := by
  cases h with
  | zero => exact hp
  | succ h => exact hp (nodeF t.1) (.head _)
end
section
variable {X : Cx} {f : Fr} {O R : List Fact} {ks : List KI} {k : List KI} {ops lo : List Oper} {h : Nat}
theorem gk_tnd {t : T h} (hm : treeF h t ∈ R) (hg : GK X ks f O (nodeF (nd h t) :: R)) : GK X ks f O R := gk_lessR _ (treeF h t) hm (fun w hp => tree_ndp hp) (fun b hb => tree_ndS hb) hg
theorem gk_tkid {t : T (h + 1)} {c : T h} (hm : treeF (h + 1) t ∈ R) (hc : c ∈ t.2) (hg : GK X ks f O (treeF h c :: R)) : GK X ks f O R := gk_lessR _ (treeF (h + 1) t) hm (fun w hp => hp (allF t.2 (treeF h)) (.tail _ (.head _)) c hc) (fun b hb => ⟨allF t.2 (treeF h), .tail _ (.head _), c, hc, hb⟩) hg
end
end Go.Proofs.YtaghmffgoomebaaGreat.Tr
namespace Go.Proofs.YtaghmffgoomebaaGreat.Tr
open Go.RowKit Mem Nd Gx
set_option linter.unusedVariables false
set_option linter.unusedSimpArgs false
/-! facts -/
theorem der_nd {h : Nat} (t : T h) : Der [treeF h t] (nodeF (nd h t)) := ⟨fun w hw => tree_ndp (hw _ (.head _)), fun b hb => ⟨_, .head _, tree_ndS hb⟩⟩
theorem der_kids {h : Nat} (t : T (h + 1)) : Der [treeF (h + 1) t] (allF t.2 (treeF h)) :=
  ⟨fun w hw => hw _ (.head _) (allF t.2 (treeF h)) (.tail _ (.head _)), fun b hb => ⟨_, .head _, allF t.2 (treeF h), .tail _ (.head _), hb⟩⟩
theorem der_kid {h : Nat} {t : T (h + 1)} {c : T h} (hc : c ∈ t.2) : Der [treeF (h + 1) t] (treeF h c) := (der_kids t).elem hc
theorem der_mk {h : Nat} {d : NodeD} {ks : List (T h)} {l : List Fact} (h1 : Der l (nodeF d)) (h2 : Der l (allF ks (treeF h))) : Der l (treeF (h + 1) ((d, ks) : NodeD × List (T h))) := by
  refine Der.all fun φ hφ => ?_
  rcases List.mem_cons.1 hφ with e | hφ
  · rw [e]; exact h1
  · obtain rfl := List.mem_singleton.1 hφ
    exact h2
theorem der_nds {h : Nat} (ks : List (T h)) : Der [allF ks (treeF h)] (allF (ks.map (nd h)) nodeF) := by
  refine Der.all fun d hd => ?_
  obtain ⟨k, hk, rfl⟩ := List.mem_map.1 hd
  refine (der_nd k).trans fun ψ hψ => ?_
  obtain rfl := List.mem_singleton.1 hψ
  exact Der.elem (Der.mem (.head _)) hk
/-! positions -/
theorem pos_unique {L : List KeyD} {t : KeyD} {p q : Nat} (hp : PosK L t p) (hq : PosK L t q) : p = q := by
  rcases Nat.lt_trichotomy p q with h | h | h
  · exact absurd (hq.lo p h) (hp.hi p (Nat.le_refl _) (Nat.lt_of_lt_of_le h hq.le))
  · exact h
  · exact absurd (hp.lo q h) (hq.hi q (Nat.le_refl _) (Nat.lt_of_lt_of_le h hp.le))
/-- A tree with an entry: the node in its place, or a new one above the two. -/
def SetS {H : Nat} (t : T H) (e : EntD) (a : AT) : Prop :=
  ∃ ts, SetR H t e ts ∧ ((∃ s, ts = [s] ∧ a = ⟨H, s⟩) ∨ ∃ x y d, ts = [x, y] ∧ IsInner [nd H x, nd H y] d ∧ a = ⟨H + 1, ((d, [x, y]) : NodeD × List (T H))⟩)
theorem SetS.has {H : Nat} {t : T H} {e : EntD} {a : AT} {L : List EntD} (hs : SetS t e a) (hh : Has H t L) : ∃ p, PosK (keysOf L) e.k p ∧ Has a.h a.t (setAt L e p) := by
  obtain ⟨ts, h1, ⟨s, e1, e2⟩ | ⟨x, y, d, e1, hd, e2⟩⟩ := hs
  · subst e1 e2; exact set_one hh h1
  · subst e1 e2; exact set_two hh h1 hd
end Go.Proofs.YtaghmffgoomebaaGreat.Tr
