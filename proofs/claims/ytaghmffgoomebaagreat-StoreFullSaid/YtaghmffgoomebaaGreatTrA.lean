/- Trees as data: nodes that were made, as trees; facts on trees from others; Set as a change of the tree. -/
import Derived.Test.YtaghmffgoomebaaGreatGxP
namespace Go.Proofs.YtaghmffgoomebaaGreat.Tr
open Go.RowKit Mem Nd Gx
set_option linter.unusedVariables false
set_option linter.unusedSimpArgs false
theorem cut_map {α β : Type} (f : α → β) (L : List α) : cutN (L.map f) = (cutN L).map (List.map f) := by
  unfold cutN
  rw [List.length_map]
  split
  · rfl
  · split
    · rfl
    · rw [← List.map_take, ← List.map_drop]; rfl
theorem all2_zip {α β : Type} {P : β → NodeD → Prop} (g : List α → β) : ∀ {Ls : List (List α)} {ds : List NodeD}, All2 P (Ls.map g) ds → ∃ ts : List (NodeD × List α), ts.map (fun s => s.1) = ds ∧ ts.map (fun s => s.2) = Ls ∧ ∀ s ∈ ts, P (g s.2) s.1
  | [], ds, H => by
    cases H
    exact ⟨[], rfl, rfl, fun s h => by cases h⟩
  | x :: r, ds, H => by
    cases H with
    | cons h t =>
      obtain ⟨ts, e1, e2, e3⟩ := all2_zip g t
      rename_i b m
      refine ⟨(b, x) :: ts, by rw [List.map_cons, e1], by rw [List.map_cons, e2], fun s hs => ?_⟩
      rcases List.mem_cons.1 hs with rfl | hs
      · exact h
      · exact e3 s hs
theorem all2_inner {h : Nat} {L : List (T h)} {ds : List NodeD} (H : All2 IsInner (cutN (L.map (nd h))) ds) : ∃ ts : List (T (h + 1)), ts.map (nd (h + 1)) = ds ∧ ts.map (fun s => s.2) = cutN L ∧ ∀ s ∈ ts, IsInner (s.2.map (nd h)) s.1 := by
  rw [cut_map] at H
  exact all2_zip (List.map (nd h)) H
theorem all2_leaf {L : List EntD} {ds : List NodeD} (H : All2 IsLeaf (cutN L) ds) : ∃ ts : List (T 0), ts.map (nd 0) = ds ∧ ts.map (fun s => s.2) = cutN L ∧ ∀ s ∈ ts, IsLeaf s.2 s.1 := by
  have H' : All2 IsLeaf ((cutN L).map id) ds := by rw [List.map_id]; exact H
  exact all2_zip id H'
/-! facts -/
theorem der_nd {h : Nat} (t : T h) : Der [treeF h t] (nodeF (nd h t)) := ⟨fun w hw => tree_ndp (hw _ (.head _)), fun b hb => ⟨_, .head _, tree_ndS hb⟩⟩
theorem der_kids {h : Nat} (t : T (h + 1)) : Der [treeF (h + 1) t] (allF t.2 (treeF h)) :=
  ⟨fun w hw => hw _ (.head _) (allF t.2 (treeF h)) (.tail _ (.head _)), fun b hb => ⟨_, .head _, allF t.2 (treeF h), .tail _ (.head _), hb⟩⟩
theorem der_kid {h : Nat} {t : T (h + 1)} {c : T h} (hc : c ∈ t.2) : Der [treeF (h + 1) t] (treeF h c) := (der_kids t).elem hc
theorem der_mk {h : Nat} {d : NodeD} {ks : List (T h)} {l : List Fact} (h1 : Der l (nodeF d)) (h2 : Der l (allF ks (treeF h))) : Der l (treeF (h + 1) ((d, ks) : NodeD × List (T h))) := by
  refine Der.all fun φ hφ => ?_
  rcases List.mem_cons.1 hφ with e | hφ
  · rw [e]; exact h1
  · obtain rfl := List.mem_singleton.1 hφ
    exact h2
theorem der_pth {H : Nat} {t : T H} {k : KeyD} {h : Nat} {s : T h} {l : List (Nat × Nat)} {A C : List EntD} (p : Pth t k h s l A C) : Der [treeF H t] (treeF h s) := by
  induction p with
  | root => exact Der.mem (.head _)
  | down q hp hq hc ih =>
    refine (der_kid (List.mem_of_getElem? hc)).trans fun ψ hψ => ?_
    obtain rfl := List.mem_singleton.1 hψ
    exact ih
theorem der_trees {h : Nat} {ts : List (T (h + 1))} {L : List (T h)} (e : ts.map (fun s => s.2) = cutN L) : Der [allF (ts.map (nd (h + 1))) nodeF, allF L (treeF h)] (allF ts (treeF (h + 1))) := by
  refine Der.all fun s hs => ?_
  obtain ⟨d, ks⟩ := s
  refine der_mk ?_ (Der.all fun k hk => ?_)
  · exact Der.elem (L := ts.map (nd (h + 1))) (F := nodeF) (Der.mem (.head _)) (List.mem_map.2 ⟨(d, ks), hs, rfl⟩)
  · exact Der.elem (L := L) (F := treeF h) (Der.mem (.tail _ (.head _))) ((mem_snd e hs).2 k hk)
theorem der_leaves {ts : List (T 0)} : Der [allF (ts.map (nd 0)) nodeF] (allF ts (treeF 0)) := by
  refine Der.all fun s hs => ?_
  exact Der.elem (L := ts.map (nd 0)) (F := nodeF) (Der.mem (.head _)) (List.mem_map.2 ⟨s, hs, rfl⟩)
theorem der_nds {h : Nat} (ks : List (T h)) : Der [allF ks (treeF h)] (allF (ks.map (nd h)) nodeF) := by
  refine Der.all fun d hd => ?_
  obtain ⟨k, hk, rfl⟩ := List.mem_map.1 hd
  refine (der_nd k).trans fun ψ hψ => ?_
  obtain rfl := List.mem_singleton.1 hψ
  exact Der.elem (Der.mem (.head _)) hk
theorem der_splice {h : Nat} (s : T (h + 1)) (us : List (T h)) (i j : Nat) : Der [treeF (h + 1) s, allF us (treeF h)] (allF (s.2.take i ++ us ++ s.2.drop j) (treeF h)) := by
  have h1 : Der [treeF (h + 1) s, allF us (treeF h)] (allF s.2 (treeF h)) := (der_kids s).trans fun ψ hψ => by
    obtain rfl := List.mem_singleton.1 hψ
    exact Der.mem (.head _)
  refine Der.all fun x hx => ?_
  rcases List.mem_append.1 hx with hx | hx
  · rcases List.mem_append.1 hx with hx | hx
    · exact h1.elem (List.mem_of_mem_take hx)
    · exact Der.elem (L := us) (Der.mem (.tail _ (.head _))) hx
  · exact h1.elem (List.mem_of_mem_drop hx)
/-! positions -/
theorem pos_unique {L : List KeyD} {t : KeyD} {p q : Nat} (hp : PosK L t p) (hq : PosK L t q) : p = q := by
  rcases Nat.lt_trichotomy p q with h | h | h
  · exact absurd (hq.lo p h) (hp.hi p (Nat.le_refl _) (Nat.lt_of_lt_of_le h hq.le))
  · exact h
  · exact absurd (hp.lo q h) (hq.hi q (Nat.le_refl _) (Nat.lt_of_lt_of_le h hp.le))
/-- A tree with an entry: the node in its place, or a new one above the two. -/
def SetS {H : Nat} (t : T H) (e : EntD) (a : AT) : Prop :=
  ∃ ts, SetR H t e ts ∧ ((∃ s, ts = [s] ∧ a = ⟨H, s⟩) ∨ ∃ x y d, ts = [x, y] ∧ IsInner [nd H x, nd H y] d ∧ a = ⟨H + 1, ((d, [x, y]) : NodeD × List (T H))⟩)
theorem SetS.has {H : Nat} {t : T H} {e : EntD} {a : AT} {L : List EntD} (hs : SetS t e a) (hh : Has H t L) : ∃ p, PosK (keysOf L) e.k p ∧ Has a.h a.t (setAt L e p) := by
  obtain ⟨ts, h1, ⟨s, e1, e2⟩ | ⟨x, y, d, e1, hd, e2⟩⟩ := hs
  · subst e1 e2; exact set_one hh h1
  · subst e1 e2; exact set_two hh h1 hd
/-- A key's place in a leaf on its way is that in the row. -/
theorem way_pos {H : Nat} {t : T H} {k : KeyD} {lf : T 0} {l : List (Nat × Nat)} {A C L : List EntD} {p : Nat} (hP : Pth t k 0 lf l A C) (hh : Has H t L) (hp : PosK (keysOf lf.2) k p) :
    L = A ++ lf.2 ++ C ∧ PosK (keysOf L) k (A.length + p) ∧ ((keysOf L)[A.length + p]? = some k ↔ (keysOf lf.2)[p]? = some k) ∧ ∀ x, lf.2[p]? = some x → L[A.length + p]? = some x := by
  have ha : AscK (keysOf (ents H t)) := by rw [hh.row]; exact hh.asc
  obtain ⟨h1, h2, h3, h4, h5⟩ := wayR_ok H t k lf A C hh.ok ha hP.leaf
  rw [hh.row] at h1
  have h1' : L = A ++ lf.2 ++ C := h1
  have hl : p ≤ (keysOf lf.2).length := hp.le
  have e1 : keysOf L = keysOf A ++ keysOf lf.2 ++ keysOf C := by rw [h1', keys_append, keys_append]
  have e2 : (keysOf A).length = A.length := List.length_map ..
  refine ⟨h1', ?_, ?_, fun x hx => ?_⟩
  · rw [e1, ← e2]; exact pos_mid h2 h3 hp
  · rw [e1, ← e2]; exact found_mid h3 hl
  · have hlt := (List.getElem?_eq_some_iff.1 hx).1
    rw [h1', get_mid hlt]; exact hx
end Go.Proofs.YtaghmffgoomebaaGreat.Tr
