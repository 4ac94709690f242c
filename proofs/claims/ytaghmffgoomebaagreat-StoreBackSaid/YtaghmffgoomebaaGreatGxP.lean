/- Trees as data: a tree's state between calls, and how Set and Delete change it (plain; no program). Trees as data: how many nodes there are, and a queue of trees (plain; no program). Trees as data: the keys of each node rise; each is of entries that rise (plain; no program). Trees as data: the way down, step by step, from the root (plain; no program). A tree's nodes in memory, as one fact that may be read. The walk by reckoned steps: calls that write one block of the caller's and hand back what may be read; facts made of others. The walk by reckoned steps: calls that make one's own slice another list, and hand back what may be read. -/
import Derived.Test.YtaghmffgoomebaaGreatTr4
import Derived.Test.YtaghmffgoomebaaGreatGxL
import Derived.Test.YtaghmffgoomebaaGreatNdO
set_option linter.unusedVariables false
set_option linter.unusedSimpArgs false
namespace Go.Proofs.YtaghmffgoomebaaGreat.Tr
open Nd Gx
structure Has (h : Nat) (t : T h) (L : List EntD) : Prop where
 ok : Ok h t
 size : Root h t
 row : ents h t = L
 asc : AscK (keysOf L)
theorem Has.pos {h : Nat} {t : T h} {L : List EntD} (H : Has h t L) : 0 < L.length := by rw [← H.row]; exact (zaM h t H.ok).1
theorem Has.high {h : Nat} {t : T h} {L : List EntD} (H : Has h t L) : h = 0 ∨ 2 * 3 ^ h ≤ L.length := by
 cases h with
 | zero => exact .inl rfl
 | succ h =>
   right
   obtain ⟨d, ks⟩ := t
   obtain ⟨h1, _, h3⟩ := H.size
   have h1' : 2 ≤ ks.length := h1
   have h3' : ∀ k ∈ ks, Good h k := h3
   rw [← H.row]
   show 2 * 3 ^ (h + 1) ≤ ((ks.map (ents h)).flatten).length
   match ks, h1', h3' with
   | a :: b :: r, _, h3' =>
     have h4 := zeU h a (h3' a (.head _))
     have h5 := zeU h b (h3' b (.tail _ (.head _)))
     simp only [List.map_cons, List.flatten_cons, List.length_append]
     omega
theorem Has.low {h : Nat} {t : T h} {L : List EntD} (H : Has h t L) (h9 : L.length ≤ 160) : h ≤ 3 := by
 rcases H.high with h0 | h1
 ·omega
 ·rcases Nat.lt_or_ge h 4 with h2 | h2
  ·omega
  ·have : 3 ^ 4 ≤ 3 ^ h := Nat.pow_le_pow_right (by omega) h2
   omega
theorem zkI {h : Nat} {t s : T h} {L : List EntD} {e : EntD} (H : Has h t L) (hs : SetR h t e [s]) : ∃ p, PosK (keysOf L) e.k p ∧ Has h s (setAt L e p) := by
 have ha : AscK (keysOf (ents h t)) := by rw [H.row]; exact H.asc
 obtain ⟨⟨p, hp, e1⟩, h2⟩ := zeA h t e [s] H.ok ha hs
 rw [H.row] at hp e1
 refine ⟨p, hp, h2 s (.head _), ?_, by simpa using e1, zgV H.asc hp⟩
 rcases (zcJ h t e [s] hs).2 H.size with ⟨_, h3⟩ | ⟨h3, _⟩
 ·exact h3 s (.head _)
 ·simp at h3
theorem zkH {h : Nat} {t a b : T h} {L : List EntD} {e : EntD} {d : NodeD} (H : Has h t L) (hs : SetR h t e [a, b]) (hd : IsInner [nd h a, nd h b] d) : ∃ p, PosK (keysOf L) e.k p ∧ Has (h + 1) ((d, [a, b]) : NodeD × List (T h)) (setAt L e p) := by
 have ha : AscK (keysOf (ents h t)) := by rw [H.row]; exact H.asc
 obtain ⟨⟨p, hp, e1⟩, h2⟩ := zeA h t e [a, b] H.ok ha hs
 rw [H.row] at hp e1
 have hg : ∀ s ∈ [a, b], Good h s := by
  rcases (zcJ h t e [a, b] hs).2 H.size with ⟨h3, _⟩ | ⟨_, h3⟩
  ·simp at h3
  ·exact h3
 exact ⟨p, hp, ⟨hd.w, by show 0 < 2; omega, h2⟩, ⟨by show 2 ≤ 2; omega, by show 2 ≤ 6; omega, hg⟩, e1, zgV H.asc hp⟩
theorem zpc {h : Nat} {t : T h} {L : List EntD} {e : EntD} {ts : List (T h)} (H : Has h t L) (hs : SetR h t e ts) : (∃ s, ts = [s]) ∨ ∃ a b, ts = [a, b] := by
 rcases (zcJ h t e ts hs).2 H.size with ⟨h3, _⟩ | ⟨h3, _⟩
 ·match ts, h3 with
  | [s], _ => exact .inl ⟨s, rfl⟩
 ·match ts, h3 with
  | [a, b], _ => exact .inr ⟨a, b, rfl⟩
theorem znP {e : EntD} {d : NodeD} (hd : IsLeaf [e] d) : Has 0 ((d, [e]) : NodeD × List EntD) [e] :=
 ⟨⟨hd.w, by show 0 < 1; omega⟩, ⟨by show 1 ≤ 1; omega, by show 1 ≤ 6; omega⟩, rfl, fun i j h1 h2 => by
   have h2' : j < 1 := h2
   omega⟩
theorem zoa {h : Nat} {t : T h} {L : List EntD} {k : KeyD} (H : Has h t L) (hs : DelR h t k []) : ∃ p, PosK (keysOf L) k p ∧ (keysOf L)[p]? = some k ∧ delAt L k p = [] := by
 have ha : AscK (keysOf (ents h t)) := by rw [H.row]; exact H.asc
 obtain ⟨⟨p, hp, hf, e1⟩, _⟩ := zgy h t k [] H.ok ha hs
 rw [H.row] at hp hf e1
 exact ⟨p, hp, hf, by rw [← e1]; rfl⟩
theorem zpZ {h : Nat} {t s : T h} {L : List EntD} {k : KeyD} (H : Has h t L) (hs : DelR h t k [s]) : ∃ p, PosK (keysOf L) k p ∧ (keysOf L)[p]? = some k ∧ Ok h s ∧ Low h s ∧ ents h s = delAt L k p ∧ AscK (keysOf (delAt L k p)) := by
 have ha : AscK (keysOf (ents h t)) := by rw [H.row]; exact H.asc
 obtain ⟨⟨p, hp, hf, e1⟩, h2⟩ := zgy h t k [s] H.ok ha hs
 rw [H.row] at hp hf e1
 refine ⟨p, hp, hf, h2 s (.head _), ?_, by simpa using e1, zhz H.asc⟩
 rcases (zdP h t k [s] hs).2 H.size with ⟨h3, _⟩ | ⟨s', h3, h4⟩
 ·cases h3
 ·injection h3 with h3
  rw [h3]; exact h4
theorem zi4 {h : Nat} {s : T h} {L : List EntD} (ok : Ok h s) (lw : Low h s) (hr : ents h s = L) (ha : AscK (keysOf L)) (h1 : h = 0 ∨ 2 ≤ ln h s) : Has h s L := by
 refine ⟨ok, ?_, hr, ha⟩
 cases h with
 | zero => exact lw
 | succ h =>
   rcases h1 with h1 | h1
   ·cases h1
   ·exact ⟨h1, lw.2.1, lw.2.2⟩
theorem zp1 {h : Nat} {t : T h} {L : List EntD} {k : KeyD} {ts : List (T h)} (H : Has h t L) (hs : DelR h t k ts) : ts = [] ∨ ∃ s, ts = [s] := by
 rcases (zdP h t k ts hs).2 H.size with ⟨h3, _⟩ | ⟨s, h3, _⟩
 ·exact .inl h3
 ·exact .inr ⟨s, h3⟩
end Go.Proofs.YtaghmffgoomebaaGreat.Tr
namespace Go.Proofs.YtaghmffgoomebaaGreat.Tr
open Nd Gx
def cnt : (h : Nat) → T h → Nat
 | 0, _ => 1
 | h + 1, t => 1 + (t.2.map (cnt h)).sum
theorem zmx : ∀ (h : Nat) (t : T h), 1 ≤ cnt h t
 | 0, _ => Nat.le_refl _
 | h + 1, t => Nat.le_add_right 1 _
theorem zgz {h : Nat} : ∀ (l : List (T h)), (∀ k ∈ l, 2 * cnt h k + 1 ≤ (ents h k).length) → 2 * (l.map (cnt h)).sum + l.length ≤ ((l.map (ents h)).flatten).length
 | [], _ => by simp
 | x :: r, hg => by
   have h1 := hg x (.head _)
   have h2 := zgz r fun k hk => hg k (.tail _ hk)
   simp only [List.map_cons, List.sum_cons, List.flatten_cons, List.length_append, List.length_cons]
   omega
theorem zjC : ∀ (h : Nat) (t : T h), Good h t → 2 * cnt h t + 1 ≤ (ents h t).length
 | 0, t, ⟨h1, _⟩ => by
   have h1' : 3 ≤ t.2.length := h1
   show 2 * 1 + 1 ≤ t.2.length
   omega
 | h + 1, (d, ks), ⟨h1, _, h3⟩ => by
   have h1' : 3 ≤ ks.length := h1
   have := zgz ks fun k hk => zjC h k (h3 k hk)
   show 2 * (1 + (ks.map (cnt h)).sum) + 1 ≤ ((ks.map (ents h)).flatten).length
   omega
theorem zmy {h : Nat} {t : T h} {L : List EntD} (H : Has h t L) : cnt h t ≤ L.length / 2 + 1 := by
 cases h with
 | zero => show 1 ≤ _; omega
 | succ h =>
   obtain ⟨d, ks⟩ := t
   obtain ⟨h1, _, h3⟩ := H.size
   have h1' : 2 ≤ ks.length := h1
   have := zgz ks fun k hk => zjC h k (h3 k hk)
   have hr : ((ks.map (ents h)).flatten).length = L.length := by rw [← H.row]; rfl
   show 1 + (ks.map (cnt h)).sum ≤ L.length / 2 + 1
   omega
structure AT where
 h : Nat
 t : T h
def AT.nd (a : AT) : NodeD := Tr.nd a.h a.t
def AT.cnt (a : AT) : Nat := Tr.cnt a.h a.t
def AT.ents (a : AT) : List EntD := Tr.ents a.h a.t
def AT.Ok (a : AT) : Prop := Tr.Ok a.h a.t
def AT.kids : AT → List AT
 | ⟨0, _⟩ => []
 | ⟨h + 1, t⟩ => (Tr.kids t).map fun k => ⟨h, k⟩
theorem AT.zoZ (a : AT) : a.cnt = 1 + (a.kids.map AT.cnt).sum := by
 obtain ⟨h, t⟩ := a
 cases h with
 | zero => rfl
 | succ h =>
   show 1 + (t.2.map (Tr.cnt h)).sum = 1 + (((t.2.map fun k => (⟨h, k⟩ : AT))).map AT.cnt).sum
   rw [List.map_map]
   rfl
theorem AT.zlz {a : AT} (ok : a.Ok) : ∀ k ∈ a.kids, k.Ok := by
 obtain ⟨h, t⟩ := a
 cases h with
 | zero => intro k hk; cases hk
 | succ h =>
   intro k hk
   obtain ⟨c, hc, rfl⟩ := List.mem_map.1 hk
   exact ok.2.2 c hc
theorem AT.Cs_eq {a : AT} (ok : a.Ok) : a.nd.Cs = a.kids.map fun k => k.nd.g := by
 obtain ⟨h, t⟩ := a
 cases h with
 | zero => exact ok.1.Cs
 | succ h =>
   show t.1.Cs = ((t.2.map fun k => (⟨h, k⟩ : AT))).map fun k => k.nd.g
   rw [ok.1.Cs, List.map_map, List.map_map]
   rfl
theorem AT.zpx {a : AT} (ok : a.Ok) : a.nd.leaf = decide (a.h = 0) := by
 obtain ⟨h, t⟩ := a
 cases h with
 | zero => exact ok.1.leaf
 | succ h => exact ok.1.leaf
def left (Q : List AT) (i : Nat) : Nat := ((Q.drop i).map fun a => a.cnt - 1).sum
theorem left_step {Q : List AT} {i : Nat} {a : AT} (hq : Q[i]? = some a) : (Q ++ a.kids).length + left (Q ++ a.kids) (i + 1) = Q.length + left Q i := by
 have hi := (List.getElem?_eq_some_iff.1 hq).1
 have e1 : Q.drop i = a :: Q.drop (i + 1) := by
  rw [List.getElem?_eq_getElem hi] at hq
  injection hq with hq
  rw [← hq]
  exact List.drop_eq_getElem_cons hi
 have e2 : (Q ++ a.kids).drop (i + 1) = Q.drop (i + 1) ++ a.kids := List.drop_append_of_le_length (by omega)
 have e3 : ∀ l : List AT, (l.map fun a => a.cnt - 1).sum + l.length = (l.map AT.cnt).sum := by
  intro l
  induction l with
  | nil => rfl
  | cons x r ih =>
    have : 1 ≤ x.cnt := zmx x.h x.t
    simp only [List.map_cons, List.sum_cons, List.length_cons]
    omega
 have e4 := e3 a.kids
 have e5 := a.zoZ
 unfold left
 rw [e1, e2, List.map_append, List.sum_append, List.map_cons, List.sum_cons, List.length_append]
 omega
theorem AT.zhj {a : AT} : ∀ k ∈ a.kids, k.h + 1 = a.h := by
 obtain ⟨h', t⟩ := a
 cases h' with
 | zero => intro k hk; cases hk
 | succ h' =>
   intro k hk
   obtain ⟨c, _, rfl⟩ := List.mem_map.1 hk
   rfl
end Go.Proofs.YtaghmffgoomebaaGreat.Tr
namespace Go.Proofs.YtaghmffgoomebaaGreat.Tr
open Nd Gx
theorem zmL {Bs : List (List EntD)} (hne : ∀ B ∈ Bs, 0 < B.length) (ha : AscK (keysOf Bs.flatten)) : AscK (Bs.map fstK) := by
 intro i j hij hj
 rw [List.length_map] at hj
 obtain ⟨B, hB⟩ : ∃ B, Bs[i]? = some B := ⟨Bs[i]'(by omega), List.getElem?_eq_getElem (by omega)⟩
 obtain ⟨C, hC⟩ : ∃ C, Bs[j]? = some C := ⟨Bs[j], List.getElem?_eq_getElem hj⟩
 rw [getD_at (show (Bs.map fstK)[i]? = some (fstK B) by rw [List.getElem?_map, hB]; rfl), getD_at (show (Bs.map fstK)[j]? = some (fstK C) by rw [List.getElem?_map, hC]; rfl)]
 obtain ⟨x, r, e1, e2⟩ := zbm (hne B (List.mem_of_getElem? hB))
 obtain ⟨y, s, e3, e4⟩ := zbm (hne C (List.mem_of_getElem? hC))
 rw [e2, e4]
 exact zdw ha hij hB hC x (by rw [e1]; exact .head _) y (by rw [e3]; exact .head _)
theorem zdR : ∀ (h : Nat) (t : T h), Ok h t → AscK (keysOf (ents h t)) → AscK (nd h t).Ks
 | 0, t, ok, ha => by
   show AscK t.1.Ks
   rw [ok.1.Ks]
   exact ha
 | h + 1, (d, ks), ok, ha => by
   rw [keys_inner ok]
   refine zmL (fun B hB => ?_) ha
   obtain ⟨x, hx, rfl⟩ := List.mem_map.1 hB
   exact (zaM h x (ok.2.2 x hx)).1
def AT.Fine (a : AT) : Prop := a.Ok ∧ AscK (keysOf a.ents)
theorem AT.Fine.keys {a : AT} (f : a.Fine) : AscK a.nd.Ks := zdR a.h a.t f.1 f.2
theorem AT.Fine.kids {a : AT} (f : a.Fine) : ∀ k ∈ a.kids, k.Fine := by
 intro k hk
 refine ⟨AT.zlz f.1 k hk, ?_⟩
 obtain ⟨h, t⟩ := a
 cases h with
 | zero => cases hk
 | succ h =>
   obtain ⟨c, hc, rfl⟩ := List.mem_map.1 hk
   obtain ⟨i, hi⟩ := List.getElem?_of_mem hc
   have hB : (((Tr.kids t)).map (Tr.ents h))[i]? = some (Tr.ents h c) := by rw [List.getElem?_map, hi]; rfl
   exact zcY (Bs := (Tr.kids t).map (Tr.ents h)) f.2 hB
def AT.Good (a : AT) : Prop := Tr.Good a.h a.t
def AT.Root (a : AT) : Prop := Tr.Root a.h a.t
theorem AT.Root.kids {a : AT} (r : a.Root) : ∀ k ∈ a.kids, k.Good := by
 obtain ⟨h, t⟩ := a
 cases h with
 | zero => intro k hk; cases hk
 | succ h =>
   intro k hk
   obtain ⟨c, hc, rfl⟩ := List.mem_map.1 hk
   exact r.2.2 c hc
theorem AT.Good.kids {a : AT} (g : a.Good) : ∀ k ∈ a.kids, k.Good := AT.Root.kids (a := a) (Near.root (Good.near g))
theorem AT.zo1 {a : AT} (ok : a.Ok) : a.nd.Ks.length = if a.h = 0 then a.ents.length else a.kids.length := by
 obtain ⟨h, t⟩ := a
 cases h with
 | zero =>
   show t.1.Ks.length = t.2.length
   rw [ok.1.Ks, List.length_map]
 | succ h =>
   show (Tr.nd (h + 1) t).Ks.length = ((Tr.kids t).map fun k => (⟨h, k⟩ : AT)).length
   rw [zdz ok, List.length_map]
theorem AT.Good.len {a : AT} (g : a.Good) (ok : a.Ok) : 3 ≤ a.nd.Ks.length ∧ a.nd.Ks.length ≤ 6 := by
 have := Good.ln g
 rw [zeK ok] at this
 exact this
theorem AT.Root.len {a : AT} (r : a.Root) (ok : a.Ok) : (if a.h = 0 then 1 else 2) ≤ a.nd.Ks.length ∧ a.nd.Ks.length ≤ 6 := by
 obtain ⟨h, t⟩ := a
 cases h with
 | zero =>
   have e : t.1.Ks.length = t.2.length := by rw [ok.1.Ks, List.length_map]
   show 1 ≤ t.1.Ks.length ∧ t.1.Ks.length ≤ 6
   rw [e]
   exact r
 | succ h =>
   have e : (Tr.nd (h + 1) t).Ks.length = t.2.length := zdz ok
   show 2 ≤ (Tr.nd (h + 1) t).Ks.length ∧ (Tr.nd (h + 1) t).Ks.length ≤ 6
   rw [e]
   exact ⟨r.1, r.2.1⟩
theorem AT.fst {a : AT} (ok : a.Ok) : 0 < a.ents.length ∧ a.nd.Ks.getD 0 default = fstK a.ents := zaM a.h a.t ok
theorem AT.keys_eq {a : AT} (ok : a.Ok) (h : a.h ≠ 0) : a.nd.Ks = a.kids.map fun k => k.nd.Ks.getD 0 default := by
 obtain ⟨h', t⟩ := a
 cases h' with
 | zero => exact absurd rfl h
 | succ h' =>
   show t.1.Ks = ((t.2.map fun k => (⟨h', k⟩ : AT))).map fun k => k.nd.Ks.getD 0 default
   rw [ok.1.Ks, List.map_map, List.map_map]
   rfl
end Go.Proofs.YtaghmffgoomebaaGreat.Tr
namespace Go.Proofs.YtaghmffgoomebaaGreat.Tr
open Nd Gx
inductive Pth {H : Nat} (t : T H) (k : KeyD) : (h : Nat) → T h → List (Nat × Nat) → List EntD → List EntD → Prop
 | root : Pth t k H t [] [] []
 | down {h : Nat} {s : T (h + 1)} {l : List (Nat × Nat)} {A C : List EntD} (q : Nat) {c : T h} (hp : Pth t k (h + 1) s l A C) (hq : PosK ((s.2.map (ents h)).map fstK) k q)
  (hc : s.2[kidIx ((s.2.map (ents h)).map fstK) k q]? = some c) :
  Pth t k h c (l ++ [((nd (h + 1) s).g, kidIx ((s.2.map (ents h)).map fstK) k q)]) (A ++ ((s.2.map (ents h)).take (kidIx ((s.2.map (ents h)).map fstK) k q)).flatten)
   (((s.2.map (ents h)).drop (kidIx ((s.2.map (ents h)).map fstK) k q + 1)).flatten ++ C)
section
variable {H : Nat} {t : T H} {k : KeyD}
theorem Pth.len {h : Nat} {s : T h} {l : List (Nat × Nat)} {A C : List EntD} (p : Pth t k h s l A C) : l.length + h = H := by
 induction p with
 | root => simp
 | down q hp hq hc ih => rw [List.length_append]; simp only [List.length_cons, List.length_nil]; omega
theorem Pth.ents {h : Nat} {s : T h} {l : List (Nat × Nat)} {A C : List EntD} (p : Pth t k h s l A C) : ents H t = A ++ Tr.ents h s ++ C := by
 induction p with
 | root => simp
 | @down h s l A C q c hp hq hc ih =>
   rw [ih]
   show A ++ (s.2.map (Tr.ents h)).flatten ++ C = _
   rw [zbh (s.2.map (Tr.ents h)) (i := kidIx ((s.2.map (Tr.ents h)).map fstK) k q) (B := Tr.ents h c) (by rw [List.getElem?_map, hc]; rfl)]
   simp only [List.append_assoc]
theorem Pth.ok {h : Nat} {s : T h} {l : List (Nat × Nat)} {A C : List EntD} (p : Pth t k h s l A C) (ok : Ok H t) : Ok h s := by
 induction p with
 | root => exact ok
 | down q hp hq hc ih => exact ih.2.2 _ (List.mem_of_getElem? hc)
theorem Pth.asc {h : Nat} {s : T h} {l : List (Nat × Nat)} {A C : List EntD} (p : Pth t k h s l A C) (ha : AscK (keysOf (Tr.ents H t))) : AscK (keysOf (Tr.ents h s)) := by
 rw [p.ents, zaw, zaw] at ha
 exact (zbi.1 (zbi.1 ha).1).2.1
theorem Pth.way {h : Nat} {s : T h} {l : List (Nat × Nat)} {A C : List EntD} (p : Pth t k h s l A C) : ∀ {lf : T 0} {A' C' : List EntD}, WayR h s k lf A' C' → WayR H t k lf (A ++ A') (C' ++ C) := by
 induction p with
 | root => intro lf A' C' hw; simpa using hw
 | @down h s l A C q c hp hq hc ih =>
   intro lf A' C' hw
   have := ih (lf := lf) (A' := ((s.2.map (Tr.ents h)).take (kidIx ((s.2.map (Tr.ents h)).map fstK) k q)).flatten ++ A') (C' := C' ++ ((s.2.map (Tr.ents h)).drop (kidIx ((s.2.map (Tr.ents h)).map fstK) k q + 1)).flatten) ⟨q, c, A', C', hq, hc, hw, rfl, rfl⟩
   simpa only [List.append_assoc] using this
theorem Pth.leaf {lf : T 0} {l : List (Nat × Nat)} {A C : List EntD} (p : Pth t k 0 lf l A C) : WayR H t k lf A C := by
 have := p.way (lf := lf) (A' := []) (C' := []) ⟨rfl, rfl, rfl⟩
 simpa using this
theorem Pth.last {h : Nat} {c : T h} {l : List (Nat × Nat)} {x : Nat × Nat} {A C : List EntD} (p : Pth t k h c (l ++ [x]) A C) :
 ∃ (s : T (h + 1)) (A' C' : List EntD) (q : Nat), Pth t k (h + 1) s l A' C' ∧ PosK ((s.2.map (Tr.ents h)).map fstK) k q ∧ s.2[kidIx ((s.2.map (Tr.ents h)).map fstK) k q]? = some c ∧
  x = ((nd (h + 1) s).g, kidIx ((s.2.map (Tr.ents h)).map fstK) k q) ∧ C = ((s.2.map (Tr.ents h)).drop (kidIx ((s.2.map (Tr.ents h)).map fstK) k q + 1)).flatten ++ C' := by
 generalize hl : l ++ [x] = l0 at p
 cases p with
 | root => simp at hl
 | @down _ s l1 A1 C1 q _ hp hq hc =>
   obtain ⟨e1, e2⟩ := List.append_inj' hl rfl
   subst e1
   exact ⟨s, A1, C1, q, hp, hq, hc, by simpa using e2, rfl⟩
end
end Go.Proofs.YtaghmffgoomebaaGreat.Tr
namespace Go.Proofs.YtaghmffgoomebaaGreat.Tr
open Go.RowKit Mem Nd Gx
def treeF : (h : Nat) → T h → Fact
 | 0, t => nodeF t.1
 | h + 1, t => allF [nodeF t.1, allF t.2 (treeF h)] id
section
variable {w w' : World} {RA : List Fact} {h : Nat}
theorem zdS {t : T h} (H : Rd1 w (treeF h t)) : Rd1 w (nodeF (nd h t)) := by
 cases h with
 | zero => exact H
 | succ h => exact Rd1.open (F := id) H (x := nodeF t.1) (.head _)
theorem zgN {t : T (h + 1)} (H : Rd1 w (treeF (h + 1) t)) : Rd1 w (allF t.2 (treeF h)) := Rd1.open (F := id) H (x := allF t.2 (treeF h)) (.tail _ (.head _))
theorem zm0 {ks : List (T h)} (H : Rd1 w (allF ks (treeF h))) : Rd1 w (allF (ks.map (nd h)) nodeF) := Rd1.all fun d hd => by
 obtain ⟨k, hk, rfl⟩ := List.mem_map.1 hd
 exact zdS (H.open hk)
theorem zfN {t : T h} {b : Nat} (hb : (nodeF (nd h t)).S b) : (treeF h t).S b := by
 cases h with
 | zero => exact hb
 | succ h => exact ⟨nodeF t.1, .head _, hb⟩
theorem zfM {t : T h} (hp : (treeF h t).p w) : (nodeF (nd h t)).p w := by
 cases h with
 | zero => exact hp
 | succ h => exact hp (nodeF t.1) (.head _)
end
section
variable {X : Cx} {f : Fr} {O R : List Fact} {ks : List KI} {k : List KI} {ops lo : List Oper} {h : Nat}
theorem zeV {t : T h} (hm : treeF h t ∈ R) (hg : GK X ks f O (nodeF (nd h t) :: R)) : GK X ks f O R := zc1 _ (treeF h t) hm (fun w hp => zfM hp) (fun b hb => zfN hb) hg
theorem zdi {t : T (h + 1)} {c : T h} (hm : treeF (h + 1) t ∈ R) (hc : c ∈ t.2) (hg : GK X ks f O (treeF h c :: R)) : GK X ks f O R := zc1 _ (treeF (h + 1) t) hm (fun w hp => hp (allF t.2 (treeF h)) (.tail _ (.head _)) c hc) (fun b hb => ⟨allF t.2 (treeF h), .tail _ (.head _), c, hc, hb⟩) hg
end
end Go.Proofs.YtaghmffgoomebaaGreat.Tr
namespace Go.Proofs.YtaghmffgoomebaaGreat.Gx
open Go.RowKit Mem
structure Der (l : List Fact) (φ : Fact) : Prop where
 p : ∀ w : World, (∀ ψ, ψ ∈ l → ψ.p w) → φ.p w
 S : ∀ b, φ.S b → ∃ ψ, ψ ∈ l ∧ ψ.S b
def New (w : World) (RA : List Fact) (φ : Fact) : Prop := ∀ b, φ.S b → w.heap.size ≤ b ∨ ∃ ψ, ψ ∈ RA ∧ ψ.S b
theorem Der.new {w : World} {RA l : List Fact} {φ : Fact} (d : Der l φ) (h : ∀ ψ, ψ ∈ l → New w RA ψ) : New w RA φ := fun b hb => by
 obtain ⟨ψ, h1, h2⟩ := d.S b hb
 exact h ψ h1 b h2
theorem New.self {w : World} {RA : List Fact} {φ : Fact} (h : φ ∈ RA) : New w RA φ := fun b hb => .inr ⟨φ, h, hb⟩
theorem New.all {w : World} {RA : List Fact} {α : Type} {l : List α} {F : α → Fact} (h : ∀ x, x ∈ l → New w RA (F x)) : New w RA (allF l F) := fun b ⟨x, hx, hb⟩ => h x hx b hb
theorem New.of {w : World} {RA : List Fact} {φ : Fact} (h : ∀ b, φ.S b → w.heap.size ≤ b ∨ ∃ ψ, ψ ∈ ([] : List Fact) ∧ ψ.S b) : New w RA φ := fun b hb => by
 rcases h b hb with h1 | ⟨ψ, h1, _⟩
 ·exact .inl h1
 ·cases h1
theorem Der.trans {l m : List Fact} {φ : Fact} (h : Der l φ) (hl : ∀ ψ, ψ ∈ l → Der m ψ) : Der m φ :=
 ⟨fun w hw => h.p w fun ψ hψ => (hl ψ hψ).p w hw, fun b hb => by
  obtain ⟨ψ, h1, h2⟩ := h.S b hb
  exact (hl ψ h1).S b h2⟩
theorem Der.mem {l : List Fact} {φ : Fact} (h : φ ∈ l) : Der l φ := ⟨fun w hw => hw φ h, fun b hb => ⟨φ, h, hb⟩⟩
theorem Der.all {l : List Fact} {α : Type} {L : List α} {F : α → Fact} (h : ∀ x, x ∈ L → Der l (F x)) : Der l (allF L F) :=
 ⟨fun w hw x hx => (h x hx).p w hw, fun b ⟨x, hx, hb⟩ => (h x hx).S b hb⟩
theorem Der.elem {l : List Fact} {α : Type} {L : List α} {F : α → Fact} {x : α} (h : Der l (allF L F)) (hx : x ∈ L) : Der l (F x) :=
 ⟨fun w hw => h.p w hw x hx, fun b hb => h.S b ⟨x, hx, hb⟩⟩
theorem Der.rd {l : List Fact} {φ : Fact} {w : World} (d : Der l φ) (h : ∀ ψ, ψ ∈ l → Rd1 w ψ) : Rd1 w φ :=
 ⟨d.p w fun ψ hψ => (h ψ hψ).1, fun b hb => by obtain ⟨ψ, h1, h2⟩ := d.S b hb; exact (h ψ h1).2 b h2⟩
section
variable {X : Cx} {f : Fr} {O R RA : List Fact} {ks k : List KI} {ops lo : List Oper} {E : List Nat} {w0 w w' : World} {o : Oper} {N : Fr → List Fact → List Fact → Prop}
theorem Kn.der {l : List Fact} {φ : Fact} (hk : Kn E w0 w O R) (d : Der l φ) (hl : ∀ ψ, ψ ∈ l → ψ ∈ R) : Kn E w0 w O (φ :: R) :=
 hk.addR φ (d.p w fun ψ hψ => hk.pR ψ (hl ψ hψ)) (fun b hb => by obtain ⟨ψ, h1, h2⟩ := d.S b hb; exact hk.ltR ψ (hl ψ h1) b h2) (fun χ hχ b h1 h2 => by
  obtain ⟨ψ, h3, h4⟩ := d.S b h2
  exact hk.disR χ hχ ψ (hl ψ h3) b h1 h4)
theorem zaY (l : List Fact) {φ : Fact} (d : Der l φ) (hl : l ⊆ R) (hg : GK X ks f O (φ :: R)) : GK X ks f O R := .mk fun a w hr hk => hg.out a w hr (hk.der d fun ψ h => hl h)
theorem zeZ (l : List Fact) {φ : Fact} (d : Der l φ) (hl : l ⊆ R) (hg : G X ops lo k f O (φ :: R)) : G X ops lo k f O R := .mk fun a w hr hk => hg.out a w hr (hk.der d fun ψ h => hl h)
theorem RS1.rdE {φ : Fact} (h : Kn E w w' O R) (hm : φ ∈ R) (hn : New w RA φ) : RS1 w w' RA φ := ⟨h.pR _ hm, fun b hb => ⟨h.ltR _ hm b hb, hn b hb⟩⟩
theorem RS1.ownE {φ : Fact} (h : Kn E w w' O R) (hm : φ ∈ O) (hE : ∀ b, φ.S b → b ∉ E) : RS1 w w' RA φ :=
 ⟨h.pO _ hm, fun b hb => ⟨h.ltO _ hm b hb, .inl ((h.ownS _ hm b hb).resolve_right (hE b hb))⟩⟩
theorem zbN {φ ψ : Fact} {O' : List Fact} {e : Nat} (hE : X.E = [e]) (hs : Sel φ O O') (hψ : ψ ∈ O') (he : ψ.S e) (hg : (∀ b, φ.S b → X.w0.heap.size ≤ b) → GK X ks f O' (φ :: R)) : GK X ks f O R := .mk fun a w hr hk => (hg fun b hb => (hk.ownS φ (hs.perm.mem_iff.2 (.head _)) b hb).resolve_right (by
 rw [hE]
 intro h
 obtain rfl := List.mem_singleton.1 h
 exact (List.rel_of_pairwise_cons (hk.perm hs.perm).disO hψ) b hb he)).out a w hr (hk.share hs)
end
def RetX {σ : Type} (g : Nat) (T : TypeId) (I : σ → Prop) (V : σ → Value) (CS : σ → List Value) (FF : σ → List Fact) (RA : List Fact) (w : World) (e : Ending) (w' : World) : Prop :=
 ∃ s, I s ∧ e = .returned (V s) ∧ FreshW g T (CS s) w w' [] ∧ RSs w w' RA (FF s)
section
variable {X : Cx} {f : Fr} {O R RA : List Fact} {ks k : List KI} {ops lo : List Oper} {E : List Nat} {w0 w w' : World} {o : Oper} {N : Fr → List Fact → List Fact → Prop}
theorem RetX.mk {σ : Type} {g : Nat} {T : TypeId} {I : σ → Prop} {V : σ → Value} {CS : σ → List Value} {FF : σ → List Fact} {v : Value} (s : σ) (hi : I s) (hv : v = V s) (h : Kn [g] w w' O R) (hs : SelAll [blk g (CS s) T] O) (hr : RSs w w' RA (FF s)) : RetX g T I V CS FF RA w (.returned v) w' :=
 ⟨s, hi, by rw [hv], h.outW hs, hr⟩
theorem RSs.knW {g : Nat} {T : TypeId} {cs cs' : List Value} {O' L : List Fact} (hk : Kn E w0 w O R) (hu : Upd (blk g cs T) (blk g cs' T) O O') (hf : FreshW g T cs' w w' []) (hRA : RA ⊆ R) (h : RSs w w' RA L) : Kn E w0 w' O' (L ++ R) := by
 have k1 : Kn E w0 w' O' R := hk.freshW (GG := []) (RA := []) hu hf (fun ψ h => by cases h) (fun φ h => by cases h)
 induction h with
 | nil => exact k1
 | cons h _ ih =>
   refine ih.addR _ h.1 (fun b hb' => (h.2 b hb').1) (fun φ hφ b hS hb' => ?_)
   have h3 : ∃ φ', φ' ∈ O ∧ φ'.S b := by
    rcases hu.mem' hφ with e | e
    ·subst e; exact ⟨_, hu.mem, hS⟩
    ·exact ⟨φ, e, hS⟩
   obtain ⟨φ', h4, h5⟩ := h3
   rcases (h.2 b hb').2 with h1 | ⟨ψ, h1, h2⟩
   ·have := hk.ltO φ' h4 b h5
    omega
   ·exact hk.disR φ' h4 ψ (hRA h1) b h5 h2
theorem zdW {σ : Type} {g : Nat} {T : TypeId} {cs : List Value} {I : σ → Prop} {V : σ → Value} {CS : σ → List Value} {FF O1 RR : σ → List Fact} {fid : Nat} {args : List Value} (h : ∀ w, Kn X.E X.w0 w O R → Calls X.P fid args.toArray w (RetX g T I V CS FF RA w)) {dd : Nat} (hd : o.dst = some dd) {c : Call} {x : Operand} (ho : o.op = .call c) (hc : c.callee = .value x) (hx : look X.n f x = some (.func (.func fid) #[] #[])) (ha : lookL X.n f c.args.toList = some args) (hok : callable X.P fid = true)
 (hu : ∀ s, Upd (blk g cs T) (blk g (CS s) T) O (O1 s)) (hRA : RA ⊆ R) (hcat : ∀ s, catO (FF s) R = some (RR s)) (hg : ∀ s, I s → (∀ φ, φ ∈ FF s → New X.w0 RA φ) → N ((dd, V s) :: f) (O1 s) (RR s)) : Mv X f O R o N :=
 zce hd ho hc hx ha hok fun w hk => (h w hk).mono fun e w' ⟨s, hi, he, hf, hs⟩ => ⟨_, _, _, he, by rw [zdl (hcat s)]; exact RSs.knW hk (hu s) hf hRA hs, hg s hi fun φ hφ b hb' => ((hs.mem hφ).2 b hb').2.imp (fun h => Nat.le_trans hk.size h) id⟩
theorem zl2 {S : List Fact} {m : Nat} {ls : List Bool} {C : Fr → List Fact → List Fact → Prop} {α : Type} [Inhabited α] {e base sz : Nat} (v : Value) {enc : α → Nat → Value} {L : List α} (hm : own base e sz v enc L ∈ O) (hL : 0 < L.length) (hg : ∀ b c, v = .slice (some ⟨b, 0, none⟩) L.length c → L.length ≤ c → c ≤ maxLen → GB X S ops m ls C k f O R) : GB X S ops m ls C k f O R := .mk fun a w hr hk => by
 obtain ⟨b, c, h1, h2, h3⟩ := zeH (hk.pO _ hm) hL
 exact (hg b c h1 h2 h3).out a w hr hk
end
end Go.Proofs.YtaghmffgoomebaaGreat.Gx
namespace Go.Proofs.YtaghmffgoomebaaGreat.Gx
open Go.RowKit Mem
def RetO {σ α : Type} [Inhabited α] (base e sz : Nat) (v : Value) (enc : α → Nat → Value) (I : σ → Prop) (V : σ → Value) (M : σ → List α) (FF : σ → List Fact) (RA : List Fact) (w : World) (en : Ending) (w' : World) : Prop :=
 ∃ s, I s ∧ en = .returned (V s) ∧ OwnL w' base e sz (V s) enc (M s) ∧ Grew w w' v (V s) ∧ RSs w w' RA (FF s) ∧ ∀ φ, φ ∈ FF s → ∀ b, φ.S b → (V s).ownBlock ≠ some b
section
variable {X : Cx} {f : Fr} {O O' R RA : List Fact} {ks k : List KI} {ops lo : List Oper} {E : List Nat} {w0 w w' : World} {o : Oper} {N : Fr → List Fact → List Fact → Prop} {α : Type} [Inhabited α] {base e sz : Nat} {v v' : Value} {enc : α → Nat → Value} {L M : List α}
theorem RSs.knO {F : List Fact} (hk : Kn E w0 w O R) (hu : Upd (own base e sz v enc L) (own base e sz v' enc M) O O') (ho : OwnL w' base e sz v' enc M) (hg : Grew w w' v v') (hd : ∀ φ, φ ∈ F → ∀ b, φ.S b → v'.ownBlock ≠ some b) (hRA : RA ⊆ R) (h : RSs w w' RA F) : Kn E w0 w' O' (F ++ R) := by
 have k1 : Kn E w0 w' O' R := hk.grew hg ho hu
 induction h with
 | nil => exact k1
 | cons h _ ih =>
   refine (ih fun φ hφ => hd φ (.tail _ hφ)).addR _ h.1 (fun b hb' => (h.2 b hb').1) (fun φ hφ b hS hb' => ?_)
   rcases hu.mem' hφ with e1 | e1
   ·subst e1
    exact hd _ (.head _) b hb' hS
   ·rcases (h.2 b hb').2 with h1 | ⟨ψ, h1, h2⟩
    ·have := hk.ltO φ e1 b hS
     omega
    ·exact hk.disR φ e1 ψ (hRA h1) b hS h2
theorem zj1 {σ : Type} {I : σ → Prop} {V : σ → Value} {MM : σ → List α} {FF O1 RR : σ → List Fact} {fid : Nat} {args : List Value} (h : ∀ w, Kn X.E X.w0 w O R → Calls X.P fid args.toArray w (RetO base e sz v enc I V MM FF RA w)) {dd : Nat} (hd : o.dst = some dd) {c : Call} {x : Operand} (ho : o.op = .call c) (hc : c.callee = .value x) (hx : look X.n f x = some (.func (.func fid) #[] #[])) (ha : lookL X.n f c.args.toList = some args) (hok : callable X.P fid = true)
 (hu : ∀ s, Upd (own base e sz v enc L) (own base e sz (V s) enc (MM s)) O (O1 s)) (hRA : RA ⊆ R) (hcat : ∀ s, catO (FF s) R = some (RR s)) (hg : ∀ s, I s → (∀ φ, φ ∈ FF s → New X.w0 RA φ) → N ((dd, V s) :: f) (O1 s) (RR s)) : Mv X f O R o N :=
 zce hd ho hc hx ha hok fun w hk => (h w hk).mono fun e w' ⟨s, hi, he, ho, hg', hs, hds⟩ => ⟨_, _, _, he, by rw [zdl (hcat s)]; exact RSs.knO hk (hu s) ho hg' hds hRA hs, hg s hi fun φ hφ b hb' => ((hs.mem hφ).2 b hb').2.imp (fun h => Nat.le_trans hk.size h) id⟩
theorem RSs.rd {F : List Fact} (hk : Kn E w w' O R) (h : ∀ φ, φ ∈ F → φ ∈ R ∧ New w RA φ) : RSs w w' RA F := by
 induction F with
 | nil => exact .nil
 | cons φ l ih => exact .cons (RS1.rdE hk (h φ (.head _)).1 (h φ (.head _)).2) (ih fun ψ hψ => h ψ (.tail _ hψ))
theorem RetO.mk {σ : Type} {I : σ → Prop} {V : σ → Value} {MM : σ → List α} {FF : σ → List Fact} {u : Value} (s : σ) (hi : I s) (hv : u = V s) (hk : Kn (ownE v) w w' O R) (hm : own base e sz (V s) enc (MM s) ∈ O) (hL : 0 < (MM s).length) (hr : ∀ φ, φ ∈ FF s → φ ∈ R ∧ New w RA φ) : RetO base e sz v enc I V MM FF RA w (.returned u) w' :=
 ⟨s, hi, by rw [hv], (Kn.outG hk hm hL).1, (Kn.outG hk hm hL).2, RSs.rd hk hr, fun φ hφ b hb hb' => hk.disR _ hm φ (hr φ hφ).1 b hb' hb⟩
end
end Go.Proofs.YtaghmffgoomebaaGreat.Gx
