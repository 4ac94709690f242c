/- A tree's headers lie apart from what its nodes hold; what Save makes of a tree (plain; no program). What a change leaves of a tree: its nodes are new, or were there (plain; no program). -/
import Derived.Test.YtaghmffgoomebaaGreatPage7
import Derived.Test.YtaghmffgoomebaaGreatNdP
import Derived.Test.YtaghmffgoomebaaGreatTrB
set_option linter.unusedVariables false
set_option linter.unusedSimpArgs false
namespace Go.Proofs.YtaghmffgoomebaaGreat.Tr
open Go.RowKit Mem Nd Gx Tw
theorem zoU : ∀ {h : Nat} {t : T h}, Ok h t → Good h t → ∀ {d : NodeD}, d ∈ nds h t → d.Vs = [] ∨ 3 ≤ d.Vs.length
 | 0, t, ok, g, d, hd => by
   obtain rfl := m1 hd
   have e : (nd 0 t).Vs = t.2.map (·.a) := ok.1.Vs
   exact .inr (by rw [e, List.length_map]; exact g.1)
 | h + 1, t, ok, g, d, hd => by
   rcases zb2 hd with rfl | ⟨k, hk, hd⟩
   ·exact .inl ok.1.Vs
   ·exact zoU (ok.2.2 k hk) (g.2.2 k hk) hd
theorem root_V : ∀ {h : Nat} {t : T h}, Ok h t → Root h t → ∀ {d : NodeD}, d ∈ nds h t → (d.Vs = [] ∨ 3 ≤ d.Vs.length) ∨ h = 0
 | 0, t, ok, g, d, hd => .inr rfl
 | h + 1, t, ok, g, d, hd => by
   rcases zb2 hd with rfl | ⟨k, hk, hd⟩
   ·exact .inl (.inl ok.1.Vs)
   ·exact .inl (zoU (ok.2.2 k hk) (g.2.2 k hk) hd)
theorem zna {α : Type} [Inhabited α] {w : World} {A : Option Addr} {sz : Nat} {enc : α → Nat → Value} {L : List α} {b : Nat} (h : Sl w A sz enc L) (hS : (sl A sz enc L).S b) : ∃ off, ∀ i, i < L.length → ∀ j, j < sz → w.cell? ⟨b, off + i * sz + j, none⟩ = some (enc (L.getD i default) j) := by
 obtain ⟨h0, a, ea, eb⟩ := hS
 obtain ⟨b', off, e1, hc⟩ := h h0
 rw [e1] at ea
 have e2 : b' = b := by rw [← eb, ← Option.some.inj ea]
 subst e2
 exact ⟨off, hc⟩
theorem znM {w : World} {d d' : NodeD} (H : (nodeF d).p w) (H' : (nodeF d').p w) (hV : (d'.Vs = [] ∨ 2 ≤ d'.Vs.length) ∨ ∀ x, d'.V.A = some x → 0 < d'.Vs.length → x.block ≠ d.g) : ¬ (slD d').S d.g := by
 rintro ⟨φ, hφ, hS⟩
 have hc := zgk (zeh H)
 rcases List.mem_cons.1 hφ with rfl | hφ
 ·obtain ⟨off, h1⟩ := zna (zhT H') hS
  have k := (h1 0 hS.1 0 (by decide)).symm.trans (hc _)
  match off + 0 * 3 + 0, k with
  | 0, k => simp [KE] at k
  | 1, k => simp [KE, SlV.v] at k
  | 2, k => simp [KE, SlV.v] at k
  | 3, k => simp [KE, SlV.v] at k
  | 4, k => simp [KE] at k
  | _ + 5, k => simp at k
 rcases List.mem_cons.1 hφ with rfl | hφ
 ·rcases hV with (hV | hV) | hV
  ·have := hS.1
   rw [hV] at this
   exact absurd this (by simp)
  ·obtain ⟨off, h1⟩ := zna (zpp H') hS
   have k := (h1 0 hS.1 0 (by decide)).symm.trans (hc _)
   have k2 := (h1 1 hV 0 (by decide)).symm.trans (hc _)
   rw [show off + 1 * 1 + 0 = off + 0 * 1 + 0 + 1 by omega] at k2
   match off + 0 * 1 + 0, k, k2 with
   | 0, k, _ => simp [IE] at k
   | 1, k, _ => simp [IE, SlV.v] at k
   | 2, k, _ => simp [IE, SlV.v] at k
   | 3, k, _ => simp [IE, SlV.v] at k
   | 4, _, k => simp at k
   | _ + 5, k, _ => simp at k
  ·obtain ⟨h0, a, ea, eb⟩ := hS
   exact hV a ea h0 eb
 ·obtain rfl := m1 hφ
  obtain ⟨off, h1⟩ := zna (zhU H') hS
  have k := (h1 0 hS.1 0 (by decide)).symm.trans (hc _)
  match off + 0 * 1 + 0, k with
  | 0, k => simp [PE] at k
  | 1, k => simp [PE, SlV.v] at k
  | 2, k => simp [PE, SlV.v] at k
  | 3, k => simp [PE, SlV.v] at k
  | 4, k => simp [PE] at k
  | _ + 5, k => simp at k
theorem znK {w : World} {h : Nat} {t : T h} (ok : Ok h t) (hr : Root h t) (H : (treeF h t).p w) : ∀ b, (slF h t).S b → ¬ (hdF h t).S b := by
 rintro b ⟨d', hd', h1⟩ ⟨d, hd, h2⟩
 have e : b = d.g := h2
 subst e
 refine znM (zds H hd) (zds H hd') ?_ h1
 rcases root_V ok hr hd' with (h3 | h3) | h3
 ·exact .inl (.inl h3)
 ·exact .inl (.inr (by omega))
 ·subst h3
  obtain rfl := m1 hd'
  obtain rfl := m1 hd
  exact .inr ok.1.vg
structure SvS where
 k : Nat
 l : List Int
 W : List (Nat × List Int)
def svN (d : NodeD) (X : List Int) (s : SvS) : NodeD × SvS :=
 if d.a = 0 then ({ d with a := (s.k : Int) + 1 }, ⟨s.k + 1, s.l ++ [(s.k : Int) + 1], s.W ++ [(s.k + 1, X)]⟩) else (d, ⟨s.k, s.l ++ [d.a], s.W⟩)
def svL {α σ : Type} (f : α → σ → α × σ) : List α → σ → List α × σ
 | [], s => ([], s)
 | x :: r, s => ((f x s).1 :: (svL f r (f x s).2).1, (svL f r (f x s).2).2)
def kidE (h : Nat) (ks : List (T h)) : List EntD := ks.map fun k => ⟨(nd h k).Ks.getD 0 default, (nd h k).a⟩
noncomputable def svT : (h : Nat) → T h → SvS → T h × SvS
 | 0, t, s => (((svN t.1 (Page.page 3 (nodeB t.2)) s).1, t.2), (svN t.1 (Page.page 3 (nodeB t.2)) s).2)
 | h + 1, t, s => (((svN t.1 (Page.page 4 (nodeB (kidE h (svL (svT h) t.2 s).1))) (svL (svT h) t.2 s).2).1, (svL (svT h) t.2 s).1), (svN t.1 (Page.page 4 (nodeB (kidE h (svL (svT h) t.2 s).1))) (svL (svT h) t.2 s).2).2)
structure SameA (d d' : NodeD) : Prop where
 g : d'.g = d.g
 leaf : d'.leaf = d.leaf
 K : d'.K = d.K
 Ks : d'.Ks = d.Ks
 V : d'.V = d.V
 Vs : d'.Vs = d.Vs
 C : d'.C = d.C
 Cs : d'.Cs = d.Cs
theorem SameA.refl (d : NodeD) : SameA d d := ⟨rfl, rfl, rfl, rfl, rfl, rfl, rfl, rfl⟩
theorem ziB (d : NodeD) (X : List Int) (s : SvS) : SameA d (svN d X s).1 := by
 unfold svN
 split
 ·exact ⟨rfl, rfl, rfl, rfl, rfl, rfl, rfl, rfl⟩
 ·exact SameA.refl d
theorem ziC {α σ : Type} (f : α → σ → α × σ) (x : α) : ∀ (l : List α) (s : σ), svL f (l ++ [x]) s = ((svL f l s).1 ++ [(f x (svL f l s).2).1], (f x (svL f l s).2).2)
 | [], _ => rfl
 | y :: r, s => by
   show ((f y s).1 :: (svL f (r ++ [x]) (f y s).2).1, (svL f (r ++ [x]) (f y s).2).2) = _
   rw [ziC f x r]
   rfl
theorem zc8 {α σ : Type} (f : α → σ → α × σ) : ∀ (l : List α) (s : σ), (svL f l s).1.length = l.length
 | [], _ => rfl
 | x :: r, s => by show (svL f r (f x s).2).1.length + 1 = r.length + 1; rw [zc8 f r]
theorem zc7 {α σ β : Type} (f : α → σ → α × σ) (φ : α → β) (hf : ∀ x s, φ (f x s).1 = φ x) : ∀ (l : List α) (s : σ), (svL f l s).1.map φ = l.map φ
 | [], _ => rfl
 | x :: r, s => by show φ (f x s).1 :: (svL f r (f x s).2).1.map φ = φ x :: r.map φ; rw [hf, zc7 f φ hf r]
theorem zey {α σ : Type} (f : α → σ → α × σ) : ∀ (l : List α) (s : σ) {y : α}, y ∈ (svL f l s).1 → ∃ x s', x ∈ l ∧ y = (f x s').1
 | [], _, _, h => by cases h
 | x :: r, s, y, h => by
   rcases List.mem_cons.1 h with rfl | h
   ·exact ⟨x, s, .head _, rfl⟩
   ·obtain ⟨z, s', h1, h2⟩ := zey f r _ h
    exact ⟨z, s', .tail _ h1, h2⟩
theorem zcF : ∀ (h : Nat) (t : T h) (s : SvS), SameA (nd h t) (nd h (svT h t s).1)
 | 0, t, s => ziB ..
 | h + 1, t, s => ziB ..
theorem ziA : ∀ (h : Nat) (t : T h) (s : SvS), ents h (svT h t s).1 = ents h t
 | 0, _, _ => rfl
 | h + 1, t, s => by
   show ((svL (svT h) t.2 s).1.map (ents h)).flatten = (t.2.map (ents h)).flatten
   rw [zc7 (svT h) (ents h) (ziA h)]
theorem zky : ∀ (h : Nat) (t : T h) (s : SvS), gs h (svT h t s).1 = gs h t
 | 0, t, s => by show [_] = [_]; rw [(zcF 0 t s).g]
 | h + 1, t, s => by
   show (nd (h + 1) (svT (h + 1) t s).1).g :: ((svL (svT h) t.2 s).1.map (gs h)).flatten = (nd (h + 1) t).g :: (t.2.map (gs h)).flatten
   rw [zc7 (svT h) (gs h) (zky h), (zcF (h + 1) t s).g]
theorem zns {d d' : NodeD} {L : List EntD} (h : IsLeafW L d) (s : SameA d d') : IsLeafW L d' :=
 ⟨⟨by rw [s.K, s.Ks]; exact h.ok.K, by rw [s.V, s.Vs]; exact h.ok.V, by rw [s.C, s.Cs]; exact h.ok.C⟩, by rw [s.leaf]; exact h.leaf, by rw [s.Ks]; exact h.Ks, by rw [s.Vs]; exact h.Vs, by rw [s.Cs]; exact h.Cs, by rw [s.V, s.Vs, s.g]; exact h.vg⟩
theorem znt {d d' : NodeD} {L M : List NodeD} (h : IsInnerW L d) (s : SameA d d') (e1 : M.map (fun x => x.Ks.getD 0 default) = L.map (fun x => x.Ks.getD 0 default)) (e2 : M.map NodeD.g = L.map NodeD.g) : IsInnerW M d' :=
 ⟨⟨by rw [s.K, s.Ks]; exact h.ok.K, by rw [s.V, s.Vs]; exact h.ok.V, by rw [s.C, s.Cs]; exact h.ok.C⟩, by rw [s.leaf]; exact h.leaf, by rw [s.Ks, e1]; exact h.Ks, by rw [s.Vs]; exact h.Vs, by rw [s.Cs, e2]; exact h.Cs⟩
theorem zox : ∀ (h : Nat) (t : T h) (s : SvS), Ok h t → Ok h (svT h t s).1
 | 0, t, s, ok => ⟨zns ok.1 (zcF 0 t s), ok.2⟩
 | h + 1, t, s, ok => by
   have e1 := zc7 (svT h) (fun k => (nd h k).Ks.getD 0 default) (fun x s => by rw [(zcF h x s).Ks]) t.2 s
   have e2 := zc7 (svT h) (fun k => (nd h k).g) (fun x s => (zcF h x s).g) t.2 s
   refine ⟨znt ok.1 (zcF (h + 1) t s) ?_ ?_, by show 0 < (svL (svT h) t.2 s).1.length; rw [zc8]; exact ok.2.1, fun k hk => ?_⟩
   ·show ((svL (svT h) t.2 s).1.map (nd h)).map _ = _
    rw [List.map_map, List.map_map]
    exact e1
   ·show ((svL (svT h) t.2 s).1.map (nd h)).map _ = _
    rw [List.map_map, List.map_map]
    exact e2
   ·obtain ⟨x, s', hx, rfl⟩ := zey _ _ _ hk
    exact zox h x s' (ok.2.2 x hx)
theorem ziz : ∀ (h : Nat) (t : T h) (s : SvS), Good h t → Good h (svT h t s).1
 | 0, _, _, g => g
 | h + 1, t, s, g => ⟨by show 3 ≤ (svL (svT h) t.2 s).1.length; rw [zc8]; exact g.1, by show (svL (svT h) t.2 s).1.length ≤ 6; rw [zc8]; exact g.2.1, fun k hk => by
  obtain ⟨x, s', hx, rfl⟩ := zey _ _ _ hk
  exact ziz h x s' (g.2.2 x hx)⟩
theorem zm3 : ∀ (h : Nat) (t : T h) (s : SvS), Root h t → Root h (svT h t s).1
 | 0, _, _, g => g
 | h + 1, t, s, g => ⟨by show 2 ≤ (svL (svT h) t.2 s).1.length; rw [zc8]; exact g.1, by show (svL (svT h) t.2 s).1.length ≤ 6; rw [zc8]; exact g.2.1, fun k hk => by
  obtain ⟨x, s', hx, rfl⟩ := zey _ _ _ hk
  exact ziz h x s' (g.2.2 x hx)⟩
theorem zkx {h : Nat} {t : T h} {L : List EntD} (s : SvS) (H : Has h t L) : Has h (svT h t s).1 L := ⟨zox h t s H.ok, zm3 h t s H.size, by rw [ziA]; exact H.row, H.asc⟩
def frN (d : NodeD) : Nat := if d.a = 0 then 1 else 0
def fr : (h : Nat) → T h → Nat
 | 0, t => frN (nd 0 t)
 | h + 1, t => (t.2.map (fr h)).sum + frN (nd (h + 1) t)
def pl : (h : Nat) → T h → List Int
 | 0, t => [(nd 0 t).a]
 | h + 1, t => (t.2.map (pl h)).flatten ++ [(nd (h + 1) t).a]
theorem svN_k (d : NodeD) (X : List Int) (s : SvS) : (svN d X s).2.k = s.k + frN d ∧ (svN d X s).2.l = s.l ++ [(svN d X s).1.a] := by
 unfold svN frN
 split
 ·exact ⟨rfl, rfl⟩
 ·exact ⟨rfl, rfl⟩
theorem zjL {α : Type} (f : α → SvS → α × SvS) (φ : α → Nat) (ψ : α → List Int) (hf : ∀ x s, (f x s).2.k = s.k + φ x ∧ (f x s).2.l = s.l ++ ψ (f x s).1) : ∀ (l : List α) (s : SvS), (svL f l s).2.k = s.k + (l.map φ).sum ∧ (svL f l s).2.l = s.l ++ ((svL f l s).1.map ψ).flatten
 | [], s => ⟨rfl, by show s.l = s.l ++ []; rw [List.append_nil]⟩
 | x :: r, s => by
   obtain ⟨h1, h2⟩ := hf x s
   obtain ⟨h3, h4⟩ := zjL f φ ψ hf r (f x s).2
   refine ⟨?_, ?_⟩
   ·show (svL f r (f x s).2).2.k = s.k + (φ x + (r.map φ).sum)
    rw [h3, h1]; omega
   ·show (svL f r (f x s).2).2.l = s.l ++ (ψ (f x s).1 ++ ((svL f r (f x s).2).1.map ψ).flatten)
    rw [h4, h2, List.append_assoc]
theorem zex : ∀ (h : Nat) (t : T h) (s : SvS), (svT h t s).2.k = s.k + fr h t ∧ (svT h t s).2.l = s.l ++ pl h (svT h t s).1
 | 0, t, s => svN_k ..
 | h + 1, t, s => by
   obtain ⟨h1, h2⟩ := zjL (svT h) (fr h) (pl h) (zex h) t.2 s
   obtain ⟨h3, h4⟩ := svN_k t.1 (Page.page 4 (nodeB (kidE h (svL (svT h) t.2 s).1))) (svL (svT h) t.2 s).2
   refine ⟨?_, ?_⟩
   ·show (svN t.1 _ (svL (svT h) t.2 s).2).2.k = s.k + ((t.2.map (fr h)).sum + frN t.1)
    rw [h3, h1]; omega
   ·show (svN t.1 _ (svL (svT h) t.2 s).2).2.l = s.l ++ (((svL (svT h) t.2 s).1.map (pl h)).flatten ++ [(svN t.1 (Page.page 4 (nodeB (kidE h (svL (svT h) t.2 s).1))) (svL (svT h) t.2 s).2).1.a])
    rw [h4, h2, List.append_assoc]
def AllZ (h : Nat) (t : T h) : Prop := ∀ d ∈ nds h t, d.a = 0
theorem AllZ.kid {h : Nat} {t : T (h + 1)} (z : AllZ (h + 1) t) {k : T h} (hk : k ∈ t.2) : AllZ h k := fun d hd => z d (zbG hk hd)
def ioF (k n : Nat) : List Int := (List.range n).map fun (i : Nat) => (k : Int) + 1 + (i : Int)
theorem zlI (k n m : Nat) : ioF k n ++ ioF (k + n) m = ioF k (n + m) := by
 unfold ioF
 rw [List.range_add, List.map_append, List.map_map]
 congr 1
 refine List.map_congr_left fun i _ => ?_
 show ((k + n : Nat) : Int) + 1 + (i : Int) = (k : Int) + 1 + ((n + i : Nat) : Int)
 omega
end Go.Proofs.YtaghmffgoomebaaGreat.Tr
namespace Go.Proofs.YtaghmffgoomebaaGreat.Tr
open Go.RowKit Mem Nd Gx Tw
section
def AllT (P : (h : Nat) → T h → Prop) : (h : Nat) → T h → Prop
 | 0, t => P 0 t
 | h + 1, t => P (h + 1) t ∧ ∀ k ∈ t.2, AllT P h k
theorem zit {p : NodeD → Prop} : ∀ {h : Nat} {t : T h}, AllT (fun h t => p (nd h t)) h t → ∀ d ∈ nds h t, p d
 | 0, t, z, d, hd => by
   obtain rfl := m1 hd
   exact z
 | h + 1, t, z, d, hd => by
   rcases zb2 hd with rfl | ⟨k, hk, hd⟩
   ·exact z.1
   ·exact zit (z.2 k hk) d hd
variable {P : (h : Nat) → T h → Prop} (h0 : ∀ (h : Nat) (t : T h), (nd h t).a = 0 → P h t)
include h0
theorem zp2 {h : Nat} {ts : List (T (h + 1))} {L : List (T h)} (e : ts.map (fun s => s.2) = cutN L) (hi : ∀ s ∈ ts, IsInner (s.2.map (nd h)) s.1) (hL : ∀ k ∈ L, AllT P h k) : ∀ s ∈ ts, AllT P (h + 1) s := fun s hs =>
 ⟨h0 (h + 1) s (hi s hs).a, fun k hk => hL k ((zb3 e hs).2 k hk)⟩
theorem zlu {ts : List (T 0)} (hi : ∀ s ∈ ts, IsLeaf s.2 s.1) : ∀ s ∈ ts, AllT P 0 s := fun s hs => h0 0 s (hi s hs).a
theorem zkJ : ∀ (h : Nat) (t : T h) (e : EntD) (ts : List (T h)), SetR h t e ts → AllT P h t → ∀ s ∈ ts, AllT P h s
 | 0, t, e, ts, ⟨_, _, _, hl⟩, z => zlu h0 hl
 | h + 1, t, e, ts, ⟨q, c, us, hq, hc, hs, hts, hl⟩, z => zp2 h0 hts hl fun k hk => by
   rcases List.mem_append.1 hk with hk | hk
   ·rcases List.mem_append.1 hk with hk | hk
    ·exact z.2 _ (List.mem_of_mem_take hk)
    ·exact zkJ h c e us hs (z.2 _ (List.mem_of_getElem? hc)) k hk
   ·exact z.2 _ (List.mem_of_mem_drop hk)
theorem zpF : ∀ (h : Nat) (a b : T h) (js : List (T h)), JoinR h a b js → AllT P h a → AllT P h b → ∀ s ∈ js, AllT P h s
 | 0, a, b, js, ⟨_, hl⟩, _, _ => zlu h0 hl
 | h + 1, a, b, js, ⟨h1, hl⟩, za, zb => zp2 h0 h1 hl fun k hk => by
   rcases List.mem_append.1 hk with hk | hk
   ·exact za.2 _ hk
   ·exact zb.2 _ hk
theorem zlE {h : Nat} {ks ks' : List (T h)} {i : Nat} (hj : JoinedR h ks i ks') (z : ∀ k ∈ ks, AllT P h k) : ∀ k ∈ ks', AllT P h k := by
 obtain ⟨c, hc, ⟨_, rfl⟩ | ⟨_, a, b, js, ha, hb, hr, rfl⟩⟩ := hj
 ·exact z
 ·intro k hk
  rcases List.mem_append.1 hk with hk | hk
  ·rcases List.mem_append.1 hk with hk | hk
   ·exact z k (List.mem_of_mem_take hk)
   ·exact zpF h0 h a b js hr (z a (List.mem_of_getElem? ha)) (z b (List.mem_of_getElem? hb)) k hk
  ·exact z k (List.mem_of_mem_drop hk)
theorem zoY : ∀ (h : Nat) (t : T h) (k : KeyD) (ts : List (T h)), DelR h t k ts → AllT P h t → ∀ s ∈ ts, AllT P h s
 | 0, t, k, ts, ⟨_, _, _, _, hl⟩, z => zlu h0 hl
 | h + 1, t, k, ts, ⟨q, c, us, ks, hq, hc, hs, hj, hts, hl⟩, z => zp2 h0 hts hl (zlE h0 hj fun x hx => by
   rcases List.mem_append.1 hx with hx | hx
   ·rcases List.mem_append.1 hx with hx | hx
    ·exact z.2 _ (List.mem_of_mem_take hx)
    ·exact zoY h c k us hs (z.2 _ (List.mem_of_getElem? hc)) x hx
   ·exact z.2 _ (List.mem_of_mem_drop hx))
theorem setS_p {H : Nat} {t : T H} {e : EntD} {a : AT} (hs : SetS t e a) (z : AllT P H t) : AllT P a.h a.t := by
 obtain ⟨ts, h1, ⟨s, e1, e2⟩ | ⟨x, y, d, e1, hd, e2⟩⟩ := hs
 ·subst e1 e2
  exact zkJ h0 H t e [s] h1 z s (.head _)
 ·subst e1 e2
  exact ⟨h0 (H + 1) ((d, [x, y]) : NodeD × List (T H)) hd.a, fun k hk => zkJ h0 H t e [x, y] h1 z k hk⟩
theorem delS_p {H : Nat} {t : T H} {k : KeyD} {a : Option AT} (hs : DelS t k a) (z : AllT P H t) : ∀ b, a = some b → AllT P b.h b.t := by
 obtain ⟨ts, h1, ⟨_, e⟩ | ⟨s, b, e1, e2, h2⟩⟩ := hs
 ·intro b hb; rw [e] at hb; cases hb
 ·intro b' hb'
  rw [e2] at hb'
  obtain rfl := Option.some.inj hb'
  subst e1
  have hz := zoY h0 H t k [s] h1 z s (.head _)
  rcases h2 with rfl | h2
  ·exact hz
  ·cases H with
   | zero => cases h2
   | succ H =>
     have e3 : (s.2.map fun k => (⟨H, k⟩ : AT)) = [b] := h2
     have hm : b ∈ s.2.map fun k => (⟨H, k⟩ : AT) := by rw [e3]; exact .head _
     obtain ⟨x, hx, rfl⟩ := List.mem_map.1 hm
     exact hz.2 x hx
def AllO (P : (h : Nat) → T h → Prop) (a : Option AT) : Prop := ∀ b, a = some b → AllT P b.h b.t
theorem zoy {a : Option AT} {M : List EntD} {o : OpD} {r : StepO} (hr : StepI a M o r) (z : AllO P a) : AllO P r.a := by
 obtain ⟨p, hp, hM, hd, hs⟩ := hr.p
 cases hdel : o.del with
 | true =>
   have h1 := hd hdel
   cases a with
   | none => intro b hb; rw [show r.a = none from h1] at hb; cases hb
   | some a =>
     obtain ⟨h2, h3⟩ := h1
     by_cases hf : tB ((keysOf M)[p]? = some o.e.k) = true
     ·exact delS_p h0 (h3 hf) (z a rfl)
     ·rw [h2 (by simpa using hf)]; exact z
 | false =>
   have h1 := hs hdel
   cases a with
   | none =>
     obtain ⟨d, h2, h3⟩ := h1
     intro b hb
     rw [h2] at hb
     obtain rfl := Option.some.inj hb
     exact h0 0 ((d, [o.e]) : NodeD × List EntD) h3.a
   | some a =>
     obtain ⟨c, h2, h3⟩ := h1
     intro b hb
     rw [h2] at hb
     obtain rfl := Option.some.inj hb
     exact setS_p h0 h3 (z a rfl)
end
theorem zo9 {a : Option AT} {M : List EntD} {o : OpD} {r : StepO} (hr : StepI a M o r) (hM : ∀ e ∈ M, e.Bd) (ho : o.e.Bd) : ∀ e ∈ r.M, e.Bd := by
 obtain ⟨p, hp, e, _⟩ := hr.p
 intro x hx
 rw [e] at hx
 split at hx
 ·unfold delAt at hx
  split at hx
  ·rcases List.mem_append.1 hx with hx | hx
   ·exact hM x (List.mem_of_mem_take hx)
   ·exact hM x (List.mem_of_mem_drop hx)
  ·exact hM x hx
 ·unfold setAt at hx
  split at hx
  ·rcases List.mem_or_eq_of_mem_set hx with hx | rfl
   ·exact hM x hx
   ·exact ho
  ·rcases List.mem_append.1 hx with hx | hx
   ·rcases List.mem_append.1 hx with hx | hx
    ·exact hM x (List.mem_of_mem_take hx)
    ·obtain rfl := m1 hx; exact ho
   ·exact hM x (List.mem_of_mem_drop hx)
theorem zm6 {a : Option AT} {M : List EntD} {o : OpD} {r : StepO} (hr : StepI a M o r) : r.M.length ≤ M.length + 1 := by
 obtain ⟨p, hp, hM, _⟩ := hr.p
 have hpl := hp.le
 rw [List.length_map] at hpl
 rw [hM]
 split
 ·have := (ze7 (t := o.e.k) hpl).1; omega
 ·exact (zgU hpl).2
end Go.Proofs.YtaghmffgoomebaaGreat.Tr
