/- tree.joined. -/
import Derived.Test.YtaghmffgoomebaaGreatSk
import Derived.Test.YtaghmffgoomebaaGreatTh
import Derived.Test.YtaghmffgoomebaaGreatRp
import Derived.Test.YtaghmffgoomebaaGreatNdO
import Derived.Test.YtaghmffgoomebaaGreatGxP
set_option linter.unusedVariables false
set_option linter.unusedSimpArgs false
namespace Go.Proofs.YtaghmffgoomebaaGreat.Tw
open Go.RowKit Mem Nd Gx Sk
open Tr hiding T row
set_option maxRecDepth 100000
set_option maxHeartbeats 4000000
section
variable {X : Cx} {f : Fr} {O R S : List Fact} {ks k : List KI} {ops lo : List Oper} {m : Nat} {ls : List Bool} {C : Fr → List Fact → List Fact → Prop}
theorem Kn.head {E : List Nat} {w0 w : World} {q : SlV} {L : List Nat} (hk : Kn E w0 w O R) (hm : headF q L ∈ R) (hs : sl q.A 1 PE L ∈ R) (hL : 0 < L.length) : ∃ g, q.A = some ⟨g, 0, none⟩ ∧ Kn E w0 w O (blk g (flatF 1 PE L) 53 :: R) := by
 obtain ⟨b, off, e, _⟩ := (hk.pR _ hs : Sl w q.A 1 PE L) hL
 obtain ⟨g, e2, hg2⟩ := (hk.pR _ hm : (headF q L).p w) _ e
 have hb : ∀ b, (blk g (flatF 1 PE L) 53).S b → (headF q L).S b := fun b hb => ⟨_, e, by rw [e2]; exact Eq.symm hb⟩
 exact ⟨g, by rw [e, e2], hk.addR _ hg2 (fun b h => hk.ltR _ hm b (hb b h)) (fun χ hχ b h1 h2 => hk.disR χ hχ _ hm b h1 (hb b h2))⟩
theorem zl4 {q : SlV} {L : List Nat} (hm : headF q L ∈ R) (hs : sl q.A 1 PE L ∈ R) (hL : 0 < L.length) (hg : ∀ g, q.A = some ⟨g, 0, none⟩ → GB X S ops m ls C k f O (blk g (flatF 1 PE L) 53 :: R)) : GB X S ops m ls C k f O R := .mk fun a w hr hk => by
 obtain ⟨g, e, hk'⟩ := Kn.head hk hm hs hL
 exact (hg g e).out a w hr hk'
end
theorem zg1 {I J : List NodeD → Prop} {w : World} {e : Ending} {w' : World} (h : ∀ ds, I ds → J ds) : RetN I w e w' → RetN J w e w' := fun ⟨s, ⟨h1, h2⟩, h3, h4, h5⟩ => ⟨s, ⟨h1, h s.ds h2⟩, h3, h4, h5⟩
theorem zn8 : ∀ {h : Nat} {a b : Tr.T h} {js : List (Tr.T h)}, JoinR h a b js → Der [allF (js.map (nd h)) nodeF, treeF h a, treeF h b] (allF js (treeF h))
 | 0, a, b, js, hj => zco.trans fun ψ hψ => by
   obtain rfl := m1 hψ
   exact Der.mem (.head _)
 | h + 1, a, b, js, hj => (zcP hj.1).trans fun ψ hψ => by
   rcases List.mem_cons.1 hψ with rfl | hψ
   ·exact Der.mem (.head _)
   ·obtain rfl := m1 hψ
    refine Der.all fun x hx => ?_
    rcases List.mem_append.1 hx with hx | hx
    ·exact (zcB hx).trans fun χ hχ => by
      obtain rfl := m1 hχ
      exact Der.mem (.tail _ (.head _))
    ·exact (zcB hx).trans fun χ hχ => by
      obtain rfl := m1 hχ
      exact Der.mem (.tail _ (.tail _ (.head _)))
theorem zjg : ∀ {h : Nat} (a b : Tr.T h) (w : World), Tr.Ok h a → Tr.Ok h b → ln h a ≤ 6 → ln h b ≤ 6 → Rd1 w (treeF h a) → Rd1 w (treeF h b) →
 Calls Tryz.prog 99 [.pointer (some ⟨(nd h a).g, 0, none⟩), .pointer (some ⟨(nd h b).g, 0, none⟩)].toArray w (RetN (fun ds => ∃ js : List (Tr.T h), js.map (nd h) = ds ∧ JoinR h a b js) w)
 | 0, a, b, w, oa, ob, la, lb, ra, rb => by
   have la' : a.2.length ≤ 6 := la
   have lb' : b.2.length ≤ 6 := lb
   refine (zlF (nd 0 a) (nd 0 b) a.2 b.2 w oa.1 ob.1 (by omega) ra rb).mono fun e w' => zg1 fun ds hds => ?_
   obtain ⟨ts, e1, e2, e3⟩ := zfe hds
   exact ⟨ts, e1, e2, e3⟩
 | h + 1, a, b, w, oa, ob, la, lb, ra, rb => by
   have la' : a.2.length ≤ 6 := la
   have lb' : b.2.length ≤ 6 := lb
   have hab : Rd1 w (allF (a.2 ++ b.2) (treeF h)) := by
    refine Rd1.all fun x hx => ?_
    rcases List.mem_append.1 hx with hx | hx
    ·exact (zgN ra).open hx
    ·exact (zgN rb).open hx
   have oab : ∀ x ∈ a.2 ++ b.2, Tr.Ok h x := fun x hx => by
    rcases List.mem_append.1 hx with hx | hx
    ·exact oa.2.2 x hx
    ·exact ob.2.2 x hx
   have e0 : a.2.map (nd h) ++ b.2.map (nd h) = (a.2 ++ b.2).map (nd h) := List.map_append.symm
   refine (zj8 (nd (h + 1) a) (nd (h + 1) b) (a.2.map (nd h)) (b.2.map (nd h)) w oa.1 ob.1 (by rw [List.length_map, List.length_map]; omega) (fun d hd => ?_) (zdS ra) (zdS rb) (by rw [e0]; exact zm0 hab)).mono fun e w' => zg1 fun ds hds => ?_
   ·rw [e0] at hd
    obtain ⟨y, hy, rfl⟩ := List.mem_map.1 hd
    exact ⟨by rw [← zeK (oab y hy)]; exact zi6 (oab y hy), zch (oab y hy)⟩
   ·rw [e0] at hds
    obtain ⟨ts, e1, e2, e3⟩ := zd6 hds
    exact ⟨ts, e1, e2, e3⟩
theorem zdC {h : Nat} {a b : Tr.T h} {js : List (Tr.T h)} (hj : JoinR h a b js) (oa : Tr.Ok h a) (la : ln h a ≤ 6) (lb : ln h b ≤ 6) : 1 ≤ js.length ∧ js.length ≤ 2 := by
 have key : ∀ {α : Type} (x y : List α) (ts : List (NodeD × List α)), ts.map (fun s => s.2) = cutN (x ++ y) → 0 < x.length → x.length ≤ 6 → y.length ≤ 6 → 1 ≤ ts.length ∧ ts.length ≤ 2 := by
  intro α x y ts e h0 h1 h2
  have hl := zde e
  rcases zcC (L := x ++ y) (by rw [List.length_append]; omega) (by rw [List.length_append]; omega) with ⟨h3, _⟩ | ⟨h3, _⟩
  ·rw [h3] at hl; have hl' : ts.length = 1 := hl; omega
  ·omega
 cases h with
 | zero => exact key a.2 b.2 js hj.1 oa.2 la lb
 | succ h => exact key a.2 b.2 js hj.1 oa.2.1 la lb
structure JoV (h : Nat) where
 v : Value
 ks : List (Tr.T h)
theorem zj7 {h : Nat} (ks : List (Tr.T h)) (i : Nat) (base g n c : Nat) (w : World) (hn : n = ks.length) (hi : i < ks.length) (h9 : ks.length ≤ 12) (ok : ∀ k ∈ ks, Tr.Ok h k) (sz : ∀ k ∈ ks, ln h k ≤ 6) (hb : base ≤ w.heap.size) (hO : OwnL w base 53 1 (.slice (some ⟨g, 0, none⟩) n c) PE ((ks.map (nd h)).map NodeD.g)) (hF : Rd1 w (allF ks (treeF h))) (hdis : ¬ (allF ks (treeF h)).S g) :
 Calls Tryz.prog 69 [.slice (some ⟨g, 0, none⟩) n c, .int .i64 i].toArray w (RetO base 53 1 (.slice (some ⟨g, 0, none⟩) n c) PE (fun s : JoV h => JoinedR h ks i s.ks) (fun s => s.v) (fun s => (s.ks.map (nd h)).map NodeD.g) (fun s => [allF s.ks (treeF h)]) [allF ks (treeF h)] w) := by
 have hk0 : Kn (ownE (.slice (some ⟨g, 0, none⟩) n c)) w w [own base 53 1 (.slice (some ⟨g, 0, none⟩) n c) PE ((ks.map (nd h)).map NodeD.g)] [allF ks (treeF h)] := by
  refine (Kn.startG hO).addR _ hF.1 hF.2 (fun φ hφ b hb hb' => ?_)
  obtain rfl := m1 hφ
  have e2 : (Value.slice (some ⟨g, 0, none⟩) n c).ownBlock = some b := hb
  injection e2 with e2
  exact hdis (by rw [show g = b from e2]; exact hb')
 have hKl : ((ks.map (nd h)).map NodeD.g).length = ks.length := by rw [List.length_map, List.length_map]
 have hat : ∀ {j : Nat} {x : Tr.T h}, ks[j]? = some x → ((ks.map (nd h)).map NodeD.g)[j]? = some (nd h x).g := fun hx => by rw [List.getElem?_map, List.getElem?_map, hx]; rfl
 obtain ⟨x, hx⟩ : ∃ x, ks[i]? = some x := ⟨ks[i], List.getElem?_eq_getElem hi⟩
 have hxm := List.mem_of_getElem? hx
 refine zab T (ownE (.slice (some ⟨g, 0, none⟩) n c)) [own base 53 1 (.slice (some ⟨g, 0, none⟩) n c) PE ((ks.map (nd h)).map NodeD.g)] [allF ks (treeF h)] Tryz.func69 rfl Tryz.ntmps69 rfl hk0 ?_
 (repeat (refine gG ?_; try intro _))
 refine g_yd rfl rfl ((zaG (S := [own base 53 1 (.slice (some ⟨g, 0, none⟩) n c) PE ((ks.map (nd h)).map NodeD.g)]) (o0 := 0) (sz := 1) (enc := PE) (L := (ks.map (nd h)).map NodeD.g) hT i (nd h x).g 0 rfl rfl rfl (by omega) (hat hx) (zb6 mE) rfl rfl).ydS sF) ?_
 refine zaK 8 (.pointer (some ⟨(nd h x).g, 0, none⟩)) rfl rfl ?_
 refine zeZ [allF ks (treeF h)] ((Der.elem (Der.mem (.head _)) hxm)) sS ?_
 have hl := zeK (ok x hxm)
 have hKn : (nd h x).K.n = ln h x := by rw [(zch (ok x hxm)).K.n, hl]
 refine cB (fun w hk => zaX (nd h x).g [] (nd h x).leaf (nd h x).K (nd h x).V (nd h x).C (nd h x).a w (zbQ (zdS (hk.rR (φ := treeF h x) mE))).1) ?_
 by_cases hfine : 3 ≤ ln h x ∨ ks.length < 2
 ·(repeat' (first | (refine gH ?_; try intro _) | (refine gS ?_ ?_ <;> intro _) | fail))
  ·refine zad hT rfl rfl (.tmp rfl .nil) (fun w' hk => ?_)
   exact RetO.mk ⟨.slice (some ⟨g, 0, none⟩) n c, ks⟩ ⟨x, hx, .inl ⟨hfine, rfl⟩⟩ rfl hk mE (by show 0 < _; rw [hKl]; omega) (fun φ hφ => by
    obtain rfl := m1 hφ
    exact ⟨mE, New.self (.head _)⟩)
  ·refine zad hT rfl rfl (.tmp rfl .nil) (fun w' hk => ?_)
   exact RetO.mk ⟨.slice (some ⟨g, 0, none⟩) n c, ks⟩ ⟨x, hx, .inl ⟨hfine, rfl⟩⟩ rfl hk mE (by show 0 < _; rw [hKl]; omega) (fun φ hφ => by
    obtain rfl := m1 hφ
    exact ⟨mE, New.self (.head _)⟩)
 ·have hj1 : i - 1 + 1 < ks.length := by omega
  obtain ⟨a, ha⟩ : ∃ a, ks[i - 1]? = some a := ⟨ks[i - 1], List.getElem?_eq_getElem (by omega)⟩
  obtain ⟨b, hb1⟩ : ∃ b, ks[i - 1 + 1]? = some b := ⟨ks[i - 1 + 1], List.getElem?_eq_getElem hj1⟩
  have ham := List.mem_of_getElem? ha
  have hbm := List.mem_of_getElem? hb1
  (repeat' (first | (refine gH ?_; try intro _) | (refine gS ?_ ?_ <;> intro _) | fail))
  refine g_yd rfl rfl (Ys.yd (zfo ((i - 1 : Nat) : Int) rfl rfl rfl (by split <;> omega))) ?_
  obtain ⟨i1, hi1⟩ : ∃ i1, i1 = i - 1 := ⟨_, rfl⟩
  rw [← hi1] at ha hb1 hj1 ⊢
  (repeat (refine gG ?_; try intro _))
  refine zaY [allF ks (treeF h)] ((Der.elem (Der.mem (.head _)) ham)) sS ?_
  refine zaY [allF ks (treeF h)] ((Der.elem (Der.mem (.head _)) hbm)) sS ?_
  refine zas [] (Cut _ (fun p : { p : NS × Value // (p.1.s.Ok p.1.ds.length ∧ ∃ js : List (Tr.T h), js.map (nd h) = p.1.ds ∧ JoinR h a b js) ∧ New w [] (allF p.1.ds nodeF) } => [(4, p.1.2)])
   (fun p => [own base 53 1 p.1.2 PE (((ks.map (nd h)).map NodeD.g).take i1 ++ p.1.1.ds.map NodeD.g ++ ((ks.map (nd h)).map NodeD.g).drop (i1 + 2))])
   (fun p => [allF p.1.1.ds nodeF, treeF h b, treeF h a, allF ks (treeF h)])) rfl rfl kR ?_ (zaD fun p => ?_)
  ·skip
   refine gY hT 0 ?_
   refine gY hT 1 ?_
   refine gY hT 2 ?_
   refine gY hT 3 ?_
   try (refine zam 23 (.int .i64 ((i1 + 2 : Nat) : Int)) rfl rfl ?_)
   refine gY hT 4 ?_
   refine gY hT 5 ?_
   refine gY hT 6 ?_
   refine gY hT 8 ?_
   refine gY hT 9 ?_
   refine gY hT 10 ?_
   refine gY hT 11 ?_
   refine gA2 7 12 ?_ ?_
   ·refine zaC rfl ((zaG (S := [own base 53 1 (.slice (some ⟨g, 0, none⟩) n c) PE ((ks.map (nd h)).map NodeD.g)]) (o0 := 0) (sz := 1) (enc := PE) (L := (ks.map (nd h)).map NodeD.g) hT i1 (nd h a).g 0 rfl rfl rfl (by omega) (hat ha) (zb6 mE) rfl rfl).ydS sF) ?_
    refine ⟨sF, ?_⟩
    try (refine zam 27 (.pointer (some ⟨(nd h a).g, 0, none⟩)) rfl rfl ?_)
    refine gP 12 ?_
    refine zaC rfl ((zaG (S := [own base 53 1 (.slice (some ⟨g, 0, none⟩) n c) PE ((ks.map (nd h)).map NodeD.g)]) (o0 := 0) (sz := 1) (enc := PE) (L := (ks.map (nd h)).map NodeD.g) hT (i1 + 1) (nd h b).g 0 rfl rfl rfl (by omega) (hat hb1) (zb6 mE) rfl rfl).ydS sF) ?_
    refine ⟨sF, ?_⟩
    try (refine zam 32 (.pointer (some ⟨(nd h b).g, 0, none⟩)) rfl rfl ?_)
    refine gP 13 ?_
    refine za4 (fun w hk => zjg a b w (ok a ham) (ok b hbm) (sz a ham) (sz b hbm) (hk.rR mE) (hk.rR mE)) rfl rfl rfl rfl rfl kR sS (fun _ => rfl) (fun p hp hn1 => ?_)
    refine ⟨sF, ?_⟩
    (obtain ⟨⟨pA, pn, pc⟩, ds⟩ := p; obtain ⟨hp1, js, hjs, hJ⟩ := hp; have hjl := zdC hJ (ok a ham) (sz a ham) (sz b hbm); have hdl : ds.length = js.length := (by have := congrArg List.length hjs; rw [List.length_map] at this; exact this.symm); have hpn : pn = ds.length := hp1.n; have hpc : pn ≤ pc := hp1.c; refine zl4 (q := ⟨pA, pn, pc⟩) (L := ds.map NodeD.g) mE mE (by rw [List.length_map]; omega) (fun g0 eqA => ?_); replace eqA : pA = some ⟨g0, 0, none⟩ := eqA; subst eqA)
    refine gP 14 ?_
    refine zbZ (fun w hk => zcu base g n c ((ks.map (nd h)).map NodeD.g) i1 (i1 + 2) (ds.map NodeD.g) g0 pn pc w (hk.pO (own base 53 1 (.slice (some ⟨g, 0, none⟩) n c) PE ((ks.map (nd h)).map NodeD.g)) mE) (by omega) (by rw [List.length_map]; omega) (by rw [List.length_map]; exact hpn) hpc (by omega) (by omega) (by omega) (Nat.le_trans hb hk.size) (hk.pR (blk g0 (flatF 1 PE (ds.map NodeD.g)) 53) mE) (fun hne => hk.disR (own base 53 1 (.slice (some ⟨g, 0, none⟩) n c) PE ((ks.map (nd h)).map NodeD.g)) mE (blk g0 (flatF 1 PE (ds.map NodeD.g)) 53) mE g rfl hne)) rfl rfl rfl rfl rfl kR uD (fun v2 => ?_)
    refine ⟨sF, ?_⟩
    refine gY hT 15 ?_
    refine zak dK ?_
    exact ⟨⟨(⟨⟨_, pn, pc⟩, ds⟩, v2), ⟨hp1, js, hjs, hJ⟩, New.of (hn1 _ (.tail _ (.head _)))⟩, fS, sA, sS⟩
   ·refine zaC rfl ((zaG (S := [own base 53 1 (.slice (some ⟨g, 0, none⟩) n c) PE ((ks.map (nd h)).map NodeD.g)]) (o0 := 0) (sz := 1) (enc := PE) (L := (ks.map (nd h)).map NodeD.g) hT (i1 + 1) (nd h b).g 0 rfl rfl rfl (by omega) (hat hb1) (zb6 mE) rfl rfl).ydS sF) ?_
    refine ⟨sF, ?_⟩
    try (refine zam 32 (.pointer (some ⟨(nd h b).g, 0, none⟩)) rfl rfl ?_)
    refine gP 7 ?_
    refine zaC rfl ((zaG (S := [own base 53 1 (.slice (some ⟨g, 0, none⟩) n c) PE ((ks.map (nd h)).map NodeD.g)]) (o0 := 0) (sz := 1) (enc := PE) (L := (ks.map (nd h)).map NodeD.g) hT i1 (nd h a).g 0 rfl rfl rfl (by omega) (hat ha) (zb6 mE) rfl rfl).ydS sF) ?_
    refine ⟨sF, ?_⟩
    try (refine zam 27 (.pointer (some ⟨(nd h a).g, 0, none⟩)) rfl rfl ?_)
    refine gP 13 ?_
    refine za4 (fun w hk => zjg a b w (ok a ham) (ok b hbm) (sz a ham) (sz b hbm) (hk.rR mE) (hk.rR mE)) rfl rfl rfl rfl rfl kR sS (fun _ => rfl) (fun p hp hn1 => ?_)
    refine ⟨sF, ?_⟩
    (obtain ⟨⟨pA, pn, pc⟩, ds⟩ := p; obtain ⟨hp1, js, hjs, hJ⟩ := hp; have hjl := zdC hJ (ok a ham) (sz a ham) (sz b hbm); have hdl : ds.length = js.length := (by have := congrArg List.length hjs; rw [List.length_map] at this; exact this.symm); have hpn : pn = ds.length := hp1.n; have hpc : pn ≤ pc := hp1.c; refine zl4 (q := ⟨pA, pn, pc⟩) (L := ds.map NodeD.g) mE mE (by rw [List.length_map]; omega) (fun g0 eqA => ?_); replace eqA : pA = some ⟨g0, 0, none⟩ := eqA; subst eqA)
    refine gP 14 ?_
    refine zbZ (fun w hk => zcu base g n c ((ks.map (nd h)).map NodeD.g) i1 (i1 + 2) (ds.map NodeD.g) g0 pn pc w (hk.pO (own base 53 1 (.slice (some ⟨g, 0, none⟩) n c) PE ((ks.map (nd h)).map NodeD.g)) mE) (by omega) (by rw [List.length_map]; omega) (by rw [List.length_map]; exact hpn) hpc (by omega) (by omega) (by omega) (Nat.le_trans hb hk.size) (hk.pR (blk g0 (flatF 1 PE (ds.map NodeD.g)) 53) mE) (fun hne => hk.disR (own base 53 1 (.slice (some ⟨g, 0, none⟩) n c) PE ((ks.map (nd h)).map NodeD.g)) mE (blk g0 (flatF 1 PE (ds.map NodeD.g)) 53) mE g rfl hne)) rfl rfl rfl rfl rfl kR uD (fun v2 => ?_)
    refine ⟨sF, ?_⟩
    refine gY hT 15 ?_
    refine zak dK ?_
    exact ⟨⟨(⟨⟨_, pn, pc⟩, ds⟩, v2), ⟨hp1, js, hjs, hJ⟩, New.of (hn1 _ (.tail _ (.head _)))⟩, fS, sA, sS⟩
  ·obtain ⟨⟨⟨⟨pA, pn, pc⟩, ds⟩, v2⟩, ⟨hp1, js, hjs, hJ⟩, hnew⟩ := p
   dsimp only at hp1 hjs hnew
   subst hjs
   change GK _ _ [(4, v2)] [own base 53 1 v2 PE (((ks.map (nd h)).map NodeD.g).take i1 ++ (js.map (nd h)).map NodeD.g ++ ((ks.map (nd h)).map NodeD.g).drop (i1 + 2))] [allF (js.map (nd h)) nodeF, treeF h b, treeF h a, allF ks (treeF h)]
   have hjl := zdC hJ (ok a ham) (sz a ham) (sz b hbm)
   have eV : ((ks.map (nd h)).map NodeD.g).take i1 ++ (js.map (nd h)).map NodeD.g ++ ((ks.map (nd h)).map NodeD.g).drop (i1 + 2) = ((ks.take i1 ++ js ++ ks.drop (i1 + 2)).map (nd h)).map NodeD.g := by
    simp only [List.map_append, List.map_take, List.map_drop]
   rw [eV]
   have hD : Der [allF (js.map (nd h)) nodeF, treeF h b, treeF h a, allF ks (treeF h)] (allF (ks.take i1 ++ js ++ ks.drop (i1 + 2)) (treeF h)) := by
    refine Der.all fun y hy => ?_
    rcases List.mem_append.1 hy with hy | hy
    ·rcases List.mem_append.1 hy with hy | hy
     ·exact Der.elem (Der.mem (.tail _ (.tail _ (.tail _ (.head _))))) (List.mem_of_mem_take hy)
     ·refine ((zn8 hJ).elem hy).trans fun ψ hψ => ?_
      rcases List.mem_cons.1 hψ with rfl | hψ
      ·exact Der.mem (.head _)
      rcases List.mem_cons.1 hψ with rfl | hψ
      ·exact Der.mem (.tail _ (.tail _ (.head _)))
      obtain rfl := m1 hψ
      exact Der.mem (.tail _ (.head _))
    ·exact Der.elem (Der.mem (.tail _ (.tail _ (.tail _ (.head _))))) (List.mem_of_mem_drop hy)
   refine zaY [allF (js.map (nd h)) nodeF, treeF h b, treeF h a, allF ks (treeF h)] hD sS ?_
   (repeat (refine gG ?_; try intro _))
   refine zad hT rfl rfl (.tmp rfl .nil) (fun w' hk => ?_)
   refine RetO.mk ⟨v2, ks.take i1 ++ js ++ ks.drop (i1 + 2)⟩ ⟨x, hx, .inr ⟨hfine, a, b, js, by rw [← hi1]; exact ha, by rw [← hi1]; exact hb1, hJ, by rw [hi1]⟩⟩ rfl hk mE (by show 0 < _; rw [List.length_map, List.length_map, List.length_append, List.length_append]; omega) (fun φ hφ => ?_)
   obtain rfl := m1 hφ
   refine ⟨mE, hD.new fun ψ hψ => ?_⟩
   rcases List.mem_cons.1 hψ with rfl | hψ
   ·exact New.of hnew
   rcases List.mem_cons.1 hψ with rfl | hψ
   ·exact (Der.elem (Der.mem (.head _)) hbm : Der [allF ks (treeF h)] (treeF h b)).new fun χ hχ => New.self hχ
   rcases List.mem_cons.1 hψ with rfl | hψ
   ·exact (Der.elem (Der.mem (.head _)) ham : Der [allF ks (treeF h)] (treeF h a)).new fun χ hχ => New.self hχ
   obtain rfl := m1 hψ
   exact New.self (.head _)
end Go.Proofs.YtaghmffgoomebaaGreat.Tw
