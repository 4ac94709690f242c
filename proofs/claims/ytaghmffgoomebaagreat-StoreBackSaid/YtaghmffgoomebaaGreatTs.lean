/- tree.Set. -/
import Derived.Test.YtaghmffgoomebaaGreatSk
import Derived.Test.YtaghmffgoomebaaGreatTh
import Derived.Test.YtaghmffgoomebaaGreatRp
import Derived.Test.YtaghmffgoomebaaGreatNdO
set_option linter.unusedVariables false
set_option linter.unusedSimpArgs false
namespace Go.Proofs.YtaghmffgoomebaaGreat.Tw
open Go.RowKit Mem Nd Gx Sk
open Tr hiding T row
set_option maxRecDepth 100000
set_option maxHeartbeats 4000000
theorem zer (d : NodeD) : Der [blk d.g [.bool d.leaf, d.K.v, d.V.v, d.C.v, .int .u32 d.a] 109, sl d.K.A 3 KE d.Ks, sl d.V.A 1 (IE .u32) d.Vs, sl d.C.A 1 PE d.Cs] (nodeF d) :=
 ⟨fun w hw φ hφ => hw φ hφ, fun b ⟨φ, hφ, hb⟩ => ⟨φ, hφ, hb⟩⟩
section
variable {X : Cx} {f : Fr} {O R : List Fact} {ks k : List KI} {ops lo : List Oper}
theorem zlU {q : SlV} {L : List Nat} (hm : headF q L ∈ R) (hs : sl q.A 1 PE L ∈ R) (hL : 0 < L.length) (hg : ∀ g, q.A = some ⟨g, 0, none⟩ → GK X ks f O (blk g (flatF 1 PE L) 53 :: R)) : GK X ks f O R := .mk fun a w hr hk => by
 obtain ⟨b, off, e, _⟩ := (hk.pR _ hs : Sl w q.A 1 PE L) hL
 obtain ⟨g, e2, hg2⟩ := (hk.pR _ hm : (headF q L).p w) _ e
 have hb : ∀ b, (blk g (flatF 1 PE L) 53).S b → (headF q L).S b := fun b hb => ⟨_, e, by rw [e2]; exact Eq.symm hb⟩
 exact (hg g (by rw [e, e2])).out a w hr (hk.addR _ hg2 (fun b h => hk.ltR _ hm b (hb b h)) (fun χ hχ b h1 h2 => hk.disR χ hχ _ hm b h1 (hb b h2)))
end
structure SetL where
 h : Nat
 c : Tr.T h
 ts : List (Tr.T h)
 A : List EntD
 C : List EntD
 xs : List (Nat × Nat)
 q : SlV
 g : Nat
def SetL.gs (z : SetL) : List Nat := (z.ts.map (nd z.h)).map NodeD.g
structure SetI {H : Nat} (t : Tr.T H) (e : EntD) (w : World) (z : SetL) : Prop where
 p : Pth t e.k z.h z.c z.xs z.A z.C
 r : SetR z.h z.c e z.ts
 q : z.q.Ok z.ts.length
 new : New w [treeF H t] (allF z.ts (treeF z.h))
structure SetO where
 a : AT
 was : Int
 had : Bool
structure SetP {H : Nat} (t : Tr.T H) (e : EntD) (L : List EntD) (s : SetO) : Prop where
 set : SetS t e s.a
 p : ∃ p, PosK (keysOf L) e.k p ∧ Has s.a.h s.a.t (setAt L e p) ∧ s.had = tB ((keysOf L)[p]? = some e.k) ∧ s.was = (if s.had = true then (L.getD p default).a else 0)
theorem zpd {H : Nat} (t : Tr.T H) (e : EntD) (L : List EntD) (tg : Nat) (w : World) (hh : Has H t L) (h9 : L.length ≤ 160) (hB : w.heap[tg]? = some (.cells [.pointer (some ⟨(nd H t).g, 0, none⟩), .int .i64 (L.length : Int)].toArray 55 (0, 0))) (hF : Rd1 w (treeF H t)) (hdis : ¬ (treeF H t).S tg) :
 Calls Tryz.prog 33 [.pointer (some ⟨tg, 0, none⟩), e.val].toArray w (RetX tg 55 (SetP t e L) (fun s => .tuple #[.int .u32 s.was, .bool s.had]) (fun s => [.pointer (some ⟨(nd s.a.h s.a.t).g, 0, none⟩), .int .i64 ((if s.had = true then L.length else L.length + 1 : Nat) : Int)]) (fun s => [treeF s.a.h s.a.t]) [treeF H t] w) := by
 have ha : AscK (keysOf (ents H t)) := by rw [hh.row]; exact hh.asc
 have hH : H ≤ 3 := hh.low h9
 have hk0 : Kn [tg] w w [blk tg [.pointer (some ⟨(nd H t).g, 0, none⟩), .int .i64 (L.length : Int)] 55] [treeF H t] := (Kn.startW hB).addR _ hF.1 hF.2 (fun φ hφ b hb hb' => by
  obtain rfl := m1 hφ
  have : b = tg := hb
  subst this
  exact hdis hb')
 refine zab T [tg] [blk tg [.pointer (some ⟨(nd H t).g, 0, none⟩), .int .i64 (L.length : Int)] 55] [treeF H t] Tryz.func33 rfl Tryz.ntmps33 rfl hk0 ?_
 (repeat (refine gG ?_; try intro _))
 rename_i g3
 refine cR (fun w hk => zks t e.k tg L.length w hh.ok hh.size ha (by omega) (hk.rO mE) (hk.rR mE)) (fun pw hp => ?_)
 obtain ⟨sg, xs, lf, A, C⟩ := pw
 replace hp : Pth t e.k 0 lf xs A C := hp
 have hok := hp.ok hh.ok
 have hasc := hp.asc ha
 have hl3 := hp.len
 have hsz := zf0 (zdu hp hh.size)
 have hlf : IsLeafW lf.2 (nd 0 lf) := hok.1
 have hl6 : lf.2.length ≤ 6 := hsz
 (repeat (refine gG ?_; try intro _))
 refine zeZ [treeF H t] ((zdO lf).trans fun ψ hψ => by obtain rfl := m1 hψ; exact zd3 hp) sS ?_
 refine cR (fun w hk => zmQ (nd 0 lf) lf.2 e w hlf (by omega) hasc (hk.rR mE)) (fun r hr => ?_)
 obtain ⟨⟨rA, rn, rc⟩, rM, was, had⟩ := r
 obtain ⟨hr1, p, hpp, hhad, hM, hwas⟩ := hr
 dsimp only at hr1 hhad hM hwas
 obtain ⟨hL, hpL, hfd, hget⟩ := zkq hp hh hpp
 have hML : rM.length ≤ 7 := by
  have := hpp.le
  rw [List.length_map] at this
  rw [hM]
  split
  ·rw [List.length_set]; omega
  ·simp only [List.length_append, List.length_take, List.length_drop, List.length_cons, List.length_nil]; omega
 have hMs : rM = setAt lf.2 e p := by
  rw [hM]; unfold setAt
  rw [hhad]
 have hP0 : ∃ p', PosK (keysOf L) e.k p' ∧ had = tB ((keysOf L)[p']? = some e.k) ∧ was = (if had = true then (L.getD p' default).a else 0) := by
  refine ⟨A.length + p, hpL, by rw [hhad]; exact zbU hfd.symm, ?_⟩
  rw [hwas]
  by_cases hb : had = true
  ·rw [if_pos hb, if_pos hb]
   have h1 := zaQ.1 (hhad.symm.trans hb)
   rw [List.getElem?_map] at h1
   cases hx : lf.2[p]? with
   | none => rw [hx] at h1; cases h1
   | some x => rw [getD_at hx, getD_at (hget x hx)]
  ·rw [if_neg hb, if_neg hb]
 obtain ⟨N, hN⟩ : ∃ N : Nat, N = (if had = true then L.length else L.length + 1) := ⟨_, rfl⟩
 (repeat (refine gG ?_; try intro _))
 refine join1 (p := ?P) (fun J => ?r) ?g
 case r =>
  refine zaJ rfl rfl (zgP (zjK had)) (fun hf => ?_) (fun hf => ?_)
  ·(repeat (refine gG ?_; try intro _))
   rw [show (L.length : Int) + 1 = (N : Int) by rw [hN, if_neg (by rw [hf]; decide)]; rfl]
   refine g_wk (f' := [(0, .pointer (some ⟨tg, 0, none⟩)), (6, .pointer (some ⟨sg, 0, none⟩)), (9, .int .u32 was), (10, .bool had), (48, .slice rA rn rc)]) (O' := [sl rA 4 EE rM, blk sg (stC xs) 180, blk tg [.pointer (some ⟨(nd H t).g, 0, none⟩), .int .i64 (N : Int)] 55]) (R' := [nodeF (nd 0 lf), treeF H t]) fS sA sS ?_
   exact J.out
  ·(repeat (refine gG ?_; try intro _))
   rw [show (L.length : Int) = (N : Int) by rw [hN, if_pos hf]]
   refine g_wk (f' := [(0, .pointer (some ⟨tg, 0, none⟩)), (6, .pointer (some ⟨sg, 0, none⟩)), (9, .int .u32 was), (10, .bool had), (48, .slice rA rn rc)]) (O' := [sl rA 4 EE rM, blk sg (stC xs) 180, blk tg [.pointer (some ⟨(nd H t).g, 0, none⟩), .int .i64 (N : Int)] 55]) (R' := [nodeF (nd 0 lf), treeF H t]) fS sA sS ?_
   exact J.out
 case g =>
  refine g_mv rfl ?_; refine za4 (fun w hk => zck rA rn rc rM w hr1.n hr1.c (by rw [show rn = rM.length from hr1.n]; omega) (hk.pO (sl rA 4 EE rM) mE)) rfl rfl rfl rfl rfl kR sS (fun _ => rfl) (fun q0 hq0 hn0 => ?_)
  obtain ⟨q, ds⟩ := q0
  obtain ⟨hq1, hq2⟩ := hq0
  dsimp only at hq1 hq2
  obtain ⟨ts, e1, e2, e3⟩ := zfe hq2
  subst e1
  refine zeZ [allF (ts.map (nd 0)) nodeF] zco sS ?_
  have hn1 : New w [treeF H t] (allF ts (treeF 0)) := zco.new fun ψ hψ => by
   obtain rfl := m1 hψ
   exact New.of (hn0 _ (.tail _ (.head _)))
  have hS0 : SetR 0 lf e ts := ⟨p, hpp, by rw [e2, hMs], e3⟩
  (repeat (refine gG ?_; try intro _))
  refine g_mv rfl ?_; refine zaE (fun w hk => zcr sg xs w (by omega) (hk.pO (blk sg (stC xs) 180) mE)) rfl rfl rfl rfl rfl kR uD (fun ψ hψ => by first | (cases hψ; done) | (obtain rfl := m1 hψ; exact mE)) (fun _ => rfl) (fun _ => rfl) (fun _ _ => ?_)
  (repeat (refine gG ?_; try intro _))
  refine g_mv rfl (zat hT rfl rfl rfl rfl rfl (zhP xs) sO rfl ?_)
  (repeat (refine gG ?_; try intro _))
  rename_i g12
  refine zap (fun (z : SetL) => SetI t e w z) (fun z => [(0, .pointer (some ⟨tg, 0, none⟩)), (6, .pointer (some ⟨sg, 0, none⟩)), (9, .int .u32 was), (10, .bool had), (11, z.q.v), (12, .pointer (some ⟨z.g, 0, none⟩)), (13, .bool (!z.xs.isEmpty))]) (fun z => [blk z.g [pA z.xs, pI z.xs] 138, blk sg (stC z.xs.dropLast) 180, blk tg [.pointer (some ⟨(nd H t).g, 0, none⟩), .int .i64 (N : Int)] 55]) (fun z => [allF z.ts (treeF z.h), sl z.q.A 1 PE z.gs, headF z.q z.gs, treeF H t]) (fun z => z.xs.length) ⟨0, lf, ts, A, C, xs, q, g12⟩ rfl ⟨hp, hS0, by rw [List.length_map] at hq1; exact hq1, hn1⟩ fS sA sS ?_
  rintro z hI
  obtain ⟨h, c, ts, A, C, xs, ⟨qA, qn, qc⟩, g12⟩ := z
  obtain ⟨zp, zr, zq, zn⟩ := hI
  dsimp only at zp zr zq zn
  have zqn : qn = ts.length := zq.n
  change GK _ _ [(0, .pointer (some ⟨tg, 0, none⟩)), (6, .pointer (some ⟨sg, 0, none⟩)), (9, .int .u32 was), (10, .bool had), (11, .slice qA qn qc), (12, .pointer (some ⟨g12, 0, none⟩)), (13, .bool (!xs.isEmpty))] [blk g12 [pA xs, pI xs] 138, blk sg (stC xs.dropLast) 180, blk tg [.pointer (some ⟨(nd H t).g, 0, none⟩), .int .i64 (N : Int)] 55] [allF ts (treeF h), sl qA 1 PE ((ts.map (nd h)).map NodeD.g), headF ⟨qA, qn, qc⟩ ((ts.map (nd h)).map NodeD.g), treeF H t]
  rcases List.eq_nil_or_concat xs with rfl | ⟨l, x, rfl⟩
  ·generalize hl0 : ([] : List (Nat × Nat)) = l0 at zp
   cases zp with
   | root =>
     obtain ⟨p9, hp91, hp92, hp93⟩ := hP0
     rcases zpc hh zr with ⟨s, rfl⟩ | ⟨x, y, rfl⟩
     ·obtain ⟨p8, hp81, hp82⟩ := zkI hh zr
      obtain rfl := za2 hp81 hp91
      have hq1 : qn = 1 := zqn
      refine zar (enc := PE) (L := (([s] : List (Tr.T H)).map (nd H)).map NodeD.g) 0 mE (by simp) (by decide) (fun b1 o1 y1 eA hy1 => ?_)
      subst eA
      obtain rfl : (nd H s).g = y1 := Option.some.inj hy1
      refine zaY [allF [s] (treeF H)] (Der.elem (Der.mem (.head _)) (.head _)) sS ?_
      have hnew : New w [treeF H t] (treeF H s) := fun b hb => zn b ⟨s, .head _, hb⟩
      (repeat' (first | (refine gH ?_; try intro _) | (refine gS ?_ ?_ <;> intro _) | fail))
      refine zad hT rfl rfl (.tmp rfl (.tmp rfl .nil)) (fun w' hk => ?_)
      refine RetX.mk ⟨⟨H, s⟩, was, had⟩ ⟨⟨[s], zr, .inl ⟨s, rfl, rfl⟩⟩, p8, hp81, hp82, hp92, hp93⟩ rfl hk (by
       show SelAll [blk tg [.pointer (some ⟨(nd H s).g, 0, none⟩), .int .i64 ((if had = true then L.length else L.length + 1 : Nat) : Int)] 55] _
       rw [← hN]; exact sA) (.cons (RS1.rdE hk mE hnew) .nil)
     ·have hq1 : qn = 2 := zqn
      refine zar (enc := PE) (L := (([x, y] : List (Tr.T H)).map (nd H)).map NodeD.g) 0 mE (by simp) (by decide) (fun b1 o1 y1 eA hy1 => ?_)
      subst eA
      obtain rfl : (nd H x).g = y1 := Option.some.inj hy1
      have hos := (zeA H t e [x, y] hh.ok ha zr).2
      refine zaY [allF [x, y] (treeF H)] (zd4 [x, y]) sS ?_
      (repeat' (first | (refine gH ?_; try intro _) | (refine gS ?_ ?_ <;> intro _) | fail))
      refine g_mv rfl ?_; refine za3 (fun w hk => zdF (some ⟨b1, o1, none⟩) qn qc [nd H x, nd H y] w hq1 (by omega) (fun d hd => by
       obtain ⟨z, hz, rfl⟩ := List.mem_map.1 (show d ∈ [x, y].map (nd H) from hd)
       exact ⟨by rw [← zeK (hos z hz)]; exact zi6 (hos z hz), zch (hos z hz)⟩) (.cons (zf3 (hk.rR (φ := allF ([x, y].map (nd H)) nodeF) mE)) (.cons (zf2 (hk.rR (φ := allF ([x, y].map (nd H)) nodeF) mE)) (.cons (hk.rR mE) .nil)))) rfl rfl rfl rfl rfl kR (fun _ => rfl) (fun d hd => ?_)
      obtain ⟨p8, hp81, hp82⟩ := zkH hh zr hd
      obtain rfl := za2 hp81 hp91
      (repeat (refine gG ?_; try intro _))
      refine zbN (φ := blk d.g [.bool d.leaf, d.K.v, d.V.v, d.C.v, .int .u32 d.a] 109) (ψ := blk tg [d.ptr, .int .i64 (N : Int)] 55) (e := tg) rfl sE mE rfl (fun hb1 => ?_)
      refine zbN (φ := sl d.K.A 3 KE d.Ks) (ψ := blk tg [d.ptr, .int .i64 (N : Int)] 55) (e := tg) rfl sE mE rfl (fun hb2 => ?_)
      refine zbN (φ := sl d.V.A 1 (IE .u32) d.Vs) (ψ := blk tg [d.ptr, .int .i64 (N : Int)] 55) (e := tg) rfl sE mE rfl (fun hb3 => ?_)
      refine zbN (φ := sl d.C.A 1 PE d.Cs) (ψ := blk tg [d.ptr, .int .i64 (N : Int)] 55) (e := tg) rfl sE mE rfl (fun hb4 => ?_)
      refine zaY [blk d.g [.bool d.leaf, d.K.v, d.V.v, d.C.v, .int .u32 d.a] 109, sl d.K.A 3 KE d.Ks, sl d.V.A 1 (IE .u32) d.Vs, sl d.C.A 1 PE d.Cs] (zer d) sS ?_
      refine zaY [nodeF d, allF [x, y] (treeF H)] (zjt (h := H) (d := d) (ks := [x, y]) (Der.mem (.head _)) (Der.mem (.tail _ (.head _)))) sS ?_
      have hnew : New w [treeF H t] (treeF (H + 1) ((d, [x, y]) : NodeD × List (Tr.T H))) := (zjt (h := H) (d := d) (ks := [x, y]) (l := [nodeF d, allF [x, y] (treeF H)]) (Der.mem (.head _)) (Der.mem (.tail _ (.head _)))).new fun ψ hψ => by
       rcases List.mem_cons.1 hψ with rfl | hψ
       ·refine (zer d).new fun χ hχ b hb => .inl ?_
        rcases List.mem_cons.1 hχ with rfl | hχ
        ·exact hb1 b hb
        rcases List.mem_cons.1 hχ with rfl | hχ
        ·exact hb2 b hb
        rcases List.mem_cons.1 hχ with rfl | hχ
        ·exact hb3 b hb
        obtain rfl := m1 hχ
        exact hb4 b hb
       ·obtain rfl := m1 hψ
        exact zn
      refine zad hT rfl rfl (.tmp rfl (.tmp rfl .nil)) (fun w' hk => ?_)
      refine RetX.mk ⟨⟨H + 1, ((d, [x, y]) : NodeD × List (Tr.T H))⟩, was, had⟩ ⟨⟨[x, y], zr, .inr ⟨x, y, d, rfl, hd, rfl⟩⟩, p8, hp81, hp82, hp92, hp93⟩ rfl hk (by
       show SelAll [blk tg [.pointer (some ⟨d.g, 0, none⟩), .int .i64 ((if had = true then L.length else L.length + 1 : Nat) : Int)] 55] _
       rw [← hN]; exact sA) (.cons (RS1.rdE hk mE hnew) .nil)
   | down q1 hp1 hq1 hc1 => simp at hl0
  ·rw [List.concat_eq_append] at zp ⊢
   obtain ⟨s, A', C', k1, hps, hk1, hk2, hx, hC⟩ := zp.last
   obtain ⟨i0, hi0⟩ : ∃ i0, i0 = kidIx ((s.2.map (ents h)).map fstK) e.k k1 := ⟨_, rfl⟩
   rw [← hi0] at hx hC
   subst hx
   rw [zeG, zeF, List.dropLast_concat]
   have hsz1 := zdu hps hh.size
   have hok1 := hps.ok hh.ok
   have hc2 : s.2[i0]? = some c := by rw [hi0]; exact hk2
   have hi1 : i0 < s.2.length := (List.getElem?_eq_some_iff.1 hc2).1
   have hl6 : s.2.length ≤ 6 := hsz1.2.1
   have hts := ((zcJ h c e ts zr).1 (hsz1.2.2 c (List.mem_of_getElem? hc2))).1
   have hll := hps.len
   have hLok : ∀ d ∈ (s.2.take i0 ++ ts ++ s.2.drop (i0 + 1)).map (nd h), 0 < d.Ks.length ∧ d.Ok := by
    intro d hd
    obtain ⟨y, hy, rfl⟩ := List.mem_map.1 hd
    have hyo : Tr.Ok h y := by
     rcases List.mem_append.1 hy with hy | hy
     ·rcases List.mem_append.1 hy with hy | hy
      ·exact hok1.2.2 y (List.mem_of_mem_take hy)
      ·exact (zeA h c e ts (hok1.2.2 c (List.mem_of_getElem? hc2)) (zp.asc ha) zr).2 y hy
     ·exact hok1.2.2 y (List.mem_of_mem_drop hy)
    exact ⟨by rw [← zeK hyo]; exact zi6 hyo, zch hyo⟩
   have hCs : (nd (h + 1) s).Cs = (s.2.map (nd h)).map NodeD.g := hok1.1.Cs
   have hCl : (nd (h + 1) s).Cs.length = s.2.length := by rw [hCs, List.length_map, List.length_map]
   have hCn : (nd (h + 1) s).C.n = (nd (h + 1) s).Cs.length := (zch hok1).C.n
   have eV : (nd (h + 1) s).Cs.take i0 ++ (ts.map (nd h)).map NodeD.g ++ (nd (h + 1) s).Cs.drop (i0 + 1) = ((s.2.take i0 ++ ts ++ s.2.drop (i0 + 1)).map (nd h)).map NodeD.g := by
    rw [hCs]
    simp only [List.map_append, List.map_take, List.map_drop]
   refine zaY [treeF H t] (zd3 hps) sS ?_
   refine zaY [treeF (h + 1) s] (zdO s) sS ?_
   refine zlS (d := nd (h + 1) s) mE ?_
   refine zeX (d := nd (h + 1) s) mE ?_
   refine zaY [treeF (h + 1) s, allF ts (treeF h)] (zc3 s ts i0 (i0 + 1)) sS ?_
   refine zaY [allF (s.2.take i0 ++ ts ++ s.2.drop (i0 + 1)) (treeF h)] (zd4 _) sS ?_
   refine zlU (q := ⟨qA, qn, qc⟩) (L := (ts.map (nd h)).map NodeD.g) mE mE (by rw [List.length_map, List.length_map]; omega) (fun g0 eqA => ?_)
   replace eqA : qA = some ⟨g0, 0, none⟩ := eqA
   subst eqA
   refine zbs 13 (.bool true) rfl (by simp) ?_
   (repeat (refine gG ?_; try intro _))
   refine zas [0, 6] (Cut _ (fun p : { p : NS // (p.s.Ok p.ds.length ∧ All2 IsInner (cutN ((s.2.take i0 ++ ts ++ s.2.drop (i0 + 1)).map (nd h))) p.ds) ∧ New w [] (allF p.ds nodeF) } => [(0, .pointer (some ⟨tg, 0, none⟩)), (6, .pointer (some ⟨sg, 0, none⟩)), (9, .int .u32 was), (10, .bool had), (11, p.1.s.v), (12, .pointer (some ⟨g12, 0, none⟩))])
    (fun p => [blk g12 [.pointer (some ⟨(nd (h + 1) s).g, 0, none⟩), .int .i64 i0] 138, blk sg (stC l) 180, blk tg [.pointer (some ⟨(nd H t).g, 0, none⟩), .int .i64 (N : Int)] 55])
    (fun p => [sl p.1.s.A 1 PE (p.1.ds.map NodeD.g), allF p.1.ds nodeF, headF p.1.s (p.1.ds.map NodeD.g), allF (s.2.take i0 ++ ts ++ s.2.drop (i0 + 1)) (treeF h), treeF H t])) rfl rfl kR ?_ (zaD fun p => ?_)
   ·skip
    refine gY hT 0 ?_
    refine gW hT 1 ?_
    refine gY hT 2 ?_
    refine gY hT 3 ?_
    refine gW hT 4 ?_
    try (refine zam 65 (.slice (nd (h + 1) s).C.A (nd (h + 1) s).C.n (nd (h + 1) s).C.c) rfl rfl ?_)
    refine gY hT 6 ?_
    refine gW hT 7 ?_
    refine gY hT 8 ?_
    refine gW hT 9 ?_
    refine gY hT 10 ?_
    try (refine zam 71 (.int .i64 ((i0 + 1 : Nat) : Int)) rfl rfl ?_)
    refine gY hT 11 ?_
    refine gP 5 ?_
    refine za3 (fun w hk => zdk (nd (h + 1) s).C.A (nd (h + 1) s).C.n (nd (h + 1) s).C.c (nd (h + 1) s).Cs w hCn (by omega) (hk.pR (sl (nd (h + 1) s).C.A 1 PE (nd (h + 1) s).Cs) mE)) rfl rfl rfl rfl rfl kR (fun _ => rfl) (fun v1 _ => ?_)
    refine ⟨sF, ?_⟩
    (refine zl2 v1 mE (by omega) (fun b1 c1 hv1 _ _ => ?_); subst hv1)
    refine gP 12 ?_
    refine zbZ (fun w hk => zcu 0 b1 (nd (h + 1) s).Cs.length c1 (nd (h + 1) s).Cs i0 (i0 + 1) ((ts.map (nd h)).map NodeD.g) g0 qn qc w (hk.pO (own 0 53 1 (.slice (some ⟨b1, 0, none⟩) (nd (h + 1) s).Cs.length c1) PE (nd (h + 1) s).Cs) mE) (by omega) (by rw [List.length_map, List.length_map]; omega) (by rw [List.length_map, List.length_map]; omega) zq.c (by omega) (by omega) (by omega) (Nat.zero_le _) (hk.pR (blk g0 (flatF 1 PE ((ts.map (nd h)).map NodeD.g)) 53) mE) (fun hne => hk.disR (own 0 53 1 (.slice (some ⟨b1, 0, none⟩) (nd (h + 1) s).Cs.length c1) PE (nd (h + 1) s).Cs) mE (blk g0 (flatF 1 PE ((ts.map (nd h)).map NodeD.g)) 53) mE b1 rfl hne)) rfl rfl rfl rfl rfl kR uD (fun v2 => ?_)
    refine ⟨sF, ?_⟩
    (refine zai v2 mE (fun A2 c2 hv h1 h2 h3 => ?_); subst hv)
    refine gP 13 ?_
    refine za4 (fun w hk => zdX A2 ((nd (h + 1) s).Cs.take i0 ++ (ts.map (nd h)).map NodeD.g ++ (nd (h + 1) s).Cs.drop (i0 + 1)).length c2 ((s.2.take i0 ++ ts ++ s.2.drop (i0 + 1)).map (nd h)) w (by rw [eV, List.length_map]) h1 (by rw [eV, List.length_map, List.length_map, List.length_append, List.length_append, List.length_take, List.length_drop]; omega) hLok (.cons (hk.rR mE) (.cons (zph (by rw [← eV]; exact zhQ hk mE) (by decide)) .nil))) rfl rfl rfl rfl rfl kR sS (fun _ => rfl) (fun p hp hn => ?_)
    refine ⟨sF, ?_⟩
    refine gY hT 14 ?_
    refine zak dK ?_
    exact ⟨⟨p, hp, New.of (hn _ (.tail _ (.head _)))⟩, fS, sA, sS⟩
   ·obtain ⟨⟨⟨pA', pn, pc⟩, ds'⟩, ⟨hp1, hp2⟩, hp3⟩ := p
    dsimp only at hp1 hp2 hp3
    obtain ⟨ts', e1', e2', e3'⟩ := zd6 hp2
    subst e1'
    change GK _ _ [(0, .pointer (some ⟨tg, 0, none⟩)), (6, .pointer (some ⟨sg, 0, none⟩)), (9, .int .u32 was), (10, .bool had), (11, .slice pA' pn pc), (12, .pointer (some ⟨g12, 0, none⟩))] [blk g12 [.pointer (some ⟨(nd (h + 1) s).g, 0, none⟩), .int .i64 i0] 138, blk sg (stC l) 180, blk tg [.pointer (some ⟨(nd H t).g, 0, none⟩), .int .i64 (N : Int)] 55] [sl pA' 1 PE ((ts'.map (nd (h + 1))).map NodeD.g), allF (ts'.map (nd (h + 1))) nodeF, headF ⟨pA', pn, pc⟩ ((ts'.map (nd (h + 1))).map NodeD.g), allF (s.2.take i0 ++ ts ++ s.2.drop (i0 + 1)) (treeF h), treeF H t]
    refine zaY [allF (ts'.map (nd (h + 1))) nodeF, allF (s.2.take i0 ++ ts ++ s.2.drop (i0 + 1)) (treeF h)] (zcP e2') sS ?_
    have hn2 : New w [treeF H t] (allF ts' (treeF (h + 1))) := (zcP e2').new fun ψ hψ => by
     rcases List.mem_cons.1 hψ with rfl | hψ
     ·exact New.of hp3
     ·obtain rfl := m1 hψ
      refine (zc3 s ts i0 (i0 + 1)).new fun χ hχ => ?_
      rcases List.mem_cons.1 hχ with rfl | hχ
      ·exact (zd3 hps).new fun y hy => New.self hy
      ·obtain rfl := m1 hχ
       exact zn
    (repeat (refine gG ?_; try intro _))
    rename_i g13
    refine g_mv rfl ?_; refine zaE (fun w hk => zcr sg l w (by omega) (hk.pO (blk sg (stC l) 180) mE)) rfl rfl rfl rfl rfl kR uD (fun ψ hψ => by first | (cases hψ; done) | (obtain rfl := m1 hψ; exact mE)) (fun _ => rfl) (fun _ => rfl) (fun _ _ => ?_)
    (repeat (refine gG ?_; try intro _))
    refine g_mv rfl (zat hT rfl rfl rfl rfl rfl (zhP l) sO rfl ?_)
    (repeat (refine gG ?_; try intro _))
    refine zag rfl ⟨h + 1, s, ts', A', C', l, ⟨pA', pn, pc⟩, g13⟩ ⟨hps, ⟨k1, c, ts, hk1, hk2, zr, by rw [← hi0]; exact e2', e3'⟩, by rw [List.length_map] at hp1; exact hp1, hn2⟩ (by simp) fS sA sS
end Go.Proofs.YtaghmffgoomebaaGreat.Tw
