/- tree.Delete. -/
import Derived.Test.YtaghmffgoomebaaGreatTs
import Derived.Test.YtaghmffgoomebaaGreatTj
set_option linter.unusedVariables false
set_option linter.unusedSimpArgs false
namespace Go.Proofs.YtaghmffgoomebaaGreat.Tw
open Go.RowKit Mem Nd Gx Sk
open Tr hiding T row
set_option maxRecDepth 100000
set_option maxHeartbeats 4000000
def HasO : Option AT → List EntD → Prop
 | none, L => L = []
 | some a, L => Has a.h a.t L
def rootV : Option AT → Value
 | none => .pointer none
 | some a => .pointer (some ⟨(nd a.h a.t).g, 0, none⟩)
def stF (a : Option AT) : Fact := allF a.toList (fun a => treeF a.h a.t)
def DelS {H : Nat} (t : Tr.T H) (k : KeyD) (a : Option AT) : Prop :=
 ∃ ts, DelR H t k ts ∧ ((ts = [] ∧ a = none) ∨ ∃ s b, ts = [s] ∧ a = some b ∧ (b = ⟨H, s⟩ ∨ AT.kids ⟨H, s⟩ = [b]))
structure DelL where
 h : Nat
 c : Tr.T h
 ts : List (Tr.T h)
 A : List EntD
 C : List EntD
 xs : List (Nat × Nat)
 q : SlV
 g : Nat
def DelL.gs (z : DelL) : List Nat := (z.ts.map (nd z.h)).map NodeD.g
structure DelI {H : Nat} (t : Tr.T H) (k : KeyD) (w : World) (z : DelL) : Prop where
 p : Pth t k z.h z.c z.xs z.A z.C
 r : DelR z.h z.c k z.ts
 q : z.q.Ok z.ts.length
 new : New w [treeF H t] (allF z.ts (treeF z.h))
structure DelO where
 a : Option AT
 was : Int
 had : Bool
structure DelP {H : Nat} (t : Tr.T H) (k : KeyD) (L : List EntD) (s : DelO) : Prop where
 p : ∃ p, PosK (keysOf L) k p ∧ HasO s.a (delAt L k p) ∧ s.had = tB ((keysOf L)[p]? = some k) ∧ s.was = (if s.had = true then (L.getD p default).a else 0)
 no : s.had = false → s.a = some ⟨H, t⟩
 yes : s.had = true → DelS t k s.a
theorem zh5 {h : Nat} {ks ks' : List (Tr.T h)} {i : Nat} (hj : JoinedR h ks i ks') (ok : ∀ k ∈ ks, Tr.Ok h k) (sz : ∀ k ∈ ks, ln h k ≤ 6) : ks'.length ≤ ks.length ∧ (0 < ks.length → 0 < ks'.length) := by
 obtain ⟨c, hc, ⟨_, rfl⟩ | ⟨hn, a, b, js, ha, hb, hJ, rfl⟩⟩ := hj
 ·exact ⟨Nat.le_refl _, fun h => h⟩
 ·have h1 := zdC hJ (ok a (List.mem_of_getElem? ha)) (sz a (List.mem_of_getElem? ha)) (sz b (List.mem_of_getElem? hb))
  have h2 := (List.getElem?_eq_some_iff.1 hb).1
  simp only [List.length_append, List.length_take, List.length_drop]
  omega
theorem zlf {w : World} {RA RB : List Fact} {φ : Fact} (h : New w RA φ) (h2 : ∀ ψ, ψ ∈ RA → New w RB ψ) : New w RB φ := fun b hb => by
 rcases h b hb with h1 | ⟨ψ, h3, h4⟩
 ·exact .inl h1
 ·exact h2 ψ h3 b h4
theorem znQ : ∀ {h : Nat} {t : Tr.T h}, Tr.Good h t → Low h t
 | 0, _, g => ⟨Nat.le_trans (by decide) g.1, g.2⟩
 | _ + 1, _, g => ⟨Nat.le_trans (by decide) g.1, g.2.1, g.2.2⟩
theorem zd5 {H : Nat} (t : Tr.T H) (k : KeyD) (L : List EntD) (tg : Nat) (w : World) (hh : Has H t L) (h9 : L.length ≤ 160) (hB : w.heap[tg]? = some (.cells [.pointer (some ⟨(nd H t).g, 0, none⟩), .int .i64 (L.length : Int)].toArray 55 (0, 0))) (hF : Rd1 w (treeF H t)) (hdis : ¬ (treeF H t).S tg) :
 Calls Tryz.prog 37 [.pointer (some ⟨tg, 0, none⟩), k.val].toArray w (RetX tg 55 (DelP t k L) (fun s => .tuple #[.int .u32 s.was, .bool s.had]) (fun s => [rootV s.a, .int .i64 ((if s.had = true then L.length - 1 else L.length : Nat) : Int)]) (fun s => [stF s.a]) [treeF H t] w) := by
 have ha : AscK (keysOf (ents H t)) := by rw [hh.row]; exact hh.asc
 have hH : H ≤ 3 := hh.low h9
 have hLp := hh.pos
 have hk0 : Kn [tg] w w [blk tg [.pointer (some ⟨(nd H t).g, 0, none⟩), .int .i64 (L.length : Int)] 55] [treeF H t] := (Kn.startW hB).addR _ hF.1 hF.2 (fun φ hφ b hb hb' => by
  obtain rfl := m1 hφ
  have : b = tg := hb
  subst this
  exact hdis hb')
 refine zab T [tg] [blk tg [.pointer (some ⟨(nd H t).g, 0, none⟩), .int .i64 (L.length : Int)] 55] [treeF H t] Tryz.func37 rfl Tryz.ntmps37 rfl hk0 ?_
 (repeat (refine gG ?_; try intro _))
 rename_i g3
 refine cR (fun w hk => zks t k tg L.length w hh.ok hh.size ha (by omega) (hk.rO mE) (hk.rR mE)) (fun pw hp => ?_)
 obtain ⟨sg, xs, lf, A, C⟩ := pw
 replace hp : Pth t k 0 lf xs A C := hp
 have hok := hp.ok hh.ok
 have hasc := hp.asc ha
 have hl3 := hp.len
 have hsz := zf0 (zdu hp hh.size)
 have hlf : IsLeafW lf.2 (nd 0 lf) := hok.1
 have hl6 : lf.2.length ≤ 6 := hsz
 (repeat (refine gG ?_; try intro _))
 refine zeZ [treeF H t] ((zdO lf).trans fun ψ hψ => by obtain rfl := m1 hψ; exact zd3 hp) sS ?_
 refine cR (fun w hk => zhE (nd 0 lf) lf.2 k w hlf (by omega) hasc (hk.rR mE)) (fun r hr => ?_)
 obtain ⟨⟨rA, rn, rc⟩, rM, was, had⟩ := r
 obtain ⟨hr1, p, hpp, hhad, hM, hwas⟩ := hr
 dsimp only at hr1 hhad hM hwas
 obtain ⟨hL, hpL, hfd, hget⟩ := zkq hp hh hpp
 have hML : rM.length ≤ 7 := by
  have := hpp.le
  rw [List.length_map] at this
  rw [hM]
  split
  ·simp only [List.length_append, List.length_take, List.length_drop]; omega
  ·omega
 have hMs : rM = delAt lf.2 k p := by
  rw [hM]; unfold delAt
  rw [hhad]
 have hP0 : ∃ p', PosK (keysOf L) k p' ∧ had = tB ((keysOf L)[p']? = some k) ∧ was = (if had = true then (L.getD p' default).a else 0) := by
  refine ⟨A.length + p, hpL, by rw [hhad]; exact zbU hfd.symm, ?_⟩
  rw [hwas]
  by_cases hb : had = true
  ·rw [if_pos hb, if_pos hb]
   have h1 := zaQ.1 (hhad.symm.trans hb)
   rw [List.getElem?_map] at h1
   cases hx : lf.2[p]? with
   | none => rw [hx] at h1; cases h1
   | some x => rw [getD_at hx, getD_at (hget x hx)]
  ·rw [if_neg hb, if_neg hb]
 cases had with
 | false =>
   (repeat (refine gG ?_; try intro _))
   obtain ⟨p9, hp91, hp92, hp93⟩ := hP0
   refine zaY [treeF H t] (φ := stF (some ⟨H, t⟩)) (Der.all fun x hx => by obtain rfl := m1 hx; exact Der.mem (.head _)) sS ?_
   refine zad hT rfl rfl (.tmp rfl (.tmp rfl .nil)) (fun w' hk => ?_)
   refine RetX.mk ⟨some ⟨H, t⟩, 0, false⟩ ⟨⟨p9, hp91, ?_, hp92, rfl⟩, fun _ => rfl, fun h => by cases h⟩ rfl hk sA (.cons (RS1.rdE hk mE (New.all fun x hx => by obtain rfl := m1 hx; exact New.self (.head _))) .nil)
   show Has H t (delAt L k p9)
   unfold delAt
   rw [if_neg (by rw [← hp92]; decide)]
   exact hh
 | true =>
   (repeat (refine gG ?_; try intro _))
   rw [show (L.length : Int) - 1 = ((L.length - 1 : Nat) : Int) by omega]
   have hfl : (keysOf lf.2)[p]? = some k := zaQ.1 hhad.symm
   refine g_mv rfl ?_; refine za4 (fun w hk => zck rA rn rc rM w hr1.n hr1.c (by rw [show rn = rM.length from hr1.n]; omega) (hk.pO (sl rA 4 EE rM) mE)) rfl rfl rfl rfl rfl kR sS (fun _ => rfl) (fun q0 hq0 hn0 => ?_)
   obtain ⟨q, ds⟩ := q0
   obtain ⟨hq1, hq2⟩ := hq0
   dsimp only at hq1 hq2
   obtain ⟨ts, e1, e2, e3⟩ := zfe hq2
   subst e1
   refine zeZ [allF (ts.map (nd 0)) nodeF] zco sS ?_
   have hn1 : New w [treeF H t] (allF ts (treeF 0)) := zco.new fun ψ hψ => by
    obtain rfl := m1 hψ
    exact New.of (hn0 _ (.tail _ (.head _)))
   have hS0 : DelR 0 lf k ts := ⟨p, hpp, hfl, by rw [e2, hMs], e3⟩
   (repeat (refine gG ?_; try intro _))
   refine g_mv rfl ?_; refine zaE (fun w hk => zcr sg xs w (by omega) (hk.pO (blk sg (stC xs) 180) mE)) rfl rfl rfl rfl rfl kR uD (fun ψ hψ => by first | (cases hψ; done) | (obtain rfl := m1 hψ; exact mE)) (fun _ => rfl) (fun _ => rfl) (fun _ _ => ?_)
   (repeat (refine gG ?_; try intro _))
   refine g_mv rfl (zat hT rfl rfl rfl rfl rfl (zhP xs) sO rfl ?_)
   (repeat (refine gG ?_; try intro _))
   rename_i g12
   refine zap (fun (z : DelL) => DelI t k w z) (fun z => [(0, .pointer (some ⟨tg, 0, none⟩)), (6, .pointer (some ⟨sg, 0, none⟩)), (9, .int .u32 was), (11, z.q.v), (12, .pointer (some ⟨z.g, 0, none⟩)), (13, .bool (!z.xs.isEmpty))]) (fun z => [blk z.g [pA z.xs, pI z.xs] 138, blk sg (stC z.xs.dropLast) 180, blk tg [.pointer (some ⟨(nd H t).g, 0, none⟩), .int .i64 ((L.length - 1 : Nat) : Int)] 55]) (fun z => [allF z.ts (treeF z.h), sl z.q.A 1 PE z.gs, headF z.q z.gs, treeF H t]) (fun z => z.xs.length) ⟨0, lf, ts, A, C, xs, q, g12⟩ rfl ⟨hp, hS0, by rw [List.length_map] at hq1; exact hq1, hn1⟩ fS sA sS ?_
   rintro z hI
   obtain ⟨h, c, ts, A, C, xs, ⟨qA, qn, qc⟩, g12⟩ := z
   obtain ⟨zp, zr, zq, zn⟩ := hI
   dsimp only at zp zr zq zn
   have zqn : qn = ts.length := zq.n
   change GK _ _ [(0, .pointer (some ⟨tg, 0, none⟩)), (6, .pointer (some ⟨sg, 0, none⟩)), (9, .int .u32 was), (11, .slice qA qn qc), (12, .pointer (some ⟨g12, 0, none⟩)), (13, .bool (!xs.isEmpty))] [blk g12 [pA xs, pI xs] 138, blk sg (stC xs.dropLast) 180, blk tg [.pointer (some ⟨(nd H t).g, 0, none⟩), .int .i64 ((L.length - 1 : Nat) : Int)] 55] [allF ts (treeF h), sl qA 1 PE ((ts.map (nd h)).map NodeD.g), headF ⟨qA, qn, qc⟩ ((ts.map (nd h)).map NodeD.g), treeF H t]
   rcases List.eq_nil_or_concat xs with rfl | ⟨l, x, rfl⟩
   ·generalize hl0 : ([] : List (Nat × Nat)) = l0 at zp
    cases zp with
    | root =>
      obtain ⟨p9, hp91, hp92, hp93⟩ := hP0
      rcases zp1 hh zr with rfl | ⟨s, rfl⟩
      ·obtain ⟨p8, hp81, hp83, hp82⟩ := zoa hh zr
       obtain rfl := za2 hp81 hp91
       have hq1 : qn = 0 := zqn
       refine zhq (f' := [(0, .pointer (some ⟨tg, 0, none⟩)), (9, .int .u32 was), (11, .slice qA qn qc), (13, .bool false)]) (O' := [blk tg [.pointer (some ⟨(nd H t).g, 0, none⟩), .int .i64 ((L.length - 1 : Nat) : Int)] 55]) (R' := []) fS sA (List.nil_subset _) ?_
       refine zaY [] (φ := stF none) (Der.all fun x hx => by cases hx) (List.nil_subset _) ?_
       (repeat' (first | (refine gH ?_; try intro _) | (refine gS ?_ ?_ <;> intro _) | fail))
       refine zeW 1 rfl ?_
       (repeat' (first | (refine gH ?_; try intro _) | (refine gS ?_ ?_ <;> intro _) | fail))
       refine zad hT rfl rfl (.tmp rfl (.tmp rfl .nil)) (fun w' hk => ?_)
       refine RetX.mk ⟨none, was, true⟩ ⟨⟨p8, hp81, hp82, hp92, hp93⟩, fun h => (by cases h), fun _ => ⟨[], zr, .inl ⟨rfl, rfl⟩⟩⟩ rfl hk sA (.cons (RS1.rdE hk mE (New.all fun x hx => by cases hx)) .nil)
      ·obtain ⟨p8, hp81, hp83, hok8, hlow8, hen8, has8⟩ := zpZ hh zr
       obtain rfl := za2 hp81 hp91
       have hq1 : qn = 1 := zqn
       refine zar (enc := PE) (L := (([s] : List (Tr.T H)).map (nd H)).map NodeD.g) 0 mE (by simp) (by decide) (fun b1 o1 y1 eA hy1 => ?_)
       subst eA
       obtain rfl : (nd H s).g = y1 := Option.some.inj hy1
       refine zaY [allF [s] (treeF H)] (Der.elem (Der.mem (.head _)) (.head _)) sS ?_
       have hnew : New w [treeF H t] (treeF H s) := fun b hb => zn b ⟨s, .head _, hb⟩
       refine zhq (f' := [(0, .pointer (some ⟨tg, 0, none⟩)), (9, .int .u32 was), (11, .slice (some ⟨b1, o1, none⟩) qn qc), (13, .bool false)]) (O' := [blk tg [.pointer (some ⟨(nd H t).g, 0, none⟩), .int .i64 ((L.length - 1 : Nat) : Int)] 55]) (R' := [row b1 (o1 + 0 * 1) (encF PE (nd H s).g 0 1), treeF H s]) fS sA sS ?_
       (repeat' (first | (refine gH ?_; try intro _) | (refine gS ?_ ?_ <;> intro _) | fail))
       refine zap (fun (a : AT) => (Tr.Ok a.h a.t ∧ Low a.h a.t ∧ ents a.h a.t = delAt L k p8 ∧ (a = ⟨H, s⟩ ∨ (AT.kids ⟨H, s⟩ = [a] ∧ Tr.Good a.h a.t)) ∧ New w [treeF H t] (treeF a.h a.t))) (fun a => [(0, .pointer (some ⟨tg, 0, none⟩)), (9, .int .u32 was)]) (fun a => [blk tg [.pointer (some ⟨(nd a.h a.t).g, 0, none⟩), .int .i64 ((L.length - 1 : Nat) : Int)] 55]) (fun a => [treeF a.h a.t]) (fun a => a.h) ⟨H, s⟩ rfl ⟨hok8, hlow8, hen8, .inl rfl, hnew⟩ fS sA sS ?_
       rintro a hI
       obtain ⟨h2, c2⟩ := a
       obtain ⟨ao, al, ae, aw, an⟩ := hI
       dsimp only at ao al ae an
       change GK _ _ [(0, .pointer (some ⟨tg, 0, none⟩)), (9, .int .u32 was)] [blk tg [.pointer (some ⟨(nd h2 c2).g, 0, none⟩), .int .i64 ((L.length - 1 : Nat) : Int)] 55] [treeF h2 c2]
       have hD : DelS t k (some ⟨h2, c2⟩) := ⟨[s], zr, .inr ⟨s, ⟨h2, c2⟩, rfl, rfl, aw.imp id (fun h => h.1)⟩⟩
       refine zeV (t := c2) mE ?_
       refine zeX (d := nd h2 c2) mE ?_
       cases h2 with
       | zero =>
         rw [show (nd 0 c2).leaf = true from ao.1.leaf]
         have hHas : Has 0 c2 (delAt L k p8) := zi4 ao al ae has8 (.inl rfl)
         (repeat (refine gG ?_; try intro _))
         refine zaY [treeF 0 c2] (φ := stF (some ⟨0, c2⟩)) (Der.all fun x hx => by obtain rfl := m1 hx; exact Der.mem (.head _)) sS ?_
         refine zad hT rfl rfl (.tmp rfl (.tmp rfl .nil)) (fun w' hk => ?_)
         exact RetX.mk ⟨some ⟨0, c2⟩, was, true⟩ ⟨⟨p8, hp81, hHas, hp92, hp93⟩, fun h => (by cases h), fun _ => hD⟩ rfl hk sA (.cons (RS1.rdE hk mE (New.all fun x hx => by obtain rfl := m1 hx; exact an)) .nil)
       | succ h2 =>
         rw [show (nd (h2 + 1) c2).leaf = false from ao.1.leaf]
         have hKn2 : (nd (h2 + 1) c2).K.n = c2.2.length := by rw [(zch ao).K.n, zdz ao]; rfl
         have hCs2 : (nd (h2 + 1) c2).Cs = (c2.2.map (nd h2)).map NodeD.g := ao.1.Cs
         have hCn2 : (nd (h2 + 1) c2).C.n = c2.2.length := by rw [(zch ao).C.n, hCs2, List.length_map, List.length_map]
         by_cases h1 : c2.2.length = 1
         ·obtain ⟨kd, hkd⟩ : ∃ kd, c2.2 = [kd] := List.length_eq_one_iff.1 h1
          have hkd0 : c2.2[0]? = some kd := by rw [hkd]; rfl
          have hkg : Tr.Good h2 kd := al.2.2 kd (by rw [hkd]; exact .head _)
          have hw2 : AT.kids ⟨H, s⟩ = [(⟨h2, kd⟩ : AT)] := by
           rcases aw with e | ⟨_, g⟩
           ·rw [← e]
            show (c2.2).map _ = _
            rw [hkd]; rfl
           ·have g1 : 3 ≤ c2.2.length := g.1
            omega
          refine zlS (d := nd (h2 + 1) c2) mE ?_
          refine zar (enc := PE) (L := (nd (h2 + 1) c2).Cs) 0 mE (by rw [hCs2, List.length_map, List.length_map]; omega) (by decide) (fun b2 o2 y2 eA2 hy2 => ?_)
          obtain rfl : (nd h2 kd).g = y2 := by
           rw [hCs2, List.getElem?_map, List.getElem?_map, hkd0] at hy2
           exact Option.some.inj hy2
          (repeat' (first | (refine gH ?_; try intro _) | (refine g_mv rfl ?_; refine cb (fun w hk => zaX (nd (h2 + 1) c2).g [] (nd (h2 + 1) c2).leaf (nd (h2 + 1) c2).K (nd (h2 + 1) c2).V (nd (h2 + 1) c2).C (nd (h2 + 1) c2).a w (zbQ (hk.rR (φ := nodeF (nd (h2 + 1) c2)) mE)).1) ?_) | (refine gS ?_ ?_ <;> intro _) | fail))
          refine zaK 113 (.slice (some ⟨b2, o2, none⟩) (nd (h2 + 1) c2).C.n (nd (h2 + 1) c2).C.c) rfl (by rw [← eA2]; rfl) ?_
          (repeat (refine gG ?_; try intro _))
          refine zdi (t := c2) (c := kd) mE (List.mem_of_getElem? hkd0) ?_
          refine zag rfl ⟨h2, kd⟩ ⟨ao.2.2 kd (List.mem_of_getElem? hkd0), znQ hkg, ?_, .inr ⟨hw2, hkg⟩, fun b hb => ?_⟩ (Nat.lt_succ_self _) fS sA sS
          ·rw [← ae]
           show ents h2 kd = ((c2.2).map (ents h2)).flatten
           rw [hkd]; simp
          ·exact (zcB (t := c2) (List.mem_of_getElem? hkd0)).new (fun ψ hψ => by obtain rfl := m1 hψ; exact an) b hb
         ·have hHas : Has (h2 + 1) c2 (delAt L k p8) := zi4 ao al ae has8 (.inr (by show 2 ≤ c2.2.length; have := al.1; omega))
          (repeat' (first | (refine gH ?_; try intro _) | (refine g_mv rfl ?_; refine cb (fun w hk => zaX (nd (h2 + 1) c2).g [] (nd (h2 + 1) c2).leaf (nd (h2 + 1) c2).K (nd (h2 + 1) c2).V (nd (h2 + 1) c2).C (nd (h2 + 1) c2).a w (zbQ (hk.rR (φ := nodeF (nd (h2 + 1) c2)) mE)).1) ?_) | (refine gS ?_ ?_ <;> intro _) | fail))
          refine zaY [treeF (h2 + 1) c2] (φ := stF (some ⟨h2 + 1, c2⟩)) (Der.all fun x hx => by obtain rfl := m1 hx; exact Der.mem (.head _)) sS ?_
          refine zad hT rfl rfl (.tmp rfl (.tmp rfl .nil)) (fun w' hk => ?_)
          exact RetX.mk ⟨some ⟨h2 + 1, c2⟩, was, true⟩ ⟨⟨p8, hp81, hHas, hp92, hp93⟩, fun h => (by cases h), fun _ => hD⟩ rfl hk sA (.cons (RS1.rdE hk mE (New.all fun x hx => by obtain rfl := m1 hx; exact an)) .nil)
    | down q1 hp1 hq1 hc1 => simp at hl0
   ·rw [List.concat_eq_append] at zp ⊢
    obtain ⟨s, A', C', k1, hps, hk1, hk2, hx, hC⟩ := zp.last
    obtain ⟨i0, hi0⟩ : ∃ i0, i0 = kidIx ((s.2.map (ents h)).map fstK) k k1 := ⟨_, rfl⟩
    rw [← hi0] at hx hC
    subst hx
    rw [zeG, zeF, List.dropLast_concat]
    have hsz1 := zdu hps hh.size
    have hok1 := hps.ok hh.ok
    have hc2 : s.2[i0]? = some c := by rw [hi0]; exact hk2
    have hi1 : i0 < s.2.length := (List.getElem?_eq_some_iff.1 hc2).1
    have hl6 : s.2.length ≤ 6 := hsz1.2.1
    obtain ⟨u, rfl, hnear⟩ := (zdP h c k ts zr).1 (hsz1.2.2 c (List.mem_of_getElem? hc2))
    have hts : 1 ≤ [u].length ∧ [u].length ≤ 2 := ⟨by simp, by simp⟩
    have hll := hps.len
    have hcg := hsz1.2.2 c (List.mem_of_getElem? hc2)
    have hLok0 : ∀ y ∈ s.2.take i0 ++ [u] ++ s.2.drop (i0 + 1), Tr.Ok h y ∧ ln h y ≤ 6 := by
     intro y hy
     rcases List.mem_append.1 hy with hy | hy
     ·rcases List.mem_append.1 hy with hy | hy
      ·exact ⟨hok1.2.2 y (List.mem_of_mem_take hy), (hsz1.2.2 y (List.mem_of_mem_take hy)).ln.2⟩
      ·obtain rfl := m1 hy
       exact ⟨(zgy h c k [y] (hok1.2.2 c (List.mem_of_getElem? hc2)) (zp.asc ha) zr).2 y (.head _), hnear.ln.2⟩
     ·exact ⟨hok1.2.2 y (List.mem_of_mem_drop hy), (hsz1.2.2 y (List.mem_of_mem_drop hy)).ln.2⟩
    have hLl : (s.2.take i0 ++ [u] ++ s.2.drop (i0 + 1)).length = s.2.length := by simp only [List.length_append, List.length_take, List.length_drop, List.length_cons, List.length_nil]; omega
    have hCs : (nd (h + 1) s).Cs = (s.2.map (nd h)).map NodeD.g := hok1.1.Cs
    have hCl : (nd (h + 1) s).Cs.length = s.2.length := by rw [hCs, List.length_map, List.length_map]
    have hCn : (nd (h + 1) s).C.n = (nd (h + 1) s).Cs.length := (zch hok1).C.n
    have eV : (nd (h + 1) s).Cs.take i0 ++ ([u].map (nd h)).map NodeD.g ++ (nd (h + 1) s).Cs.drop (i0 + 1) = ((s.2.take i0 ++ [u] ++ s.2.drop (i0 + 1)).map (nd h)).map NodeD.g := by
     rw [hCs]
     simp only [List.map_append, List.map_take, List.map_drop]
    refine zaY [treeF H t] (zd3 hps) sS ?_
    refine zaY [treeF (h + 1) s] (zdO s) sS ?_
    refine zlS (d := nd (h + 1) s) mE ?_
    refine zeX (d := nd (h + 1) s) mE ?_
    refine zaY [treeF (h + 1) s, allF [u] (treeF h)] (zc3 s [u] i0 (i0 + 1)) sS ?_
    refine zaY [allF (s.2.take i0 ++ [u] ++ s.2.drop (i0 + 1)) (treeF h)] (zd4 _) sS ?_
    refine zlU (q := ⟨qA, qn, qc⟩) (L := ([u].map (nd h)).map NodeD.g) mE mE (by rw [List.length_map, List.length_map]; omega) (fun g0 eqA => ?_)
    replace eqA : qA = some ⟨g0, 0, none⟩ := eqA
    subst eqA
    refine zbs 13 (.bool true) rfl (by simp) ?_
    (repeat (refine gG ?_; try intro _))
    refine zas [0, 6] (Cut _ (fun v : Value => [(0, .pointer (some ⟨tg, 0, none⟩)), (6, .pointer (some ⟨sg, 0, none⟩)), (9, .int .u32 was), (12, .pointer (some ⟨g12, 0, none⟩)), (14, v)])
     (fun v => [own 0 53 1 v PE (((s.2.take i0 ++ [u] ++ s.2.drop (i0 + 1)).map (nd h)).map NodeD.g), blk g12 [.pointer (some ⟨(nd (h + 1) s).g, 0, none⟩), .int .i64 i0] 138, blk sg (stC l) 180, blk tg [.pointer (some ⟨(nd H t).g, 0, none⟩), .int .i64 ((L.length - 1 : Nat) : Int)] 55])
     (fun v => [allF (s.2.take i0 ++ [u] ++ s.2.drop (i0 + 1)) (treeF h), treeF H t])) rfl rfl kR ?_ (zaD fun v => ?_)
    ·skip
     refine gY hT 0 ?_
     refine gW hT 1 ?_
     refine gY hT 2 ?_
     refine gY hT 3 ?_
     refine gW hT 4 ?_
     try (refine zam 56 (.slice (nd (h + 1) s).C.A (nd (h + 1) s).C.n (nd (h + 1) s).C.c) rfl rfl ?_)
     refine gY hT 6 ?_
     refine gW hT 7 ?_
     refine gY hT 8 ?_
     refine gW hT 9 ?_
     refine gY hT 10 ?_
     try (refine zam 62 (.int .i64 ((i0 + 1 : Nat) : Int)) rfl rfl ?_)
     refine gY hT 11 ?_
     refine gP 5 ?_
     refine za3 (fun w hk => zdk (nd (h + 1) s).C.A (nd (h + 1) s).C.n (nd (h + 1) s).C.c (nd (h + 1) s).Cs w hCn (by omega) (hk.pR (sl (nd (h + 1) s).C.A 1 PE (nd (h + 1) s).Cs) mE)) rfl rfl rfl rfl rfl kR (fun _ => rfl) (fun v1 _ => ?_)
     refine ⟨sF, ?_⟩
     (refine zl2 v1 mE (by omega) (fun b1 c1 hv1 _ _ => ?_); subst hv1)
     refine gP 12 ?_
     refine zbZ (fun w hk => zcu 0 b1 (nd (h + 1) s).Cs.length c1 (nd (h + 1) s).Cs i0 (i0 + 1) (([u].map (nd h)).map NodeD.g) g0 qn qc w (hk.pO (own 0 53 1 (.slice (some ⟨b1, 0, none⟩) (nd (h + 1) s).Cs.length c1) PE (nd (h + 1) s).Cs) mE) (by omega) (by rw [List.length_map, List.length_map]; omega) (by rw [List.length_map, List.length_map]; omega) zq.c (by omega) (by omega) (by omega) (Nat.zero_le _) (hk.pR (blk g0 (flatF 1 PE (([u].map (nd h)).map NodeD.g)) 53) mE) (fun hne => hk.disR (own 0 53 1 (.slice (some ⟨b1, 0, none⟩) (nd (h + 1) s).Cs.length c1) PE (nd (h + 1) s).Cs) mE (blk g0 (flatF 1 PE (([u].map (nd h)).map NodeD.g)) 53) mE b1 rfl hne)) rfl rfl rfl rfl rfl kR uD (fun v2 => ?_)
     refine ⟨sF, ?_⟩
     (rw [eV])
     refine gY hT 13 ?_
     refine zak dK ?_
     exact ⟨_, fS, sA, sS⟩
    ·change GK _ _ [(0, .pointer (some ⟨tg, 0, none⟩)), (6, .pointer (some ⟨sg, 0, none⟩)), (9, .int .u32 was), (12, .pointer (some ⟨g12, 0, none⟩)), (14, v)] [own 0 53 1 v PE (((s.2.take i0 ++ [u] ++ s.2.drop (i0 + 1)).map (nd h)).map NodeD.g), blk g12 [.pointer (some ⟨(nd (h + 1) s).g, 0, none⟩), .int .i64 i0] 138, blk sg (stC l) 180, blk tg [.pointer (some ⟨(nd H t).g, 0, none⟩), .int .i64 ((L.length - 1 : Nat) : Int)] 55] [allF (s.2.take i0 ++ [u] ++ s.2.drop (i0 + 1)) (treeF h), treeF H t]
     refine zgo v mE (by rw [List.length_map, List.length_map, hLl]; omega) (fun b2 c2 hv _ _ => ?_)
     subst hv
     (repeat (refine gG ?_; try intro _))
     refine g_mv rfl ?_
     refine zj1 (fun w hk => zj7 (s.2.take i0 ++ [u] ++ s.2.drop (i0 + 1)) i0 0 b2 (((s.2.take i0 ++ [u] ++ s.2.drop (i0 + 1)).map (nd h)).map NodeD.g).length c2 w (by rw [List.length_map, List.length_map]) (by rw [hLl]; exact hi1) (by rw [hLl]; omega) (fun y hy => (hLok0 y hy).1) (fun y hy => (hLok0 y hy).2) (Nat.zero_le _) (hk.pO (own 0 53 1 (.slice (some ⟨b2, 0, none⟩) (((s.2.take i0 ++ [u] ++ s.2.drop (i0 + 1)).map (nd h)).map NodeD.g).length c2) PE (((s.2.take i0 ++ [u] ++ s.2.drop (i0 + 1)).map (nd h)).map NodeD.g)) mE) (hk.rR mE) (fun hS => hk.disR (own 0 53 1 (.slice (some ⟨b2, 0, none⟩) (((s.2.take i0 ++ [u] ++ s.2.drop (i0 + 1)).map (nd h)).map NodeD.g).length c2) PE (((s.2.take i0 ++ [u] ++ s.2.drop (i0 + 1)).map (nd h)).map NodeD.g)) mE (allF (s.2.take i0 ++ [u] ++ s.2.drop (i0 + 1)) (treeF h)) mE b2 rfl hS)) rfl rfl rfl rfl rfl kR uD sS (fun _ => rfl) (fun sj hJ hnj => ?_)
     obtain ⟨v3, ks3⟩ := sj
     replace hJ : JoinedR h (s.2.take i0 ++ [u] ++ s.2.drop (i0 + 1)) i0 ks3 := hJ
     replace hnj : New w [allF (s.2.take i0 ++ [u] ++ s.2.drop (i0 + 1)) (treeF h)] (allF ks3 (treeF h)) := hnj _ (.head _)
     have hk3l := zh5 hJ (fun y hy => (hLok0 y hy).1) (fun y hy => (hLok0 y hy).2)
     rw [hLl] at hk3l
     have hk3ok := (zfx (fun y hy => (hLok0 y hy).1) hJ).2
     change G _ _ _ _ ((68, v3) :: _) (own 0 53 1 v3 PE ((ks3.map (nd h)).map NodeD.g) :: _) (allF ks3 (treeF h) :: _)
     refine zc5 v3 mE (fun A3 c3 hv3 h31 _ _ => ?_)
     subst hv3
     refine zeZ [allF ks3 (treeF h)] (zd4 ks3) sS ?_
     refine g_mv rfl ?_; refine za4 (fun w hk => zdX A3 ((ks3.map (nd h)).map NodeD.g).length c3 (ks3.map (nd h)) w (by rw [List.length_map]) h31 (by rw [List.length_map, List.length_map]; omega) (fun d hd => by
      obtain ⟨y, hy, rfl⟩ := List.mem_map.1 hd
      exact ⟨by rw [← zeK (hk3ok y hy)]; exact zi6 (hk3ok y hy), zch (hk3ok y hy)⟩) (.cons (hk.rR mE) (.cons (zph (zhQ hk mE) (by decide)) .nil))) rfl rfl rfl rfl rfl kR sS (fun _ => rfl) (fun p2 hp2 hn2 => ?_)
     obtain ⟨⟨pA', pn, pc⟩, ds'⟩ := p2
     obtain ⟨hp1, hp2⟩ := hp2
     dsimp only at hp1 hp2
     obtain ⟨ts', e1', e2', e3'⟩ := zd6 hp2
     subst e1'
     refine zeZ [allF (ts'.map (nd (h + 1))) nodeF, allF ks3 (treeF h)] (zcP e2') sS ?_
     have hn3 : New w [treeF H t] (allF ts' (treeF (h + 1))) := (zcP e2').new fun ψ hψ => by
      rcases List.mem_cons.1 hψ with rfl | hψ
      ·exact New.of (hn2 _ (.tail _ (.head _)))
      ·obtain rfl := m1 hψ
       refine zlf hnj fun ψ hψ => ?_
       obtain rfl := m1 hψ
       refine (zc3 s [u] i0 (i0 + 1)).new fun χ hχ => ?_
       rcases List.mem_cons.1 hχ with rfl | hχ
       ·exact (zd3 hps).new fun y hy => New.self hy
       ·obtain rfl := m1 hχ
        exact zn
     (repeat (refine gG ?_; try intro _))
     rename_i g13
     refine g_mv rfl ?_; refine zaE (fun w hk => zcr sg l w (by omega) (hk.pO (blk sg (stC l) 180) mE)) rfl rfl rfl rfl rfl kR uD (fun ψ hψ => by first | (cases hψ; done) | (obtain rfl := m1 hψ; exact mE)) (fun _ => rfl) (fun _ => rfl) (fun _ _ => ?_)
     (repeat (refine gG ?_; try intro _))
     refine g_mv rfl (zat hT rfl rfl rfl rfl rfl (zhP l) sO rfl ?_)
     (repeat (refine gG ?_; try intro _))
     refine zag rfl ⟨h + 1, s, ts', A', C', l, ⟨pA', pn, pc⟩, g13⟩ ⟨hps, ⟨k1, c, [u], ks3, hk1, hk2, zr, by rw [← hi0]; exact hJ, e2', e3'⟩, by rw [List.length_map] at hp1; exact hp1, hn3⟩ (by simp) fS sA sS
end Go.Proofs.YtaghmffgoomebaaGreat.Tw
