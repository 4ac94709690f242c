/- tree.way: the way down to a leaf. tree.Len, Root, New. The reference's rows (layer 31): Get, Floor, Ceil, Without, Set. The reference's Set (layer 31); the law's Step. -/
import Derived.Test.YtaghmffgoomebaaGreatGxP
import Derived.Test.YtaghmffgoomebaaGreatSk
set_option linter.unusedVariables false
set_option linter.unusedSimpArgs false
namespace Go.Proofs.YtaghmffgoomebaaGreat.Tw
open Go.RowKit Mem Nd Gx Sk
open Tr hiding T row
set_option maxRecDepth 100000
set_option maxHeartbeats 4000000
theorem zdu {H : Nat} {t : Tr.T H} {k : KeyD} {h : Nat} {s : Tr.T h} {l : List (Nat × Nat)} {A C : List EntD} (p : Pth t k h s l A C) (r : Root H t) : Root h s := by
 induction p with
 | root => exact r
 | down q hp hq hc ih => exact (ih.2.2 _ (List.mem_of_getElem? hc)).near.root
theorem zf0 {h : Nat} {t : Tr.T h} (g : Root h t) : ln h t ≤ 6 := by
 cases h with
 | zero => exact g.2
 | succ h => exact g.2.1
theorem zhk (K : List KeyD) (t : KeyD) (q : Nat) : max (findV K t q) 0 = (kidIx K t q : Int) := by
 unfold findV kidIx
 split <;> omega
theorem zch : ∀ {h : Nat} {t : Tr.T h}, Tr.Ok h t → (nd h t).Ok
 | 0, _, ok => ok.1.ok
 | _ + 1, _, ok => ok.1.ok
theorem znF {K : List KeyD} {t : KeyD} {q : Nat} (h : PosK K t q) (h0 : 0 < K.length) : kidIx K t q < K.length := by
 have hl := h.le
 unfold kidIx
 split
 ·rename_i hf
  have := zaQ.1 hf
  exact (List.getElem?_eq_some_iff.1 this).1
 ·omega
theorem zi6 : ∀ {h : Nat} {t : Tr.T h}, Tr.Ok h t → 0 < ln h t
 | 0, _, ok => ok.2
 | _ + 1, _, ok => ok.2.1
structure WayV where
 sg : Nat
 l : List (Nat × Nat)
 lf : Tr.T 0
 A : List EntD
 C : List EntD
theorem zks {H : Nat} (t : Tr.T H) (k : KeyD) (tg : Nat) (n : Int) (w : World) (ok : Tr.Ok H t) (rt : Root H t) (ha : AscK (keysOf (ents H t))) (hH : H ≤ 15) (hB : Rd1 w (blk tg [.pointer (some ⟨(nd H t).g, 0, none⟩), .int .i64 n] 55)) (hF : Rd1 w (treeF H t)) :
 Calls Tryz.prog 57 [.pointer (some ⟨tg, 0, none⟩), k.val].toArray w (Ret (fun p : WayV => Pth t k 0 p.lf p.l p.A p.C) (fun p => .tuple #[.pointer (some ⟨p.sg, 0, none⟩), .pointer (some ⟨(nd 0 p.lf).g, 0, none⟩)]) (fun p => [blk p.sg (stC p.l) 180]) w) := by
 refine zab T [] [] [row tg 0 [.pointer (some ⟨(nd H t).g, 0, none⟩), .int .i64 n], treeF H t] Tryz.func57 rfl Tryz.ntmps57 rfl (Rds.cons hB.row (.cons hF .nil)).kn ?_
 (repeat (refine gG ?_; try intro _))
 rename_i g3
 refine cR (fun w hk => zcs w) (fun sg _ => ?_)
 (repeat (refine gG ?_; try intro _))
 refine gL4 (fun (a : AT) (l : (List (Nat × Nat))) (A : (List EntD)) (C : (List EntD)) => Pth t k a.h a.t l A C) (fun a l A C => [(3, .pointer (some ⟨g3, 0, none⟩)), (6, .pointer (some ⟨sg, 0, none⟩)), (7, .pointer (some ⟨(nd a.h a.t).g, 0, none⟩))]) (fun a l A C => [blk sg (stC l) 180, blk g3 [.int .u16 k.v, .int .u32 k.b, .int .u64 k.s] 29]) (fun a l A C => [treeF a.h a.t, treeF H t]) (fun a l A C => a.h) ⟨H, t⟩ [] [] [] Pth.root ?_
 rintro a l A C hI
 obtain ⟨h, c⟩ := a
 have hok := hI.ok ok
 have hsz := zdu hI rt
 have hll := hI.len
 dsimp only at hok hsz hll
 refine zeV (t := c) mE ?_
 refine zeX (d := nd h c) mE ?_
 cases h with
 | zero =>
   rw [show (nd 0 c).leaf = true from hok.1.leaf]
   (repeat (refine gG ?_; try intro _))
   refine zad hT rfl rfl (.tmp rfl (.tmp rfl .nil)) (fun w' hk => ?_)
   exact Ret.mk ⟨sg, l, c, A, C⟩ hI rfl hk sA
 | succ h =>
   rw [show (nd (h + 1) c).leaf = false from hok.1.leaf]
   (repeat (refine gG ?_; try intro _))
   have hkl : (nd (h + 1) c).Ks.length ≤ 6 := by rw [← zeK hok]; exact zf0 hsz
   refine cR (fun w hk => zlB (nd (h + 1) c) k w (zch hok) (by omega) (zdR (h + 1) c hok (hI.asc ha)) (hk.rR mE)) (fun q hq => ?_)
   rw [zhk, keys_inner hok]
   rw [keys_inner hok] at hq
   have hq' : PosK ((c.2.map (ents h)).map fstK) k q := hq
   have hi0 : kidIx ((c.2.map (ents h)).map fstK) k q < c.2.length := by
    have h1 : 0 < ((c.2.map (ents h)).map fstK).length := by rw [List.length_map, List.length_map]; exact hok.2.1
    have h2 := znF hq' h1
    rw [List.length_map, List.length_map] at h2
    exact h2
   obtain ⟨kd, hkd⟩ : ∃ kd, c.2[kidIx ((c.2.map (ents h)).map fstK) k q]? = some kd := ⟨c.2[kidIx ((c.2.map (ents h)).map fstK) k q], List.getElem?_eq_getElem hi0⟩
   have hP := Pth.down q hI hq' hkd
   change G _ _ _ _ ((25, .int .i64 ((kidIx ((c.2.map (ents h)).map fstK) k q : Nat) : Int)) :: _) _ _
   obtain ⟨i0, hi⟩ : ∃ i0, i0 = kidIx ((c.2.map (ents h)).map fstK) k q := ⟨_, rfl⟩
   rw [← hi] at hP hi0 hkd ⊢
   (repeat (refine gG ?_; try intro _))
   refine g_mv rfl ?_; refine zaE (fun w hk => zcH sg l ((nd (h + 1) c).g, i0) w (by omega) (hk.pO (blk sg (stC l) 180) mE)) rfl rfl rfl rfl rfl kR uD (fun ψ hψ => by first | (cases hψ; done) | (obtain rfl := m1 hψ; exact mE)) (fun _ => rfl) (fun _ => rfl) (fun s hs => ?_)
   (repeat (refine gG ?_; try intro _))
   refine zib (sl (nd (h + 1) c).C.A 1 PE (nd (h + 1) c).Cs) (nodeF (nd (h + 1) c)) mE (fun w h => h _ fs_C) (zdc fs_C) ?_
   have hCs : (nd (h + 1) c).Cs = (c.2.map (nd h)).map NodeD.g := hok.1.Cs
   have hCn : (nd (h + 1) c).C.n = c.2.length := by rw [(zch hok).C.n, hCs, List.length_map, List.length_map]
   refine zht (enc := PE) (L := (nd (h + 1) c).Cs) i0 mE (by rw [hCs, List.length_map, List.length_map]; exact hi0) (by decide) (fun b0 o0 y0 eA hy0 => ?_)
   obtain rfl : (nd h kd).g = y0 := by
    rw [hCs, List.getElem?_map, List.getElem?_map, hkd] at hy0
    exact Option.some.inj hy0
   refine zaK 34 (.slice (some ⟨b0, o0, none⟩) (nd (h + 1) c).C.n (nd (h + 1) c).C.c) rfl (by rw [← eA]; rfl) ?_
   (repeat (refine gG ?_; try intro _))
   refine zdi (t := c) (c := kd) mE (List.mem_of_getElem? hkd) ?_
   refine zag rfl (⟨h, kd⟩, _, _, _) hP (by dsimp only; omega) fS sA sS
theorem zkr (k : KeyD) (tg : Nat) (n : Int) (w : World) (hB : Rd1 w (blk tg [.pointer none, .int .i64 n] 55)) :
 Calls Tryz.prog 57 [.pointer (some ⟨tg, 0, none⟩), k.val].toArray w (Ret (fun _ : Nat => True) (fun g => .tuple #[.pointer (some ⟨g, 0, none⟩), .pointer none]) (fun g => [blk g (stC []) 180]) w) := by
 refine zab T [] [] [row tg 0 [.pointer none, .int .i64 n]] Tryz.func57 rfl Tryz.ntmps57 rfl (Rds.cons hB.row .nil).kn ?_
 (repeat (refine gG ?_; try intro _))
 rename_i g3
 refine cR (fun w hk => zcs w) (fun sg _ => ?_)
 (repeat (refine gG ?_; try intro _))
 refine zap (fun (u : Unit) => True) (fun u => [(3, .pointer (some ⟨g3, 0, none⟩)), (6, .pointer (some ⟨sg, 0, none⟩)), (7, .pointer none)]) (fun u => [blk sg (stC []) 180]) (fun u => []) (fun u => 0) () rfl trivial fS sA sS ?_
 rintro u hI
 (repeat (refine gG ?_; try intro _))
 refine zad hT rfl rfl (.tmp rfl (.tmp rfl .nil)) (fun w' hk => ?_)
 exact Ret.mk sg trivial rfl hk sA
end Go.Proofs.YtaghmffgoomebaaGreat.Tw
namespace Go.Proofs.YtaghmffgoomebaaGreat.Tw
open Go.RowKit Mem Nd Gx Sk
open Tr hiding T row
set_option maxRecDepth 100000
set_option maxHeartbeats 4000000
def oV : Option EntD → Value
 | none => .agg #[.int .u16 0, .int .u32 0, .int .u64 0, .int .u32 0]
 | some y => y.val
theorem zcS (tg : Nat) (v : Value) (n : Int) (w : World) (hB : Rd1 w (blk tg [v, .int .i64 n] 55)) :
 Calls Tryz.prog 13 [.pointer (some ⟨tg, 0, none⟩)].toArray w fun e w' => e = .returned (.int .i64 n) ∧ Below w.heap.size w w' := by
 refine zab T [] [] [row tg 0 [v, .int .i64 n]] Tryz.func13 rfl Tryz.ntmps13 rfl (Rds.cons hB.row .nil).kn ?_
 (repeat (refine gG ?_; try intro _))
 refine zad hT rfl rfl (.tmp rfl .nil) (fun w' hk => ?_)
 exact ⟨rfl, hk.toBelow⟩
theorem zdr (tg : Nat) (v : Value) (n : Int) (w : World) (hB : Rd1 w (blk tg [v, .int .i64 n] 55)) :
 Calls Tryz.prog 21 [.pointer (some ⟨tg, 0, none⟩)].toArray w fun e w' => e = .returned v ∧ Below w.heap.size w w' := by
 refine zab T [] [] [row tg 0 [v, .int .i64 n]] Tryz.func21 rfl Tryz.ntmps21 rfl (Rds.cons hB.row .nil).kn ?_
 (repeat (refine gG ?_; try intro _))
 refine zad hT rfl rfl (.tmp rfl .nil) (fun w' hk => ?_)
 exact ⟨rfl, hk.toBelow⟩
end Go.Proofs.YtaghmffgoomebaaGreat.Tw
namespace Go.Proofs.YtaghmffgoomebaaGreat.Tw
open Go.RowKit Mem Nd Gx
open Tr hiding T row
set_option maxRecDepth 100000
set_option maxHeartbeats 4000000
theorem get_at {L : List EntD} {k : KeyD} {p : Nat} {y : EntD} (hy : L[p]? = some y) : getV L k p = if tB (y.k = k) = true then some y else none := by
 have hk : (keysOf L)[p]? = some y.k := by rw [List.getElem?_map, hy]; rfl
 unfold getV
 by_cases h : y.k = k
 ·rw [if_pos (zan (by rw [hk, h])), if_pos (zan h), hy]
 ·rw [if_neg (fun h2 => h (by have := zaQ.1 h2; rw [hk] at this; exact Option.some.inj this)), if_neg (fun h2 => h (zaQ.1 h2))]
theorem zpN {L : List EntD} {k : KeyD} : getV L k L.length = none := by
 unfold getV
 rw [if_neg (fun h => by
  have := zaQ.1 h
  rw [List.getElem?_eq_none (by rw [List.length_map]; omega)] at this
  cases this)]
theorem ziL (A : Option Addr) (n c : Nat) (L : List EntD) (k : KeyD) (w : World) (hn : n = L.length) (h9 : n ≤ 100000) (ha : AscK (keysOf L)) (hL : Rd1 w (sl A 4 EE L)) :
 Calls Tryz.prog 36 [.slice A n c, k.val].toArray w (Ret (PosK (keysOf L) k) (fun p => .tuple #[oV (getV L k p), .bool (getV L k p).isSome]) (fun _ => []) w) := by
 refine zab T [] [] [sl A 4 EE L] Tryz.func36 rfl Tryz.ntmps36 rfl (Rds.cons hL .nil).kn ?_
 (repeat (refine gG ?_; try intro _))
 rename_i g3 g4
 refine cR (fun w hk => zeB A n c L k w hn h9 ha (hk.rR mE)) (fun p hp => ?_)
 have hpl := hp.le
 rw [List.length_map] at hpl
 (repeat (refine gG ?_; try intro _))
 by_cases hlt : p < L.length
 ·obtain ⟨y, hy⟩ : ∃ y, L[p]? = some y := ⟨L[p], List.getElem?_eq_getElem hlt⟩
  refine zar (enc := EE) (L := L) p mE hlt (by decide) (fun b1 o1 y1 eA hy1 => ?_)
  subst eA
  obtain rfl : y = y1 := by rw [hy] at hy1; exact Option.some.inj hy1
  have hg := get_at (k := k) hy
  refine zaP [1, 2] rfl rfl kR ?_
  (repeat (first | refine zbC dK ?_ | refine zae dK rfl rfl (zcc (nw := true) hT rfl sI) sF ?_ | refine za5 dK rfl rfl sF ?_ | refine zae dK rfl rfl (zbp hT rfl rfl mE rfl rfl) sF ?_ | refine zae dK rfl rfl (zbn hT rfl rfl mE rfl rfl) sF ?_ | refine zae dK rfl rfl (za1 hT rfl rfl mE rfl rfl) sF ?_ | (refine zcm dK rfl ?_; (first | (refine zaT rfl rfl rfl rfl ?_; intro _) | (refine zay rfl hT rfl rfl ?_; intro _) | refine zat hT rfl rfl rfl rfl rfl rfl sO rfl ?_ | (refine zaa rfl hT rfl rfl rfl rfl rfl rfl rfl rfl ?_; intro _)); refine ⟨sF, ?_⟩) | refine zae dK rfl rfl (zby rfl rfl rfl rfl rfl kR) sF ?_ | refine zae dK rfl rfl (za8 rfl rfl rfl rfl rfl kR) sF ?_))
  refine zjn false rfl rfl (zaj (by omega)) ?_
  (repeat (first | refine zbC dK ?_ | refine zae dK rfl rfl (zcc (nw := true) hT rfl sI) sF ?_ | refine za5 dK rfl rfl sF ?_ | refine zae dK rfl rfl (zbp hT rfl rfl mE rfl rfl) sF ?_ | refine zae dK rfl rfl (zbn hT rfl rfl mE rfl rfl) sF ?_ | refine zae dK rfl rfl (za1 hT rfl rfl mE rfl rfl) sF ?_ | (refine zcm dK rfl ?_; (first | (refine zaT rfl rfl rfl rfl ?_; intro _) | (refine zay rfl hT rfl rfl ?_; intro _) | refine zat hT rfl rfl rfl rfl rfl rfl sO rfl ?_ | (refine zaa rfl hT rfl rfl rfl rfl rfl rfl rfl rfl ?_; intro _)); refine ⟨sF, ?_⟩) | refine zae dK rfl rfl (zby rfl rfl rfl rfl rfl kR) sF ?_ | refine zae dK rfl rfl (za8 rfl rfl rfl rfl rfl kR) sF ?_))
  refine zaJ rfl rfl (zaH _) (fun hx => ?_) (fun hx => ?_)
  ·have hne : ¬ y.k = k := fun h => hx ⟨by rw [h], by rw [h], by rw [h], trivial⟩
   rw [if_neg (fun h => hne (zaQ.1 h))] at hg
   (repeat (refine gG ?_; try intro _))
   refine zad hT rfl rfl (.cell rfl mE rfl rfl (.tmp rfl .nil)) (fun w' hk => ?_)
   exact Ret.mk p hp (by rw [hg]; rfl) hk sA
  ·have hx' := Classical.not_not.1 hx
   have heq : y.k = k := zeR hx'.1 hx'.2.1 hx'.2.2.1
   rw [if_pos (zan heq)] at hg
   (repeat (refine gG ?_; try intro _))
   refine zad hT rfl rfl (.cell rfl mE rfl rfl (.tmp rfl .nil)) (fun w' hk => ?_)
   exact Ret.mk p hp (by rw [hg]; rfl) hk sA
 ·have hpe : p = L.length := by omega
  refine zaP [1] rfl rfl kR ?_
  (repeat (first | refine zbC dK ?_ | refine zae dK rfl rfl (zcc (nw := true) hT rfl sI) sF ?_ | refine za5 dK rfl rfl sF ?_ | refine zae dK rfl rfl (zbp hT rfl rfl mE rfl rfl) sF ?_ | refine zae dK rfl rfl (zbn hT rfl rfl mE rfl rfl) sF ?_ | refine zae dK rfl rfl (za1 hT rfl rfl mE rfl rfl) sF ?_ | (refine zcm dK rfl ?_; (first | (refine zaT rfl rfl rfl rfl ?_; intro _) | (refine zay rfl hT rfl rfl ?_; intro _) | refine zat hT rfl rfl rfl rfl rfl rfl sO rfl ?_ | (refine zaa rfl hT rfl rfl rfl rfl rfl rfl rfl rfl ?_; intro _)); refine ⟨sF, ?_⟩) | refine zae dK rfl rfl (zby rfl rfl rfl rfl rfl kR) sF ?_ | refine zae dK rfl rfl (za8 rfl rfl rfl rfl rfl kR) sF ?_))
  refine zjn true rfl rfl (zan (by omega)) ?_
  (repeat (first | refine zbC dK ?_ | refine zae dK rfl rfl (zcc (nw := true) hT rfl sI) sF ?_ | refine za5 dK rfl rfl sF ?_ | refine zae dK rfl rfl (zbp hT rfl rfl mE rfl rfl) sF ?_ | refine zae dK rfl rfl (zbn hT rfl rfl mE rfl rfl) sF ?_ | refine zae dK rfl rfl (za1 hT rfl rfl mE rfl rfl) sF ?_ | (refine zcm dK rfl ?_; (first | (refine zaT rfl rfl rfl rfl ?_; intro _) | (refine zay rfl hT rfl rfl ?_; intro _) | refine zat hT rfl rfl rfl rfl rfl rfl sO rfl ?_ | (refine zaa rfl hT rfl rfl rfl rfl rfl rfl rfl rfl ?_; intro _)); refine ⟨sF, ?_⟩) | refine zae dK rfl rfl (zby rfl rfl rfl rfl rfl kR) sF ?_ | refine zae dK rfl rfl (za8 rfl rfl rfl rfl rfl kR) sF ?_))
  (repeat (refine gG ?_; try intro _))
  refine zad hT rfl rfl (.cell rfl mE rfl rfl (.tmp rfl .nil)) (fun w' hk => ?_)
  exact Ret.mk p hp (by rw [hpe, zpN]; rfl) hk sA
structure RowV where
 s : SlV
 M : List EntD
abbrev RetRow (I : List EntD → Prop) (RA : List Fact) (w : World) : Ending → World → Prop := RetS (fun r : RowV => r.s.Ok r.M.length ∧ I r.M) (fun r => r.s.v) (fun r => [sl r.s.A 4 EE r.M]) RA w
theorem zd8 (A : Option Addr) (n c : Nat) (L : List EntD) (k : KeyD) (w : World) (hs : (SlV.mk A n c).Ok L.length) (h9 : n ≤ 100000) (ha : AscK (keysOf L)) (hL : Rd1 w (sl A 4 EE L)) :
 Calls Tryz.prog 38 [.slice A n c, k.val].toArray w (RetRow (fun M => ∃ p, PosK (keysOf L) k p ∧ M = delAt L k p) [sl A 4 EE L] w) := by
 have hn : n = L.length := hs.n
 have hc : n ≤ c := hs.c
 refine zab T [] [] [sl A 4 EE L] Tryz.func38 rfl Tryz.ntmps38 rfl (Rds.cons hL .nil).kn ?_
 (repeat (refine gG ?_; try intro _))
 rename_i g3
 refine cR (fun w hk => zeB A n c L k w hn h9 ha (hk.rR mE)) (fun p hp => ?_)
 have hpl := hp.le
 rw [List.length_map] at hpl
 (repeat (refine gG ?_; try intro _))
 by_cases hlt : p < L.length
 ·obtain ⟨y, hy⟩ : ∃ y, L[p]? = some y := ⟨L[p], List.getElem?_eq_getElem hlt⟩
  have hky : (keysOf L)[p]? = some y.k := by rw [List.getElem?_map, hy]; rfl
  refine zar (enc := EE) (L := L) p mE hlt (by decide) (fun b1 o1 y1 eA hy1 => ?_)
  subst eA
  obtain rfl : y = y1 := by rw [hy] at hy1; exact Option.some.inj hy1
  refine zaP [0, 1] rfl rfl kR ?_
  (repeat (first | refine zbC dK ?_ | refine zae dK rfl rfl (zcc (nw := true) hT rfl sI) sF ?_ | refine za5 dK rfl rfl sF ?_ | refine zae dK rfl rfl (zbp hT rfl rfl mE rfl rfl) sF ?_ | refine zae dK rfl rfl (zbn hT rfl rfl mE rfl rfl) sF ?_ | refine zae dK rfl rfl (za1 hT rfl rfl mE rfl rfl) sF ?_ | (refine zcm dK rfl ?_; (first | (refine zaT rfl rfl rfl rfl ?_; intro _) | (refine zay rfl hT rfl rfl ?_; intro _) | refine zat hT rfl rfl rfl rfl rfl rfl sO rfl ?_ | (refine zaa rfl hT rfl rfl rfl rfl rfl rfl rfl rfl ?_; intro _)); refine ⟨sF, ?_⟩) | refine zae dK rfl rfl (zby rfl rfl rfl rfl rfl kR) sF ?_ | refine zae dK rfl rfl (za8 rfl rfl rfl rfl rfl kR) sF ?_))
  refine zjn false rfl rfl (zaj (by omega)) ?_
  (repeat (first | refine zbC dK ?_ | refine zae dK rfl rfl (zcc (nw := true) hT rfl sI) sF ?_ | refine za5 dK rfl rfl sF ?_ | refine zae dK rfl rfl (zbp hT rfl rfl mE rfl rfl) sF ?_ | refine zae dK rfl rfl (zbn hT rfl rfl mE rfl rfl) sF ?_ | refine zae dK rfl rfl (za1 hT rfl rfl mE rfl rfl) sF ?_ | (refine zcm dK rfl ?_; (first | (refine zaT rfl rfl rfl rfl ?_; intro _) | (refine zay rfl hT rfl rfl ?_; intro _) | refine zat hT rfl rfl rfl rfl rfl rfl sO rfl ?_ | (refine zaa rfl hT rfl rfl rfl rfl rfl rfl rfl rfl ?_; intro _)); refine ⟨sF, ?_⟩) | refine zae dK rfl rfl (zby rfl rfl rfl rfl rfl kR) sF ?_ | refine zae dK rfl rfl (za8 rfl rfl rfl rfl rfl kR) sF ?_))
  refine zaJ rfl rfl (zaH _) (fun hx => ?_) (fun hx => ?_)
  ·have hne : ¬ y.k = k := fun h => hx ⟨by rw [h], by rw [h], by rw [h], trivial⟩
   (repeat (refine gG ?_; try intro _))
   refine zad hT rfl rfl (.tmp rfl .nil) (fun w' hk => ?_)
   refine RetS.mk ⟨⟨some ⟨b1, o1, none⟩, n, c⟩, L⟩ ⟨hs, p, hp, ?_⟩ rfl hk (.cons (.rd hk mE (fun b hb => .inr ⟨_, .head _, hb⟩)) .nil)
   unfold delAt
   rw [if_neg (fun h => hne (by have := zaQ.1 h; rw [hky] at this; exact Option.some.inj this))]
  ·have hx' := Classical.not_not.1 hx
   have heq : y.k = k := zeR hx'.1 hx'.2.1 hx'.2.2.1
   (repeat (refine gG ?_; try intro _))
   refine zen (enc := EE) (L := L) p c mE (by omega) ?_
   refine zep (enc := EE) (L := L) (p + 1) c mE (by omega) ?_
   refine zas [0, 1] (Cut _ (fun v : Value => [(4, v)]) (fun v => [own 0 31 4 v EE ([] ++ L.take p ++ L.drop (p + 1))]) (fun _ => [])) rfl rfl kR ?_ (zaD fun v => ?_)
   ·skip
    refine gY hT 1 ?_
    refine gY hT 2 ?_
    refine zaz 3 rfl dK rfl rfl (zaU hT p rfl rfl rfl rfl rfl (by omega)) sF ?_
    refine gY hT 5 ?_
    refine gY hT 6 ?_
    refine gY hT 7 ?_
    try (refine zam 30 (.int .i64 ((p + 1 : Nat) : Int)) rfl rfl ?_)
    refine zaz 8 rfl dK rfl rfl (zav hT (p + 1) rfl rfl rfl rfl rfl (by omega)) sF ?_
    refine gP 0 ?_
    refine zcZ 4 EE rfl hT rfl rfl rfl rfl rfl (fun ge => ?_)
    refine ⟨sF, ?_⟩
    refine gP 4 ?_
    refine zac (L := []) rfl (L.take p) rfl rfl rfl rfl zb7 uD (zcG mE) (by rw [List.length_take]; omega) (by intro x j; rcases j with _ | _ | _ | j <;> rfl) (by rw [List.length_take]; simp only [List.length_nil]; unfold maxLen; omega) (by rw [List.length_take]; simp only [List.length_nil]; omega) (Nat.zero_le _) (fun v1 => ?_)
    refine ⟨sF, ?_⟩
    refine gP 9 ?_
    refine zac rfl (L.drop (p + 1)) rfl rfl rfl rfl zb7 uD (zcG mE) (by rw [List.length_drop]; omega) (by intro x j; rcases j with _ | _ | _ | j <;> rfl) (by rw [List.length_append, List.length_take, List.length_drop]; simp only [List.length_nil]; unfold maxLen; omega) (by rw [List.length_append, List.length_take, List.length_drop]; simp only [List.length_nil]; omega) (Nat.zero_le _) (fun v2 => ?_)
    refine ⟨sF, ?_⟩
    refine gY hT 10 ?_
    refine zak dK ?_
    exact ⟨_, fS, sA, sS⟩
   ·rw [List.nil_append]
    refine zaW _ uD (fun A2 c2 hA2 hA21 hA22 hA23 => ?_); subst hA2
    (repeat (refine gG ?_; try intro _))
    refine zad hT rfl rfl (.tmp rfl .nil) (fun w' hk => ?_)
    refine RetS.mk ⟨⟨A2, (L.take p ++ L.drop (p + 1)).length, c2⟩, L.take p ++ L.drop (p + 1)⟩ ⟨⟨rfl, hA21, hA22, hA23⟩, p, hp, ?_⟩ rfl hk (.cons (RS1.own hk mE) .nil)
    unfold delAt
    rw [if_pos (zan (by rw [hky, heq]))]
 ·refine zaP [0] rfl rfl kR ?_
  (repeat (first | refine zbC dK ?_ | refine zae dK rfl rfl (zcc (nw := true) hT rfl sI) sF ?_ | refine za5 dK rfl rfl sF ?_ | refine zae dK rfl rfl (zbp hT rfl rfl mE rfl rfl) sF ?_ | refine zae dK rfl rfl (zbn hT rfl rfl mE rfl rfl) sF ?_ | refine zae dK rfl rfl (za1 hT rfl rfl mE rfl rfl) sF ?_ | (refine zcm dK rfl ?_; (first | (refine zaT rfl rfl rfl rfl ?_; intro _) | (refine zay rfl hT rfl rfl ?_; intro _) | refine zat hT rfl rfl rfl rfl rfl rfl sO rfl ?_ | (refine zaa rfl hT rfl rfl rfl rfl rfl rfl rfl rfl ?_; intro _)); refine ⟨sF, ?_⟩) | refine zae dK rfl rfl (zby rfl rfl rfl rfl rfl kR) sF ?_ | refine zae dK rfl rfl (za8 rfl rfl rfl rfl rfl kR) sF ?_))
  refine zjn true rfl rfl (zan (by omega)) ?_
  (repeat (first | refine zbC dK ?_ | refine zae dK rfl rfl (zcc (nw := true) hT rfl sI) sF ?_ | refine za5 dK rfl rfl sF ?_ | refine zae dK rfl rfl (zbp hT rfl rfl mE rfl rfl) sF ?_ | refine zae dK rfl rfl (zbn hT rfl rfl mE rfl rfl) sF ?_ | refine zae dK rfl rfl (za1 hT rfl rfl mE rfl rfl) sF ?_ | (refine zcm dK rfl ?_; (first | (refine zaT rfl rfl rfl rfl ?_; intro _) | (refine zay rfl hT rfl rfl ?_; intro _) | refine zat hT rfl rfl rfl rfl rfl rfl sO rfl ?_ | (refine zaa rfl hT rfl rfl rfl rfl rfl rfl rfl rfl ?_; intro _)); refine ⟨sF, ?_⟩) | refine zae dK rfl rfl (zby rfl rfl rfl rfl rfl kR) sF ?_ | refine zae dK rfl rfl (za8 rfl rfl rfl rfl rfl kR) sF ?_))
  (repeat (refine gG ?_; try intro _))
  refine zad hT rfl rfl (.tmp rfl .nil) (fun w' hk => ?_)
  refine RetS.mk ⟨⟨A, n, c⟩, L⟩ ⟨hs, p, hp, ?_⟩ rfl hk (.cons (.rd hk mE (fun b hb => .inr ⟨_, .head _, hb⟩)) .nil)
  unfold delAt
  rw [if_neg (fun h => by
   have := zaQ.1 h
   rw [List.getElem?_eq_none (by rw [List.length_map]; omega)] at this
   cases this)]
end Go.Proofs.YtaghmffgoomebaaGreat.Tw
namespace Go.Proofs.YtaghmffgoomebaaGreat.Tw
open Go.RowKit Mem Nd Gx
open Tr hiding T row
set_option maxRecDepth 100000
set_option maxHeartbeats 4000000
theorem set_is {L : List EntD} {e : EntD} {p q : Nat} (ha : AscK (keysOf L)) (hp : PosK (keysOf L) e.k p) (hq : PosK (keysOf (delAt L e.k p)) e.k q) : (delAt L e.k p).take q ++ [e] ++ (delAt L e.k p).drop q = setAt L e p := by
 have hpl := hp.le
 rw [List.length_map] at hpl
 by_cases hf : tB ((keysOf L)[p]? = some e.k) = true
 ·have h1 := (List.getElem?_eq_some_iff.1 (zaQ.1 hf)).1
  rw [List.length_map] at h1
  have eM : delAt L e.k p = L.take p ++ L.drop (p + 1) := by unfold delAt; rw [if_pos hf]
  have hl1 : (L.take p).length = p := by rw [List.length_take]; omega
  rw [eM] at hq ⊢
  have hqp : PosK (keysOf (L.take p ++ L.drop (p + 1))) e.k p := by
   have hk : (keysOf (L.take p ++ L.drop (p + 1))).length = L.length - 1 := by rw [List.length_map, List.length_append, List.length_take, List.length_drop]; omega
   refine ⟨by rw [hk]; omega, fun m hm => ?_, fun m h2 h3 => ?_⟩
   ·have := hp.lo m hm
    have e1 : (keysOf (L.take p ++ L.drop (p + 1))).getD m default = (keysOf L).getD m default := by
     rw [List.getD_eq_getElem?_getD, List.getD_eq_getElem?_getD]
     congr 1
     rw [List.getElem?_map, List.getElem?_map, List.getElem?_append_left (by rw [hl1]; exact hm), List.getElem?_take, if_pos hm]
    rw [e1]; exact this
   ·rw [hk] at h3
    have e1 : (keysOf (L.take p ++ L.drop (p + 1))).getD m default = (keysOf L).getD (m + 1) default := by
     rw [List.getD_eq_getElem?_getD, List.getD_eq_getElem?_getD]
     congr 1
     rw [List.getElem?_map, List.getElem?_map, List.getElem?_append_right (by rw [hl1]; exact h2), List.getElem?_drop, hl1]
     congr 2
     omega
    rw [e1]
    exact hp.hi (m + 1) (by omega) (by rw [List.length_map]; omega)
  obtain rfl := za2 hq hqp
  rw [List.take_left' hl1, List.drop_left' hl1]
  unfold setAt
  rw [if_pos hf, List.set_eq_take_append_cons_drop, if_pos h1, List.append_assoc]
  rfl
 ·have eM : delAt L e.k p = L := by unfold delAt; rw [if_neg hf]
  rw [eM] at hq ⊢
  obtain rfl := za2 hq hp
  unfold setAt
  rw [if_neg hf]
theorem znj (A : Option Addr) (n c : Nat) (L : List EntD) (e : EntD) (w : World) (hs : (SlV.mk A n c).Ok L.length) (h9 : n ≤ 100000) (ha : AscK (keysOf L)) (hL : Rd1 w (sl A 4 EE L)) :
 Calls Tryz.prog 39 [.slice A n c, e.val].toArray w (RetRow (fun M => ∃ p, PosK (keysOf L) e.k p ∧ M = setAt L e p) [sl A 4 EE L] w) := by
 have hn : n = L.length := hs.n
 refine zab T [] [] [sl A 4 EE L] Tryz.func39 rfl Tryz.ntmps39 rfl (Rds.cons hL .nil).kn ?_
 (repeat (refine gG ?_; try intro _))
 rename_i g3
 refine g_mv rfl ?_; refine za4 (fun w hk => zd8 A n c L e.k w hs h9 ha (hk.rR mE)) rfl rfl rfl rfl rfl kR sS (fun _ => rfl) (fun r hr hn0 => ?_)
 obtain ⟨⟨A1, n1, c1⟩, M⟩ := r
 obtain ⟨hs1, p, hp, hM⟩ := hr
 dsimp only at hs1 hM
 have hn1 : n1 = M.length := hs1.n
 have hc1 : n1 ≤ c1 := hs1.c
 have hMl : M.length ≤ L.length := by rw [hM]; exact (ze7 (by have := hp.le; rw [List.length_map] at this; exact this)).1
 have haM : AscK (keysOf M) := by rw [hM]; exact zhz ha
 refine zaK 10 (.slice A1 n1 c1) rfl rfl ?_
 (repeat (refine gG ?_; try intro _))
 refine cR (fun w hk => zeB A1 n1 c1 M e.k w hn1 (by omega) haM (hk.rR (φ := sl A1 4 EE M) mE)) (fun q hq => ?_)
 have hql := hq.le
 rw [List.length_map] at hql
 have heq : M.take q ++ [e] ++ M.drop q = setAt L e p := by
  rw [hM] at hq ⊢
  exact set_is ha hp hq
 (repeat (refine gG ?_; try intro _))
 refine zen (enc := EE) (L := M) (A := A1) q c1 mE (by omega) ?_
 refine zep (enc := EE) (L := M) (A := A1) q c1 mE (by omega) ?_
 refine zas [0] (Cut _ (fun v : Value => [(4, v)]) (fun v => [own 0 31 4 v EE ([] ++ M.take q ++ [e] ++ M.drop q)]) (fun _ => [])) rfl rfl kR ?_ (zaD fun v => ?_)
 ·skip
  refine gY hT 1 ?_
  refine gY hT 2 ?_
  refine zaz 3 rfl dK rfl rfl (zaU hT q rfl rfl rfl rfl rfl (by omega)) sF ?_
  refine gW hT 5 ?_
  refine gY hT 8 ?_
  refine gY hT 9 ?_
  refine zaz 10 rfl dK rfl rfl (zav hT q rfl rfl rfl rfl rfl (by omega)) sF ?_
  refine gA2 0 6 ?_ ?_
  ·refine zcZ 4 EE rfl hT rfl rfl rfl rfl rfl (fun ge => ?_)
   refine ⟨sF, ?_⟩
   refine gA2 4 6 ?_ ?_
   ·refine zac (L := []) rfl (M.take q) rfl rfl rfl rfl zb7 uD (zcG mE) (by rw [List.length_take]; omega) (by intro x j; rcases j with _ | _ | _ | j <;> rfl) (by rw [List.length_take]; simp only [List.length_nil]; unfold maxLen; omega) (by rw [List.length_take]; simp only [List.length_nil]; omega) (Nat.zero_le _) (fun v1 => ?_)
    refine ⟨sF, ?_⟩
    first | refine gO 6 ?_ | (refine gX 6 ?_; intro _)
    refine gP 7 ?_
    refine zac rfl [e] rfl rfl rfl rfl zb7 uD (zah mE rfl) rfl (by intro x j; rcases j with _ | _ | _ | j <;> rfl) (by rw [List.length_append, List.length_take]; simp only [List.length_nil, List.length_cons]; unfold maxLen; omega) (by rw [List.length_append, List.length_take]; simp only [List.length_nil, List.length_cons]; omega) (Nat.zero_le _) (fun v2 => ?_)
    refine ⟨sF, ?_⟩
    refine gP 11 ?_
    refine zac rfl (M.drop q) rfl rfl rfl rfl zb7 uD (zcG mE) (by rw [List.length_drop]; omega) (by intro x j; rcases j with _ | _ | _ | j <;> rfl) (by rw [List.length_append, List.length_append, List.length_take, List.length_drop]; simp only [List.length_nil, List.length_cons]; unfold maxLen; omega) (by rw [List.length_append, List.length_append, List.length_take, List.length_drop]; simp only [List.length_nil, List.length_cons]; omega) (Nat.zero_le _) (fun v3 => ?_)
    refine ⟨sF, ?_⟩
    refine gY hT 12 ?_
    refine zak dK ?_
    exact ⟨_, fS, sA, sS⟩
   ·first | (refine zaT rfl rfl rfl rfl ?_; intro _) | (refine zay rfl hT rfl rfl ?_; intro _) | refine zat hT rfl rfl rfl rfl rfl rfl sO rfl ?_ | (refine zaa rfl hT rfl rfl rfl rfl rfl rfl rfl rfl ?_; intro _)
    refine ⟨sF, ?_⟩
    refine gP 4 ?_
    refine zac (L := []) rfl (M.take q) rfl rfl rfl rfl zb7 uD (zcG mE) (by rw [List.length_take]; omega) (by intro x j; rcases j with _ | _ | _ | j <;> rfl) (by rw [List.length_take]; simp only [List.length_nil]; unfold maxLen; omega) (by rw [List.length_take]; simp only [List.length_nil]; omega) (Nat.zero_le _) (fun v1 => ?_)
    refine ⟨sF, ?_⟩
    refine gP 7 ?_
    refine zac rfl [e] rfl rfl rfl rfl zb7 uD (zah mE rfl) rfl (by intro x j; rcases j with _ | _ | _ | j <;> rfl) (by rw [List.length_append, List.length_take]; simp only [List.length_nil, List.length_cons]; unfold maxLen; omega) (by rw [List.length_append, List.length_take]; simp only [List.length_nil, List.length_cons]; omega) (Nat.zero_le _) (fun v2 => ?_)
    refine ⟨sF, ?_⟩
    refine gP 11 ?_
    refine zac rfl (M.drop q) rfl rfl rfl rfl zb7 uD (zcG mE) (by rw [List.length_drop]; omega) (by intro x j; rcases j with _ | _ | _ | j <;> rfl) (by rw [List.length_append, List.length_append, List.length_take, List.length_drop]; simp only [List.length_nil, List.length_cons]; unfold maxLen; omega) (by rw [List.length_append, List.length_append, List.length_take, List.length_drop]; simp only [List.length_nil, List.length_cons]; omega) (Nat.zero_le _) (fun v3 => ?_)
    refine ⟨sF, ?_⟩
    refine gY hT 12 ?_
    refine zak dK ?_
    exact ⟨_, fS, sA, sS⟩
  ·first | (refine zaT rfl rfl rfl rfl ?_; intro _) | (refine zay rfl hT rfl rfl ?_; intro _) | refine zat hT rfl rfl rfl rfl rfl rfl sO rfl ?_ | (refine zaa rfl hT rfl rfl rfl rfl rfl rfl rfl rfl ?_; intro _)
   refine ⟨sF, ?_⟩
   refine gP 0 ?_
   refine zcZ 4 EE rfl hT rfl rfl rfl rfl rfl (fun ge => ?_)
   refine ⟨sF, ?_⟩
   refine gP 4 ?_
   refine zac (L := []) rfl (M.take q) rfl rfl rfl rfl zb7 uD (zcG mE) (by rw [List.length_take]; omega) (by intro x j; rcases j with _ | _ | _ | j <;> rfl) (by rw [List.length_take]; simp only [List.length_nil]; unfold maxLen; omega) (by rw [List.length_take]; simp only [List.length_nil]; omega) (Nat.zero_le _) (fun v1 => ?_)
   refine ⟨sF, ?_⟩
   refine gP 7 ?_
   refine zac rfl [e] rfl rfl rfl rfl zb7 uD (zah mE rfl) rfl (by intro x j; rcases j with _ | _ | _ | j <;> rfl) (by rw [List.length_append, List.length_take]; simp only [List.length_nil, List.length_cons]; unfold maxLen; omega) (by rw [List.length_append, List.length_take]; simp only [List.length_nil, List.length_cons]; omega) (Nat.zero_le _) (fun v2 => ?_)
   refine ⟨sF, ?_⟩
   refine gP 11 ?_
   refine zac rfl (M.drop q) rfl rfl rfl rfl zb7 uD (zcG mE) (by rw [List.length_drop]; omega) (by intro x j; rcases j with _ | _ | _ | j <;> rfl) (by rw [List.length_append, List.length_append, List.length_take, List.length_drop]; simp only [List.length_nil, List.length_cons]; unfold maxLen; omega) (by rw [List.length_append, List.length_append, List.length_take, List.length_drop]; simp only [List.length_nil, List.length_cons]; omega) (Nat.zero_le _) (fun v3 => ?_)
   refine ⟨sF, ?_⟩
   refine gY hT 12 ?_
   refine zak dK ?_
   exact ⟨_, fS, sA, sS⟩
 ·rw [List.nil_append, heq]
  refine zaW _ uD (fun A2 c2 hA2 hA21 hA22 hA23 => ?_); subst hA2
  (repeat (refine gG ?_; try intro _))
  refine zad hT rfl rfl (.tmp rfl .nil) (fun w' hk => ?_)
  exact RetS.mk ⟨⟨A2, (setAt L e p).length, c2⟩, setAt L e p⟩ ⟨⟨rfl, hA21, hA22, hA23⟩, p, hp, rfl⟩ rfl hk (.cons (RS1.own hk mE) .nil)
end Go.Proofs.YtaghmffgoomebaaGreat.Tw
