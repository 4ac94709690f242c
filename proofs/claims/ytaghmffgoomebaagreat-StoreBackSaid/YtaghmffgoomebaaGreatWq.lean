/- check.first: does each child begin with the key that its node has of it? check.entries: do all entries rise, are there as many as there should be? How far a queue of trees has come: there is one way. Calls of a tree as arguments, with what their keys are within; what a row has behind a change. -/
import Derived.Test.YtaghmffgoomebaaGreatCk
import Derived.Test.YtaghmffgoomebaaGreatTrB
import Derived.Test.YtaghmffgoomebaaGreatTr4
set_option linter.unusedVariables false
set_option linter.unusedSimpArgs false
namespace Go.Proofs.YtaghmffgoomebaaGreat.Ck
open Go.RowKit Mem Nd Gx Sk Tw Wk
open Tr hiding T row
set_option maxRecDepth 100000
set_option maxHeartbeats 1000000
def FirstP (Ks : List KeyD) (ds : List NodeD) : Prop := ∀ i d, ds[i]? = some d → d.Ks.length ≠ 0 ∧ d.Ks.getD 0 default = Ks.getD i default
theorem zkm (g : Nat) (lf : Bool) (KA CA : Option Addr) (kn kc cc : Nat) (V : SlV) (a : Int) (Ks : List KeyD) (ds : List NodeD) (w : World) (h9 : ds.length ≤ 1000000) (hlen : ds.length ≤ Ks.length) (hok : ∀ d ∈ ds, d.Ok) (hB : Rd1 w (row g 0 [.bool lf, .slice KA kn kc, V.v, .slice CA ds.length cc, .int .u32 a])) (hK : Rd1 w (sl KA 3 KE Ks)) (hC : Rd1 w (sl CA 1 PE (ds.map NodeD.g))) (hD : Rd1 w (allF ds nodeF)) (hkn : kn = Ks.length) :
 Calls Tryz.prog 55 [.pointer (some ⟨g, 0, none⟩)].toArray w fun e w' => e = .returned (.bool (tB (FirstP Ks ds))) ∧ Below w.heap.size w w' := by
 refine zab T [] [] [row g 0 [.bool lf, .slice KA kn kc, V.v, .slice CA ds.length cc, .int .u32 a], sl KA 3 KE Ks, sl CA 1 PE (ds.map NodeD.g), allF ds nodeF] Tryz.func55 rfl Tryz.ntmps55 rfl (Rds.cons hB (.cons hK (.cons hC (.cons hD .nil)))).kn ?_
 (repeat (refine gG ?_; try intro _))
 refine zap (fun (i : Nat) => (i ≤ ds.length ∧ ∀ j d, j < i → ds[j]? = some d → d.Ks.length ≠ 0 ∧ d.Ks.getD 0 default = Ks.getD j default)) (fun i => [(0, .pointer (some ⟨g, 0, none⟩)), (8, .slice CA ds.length cc), (9, .int .i64 ds.length), (10, .int .i64 i)]) (fun i => []) (fun i => [row g 0 [.bool lf, .slice KA kn kc, V.v, .slice CA ds.length cc, .int .u32 a], sl KA 3 KE Ks, sl CA 1 PE (ds.map NodeD.g), allF ds nodeF]) (fun i => ds.length - i) 0 rfl ⟨Nat.zero_le _, fun j d hj => absurd hj (by omega)⟩ fS sA sS ?_
 rintro i hI
 obtain ⟨hi, hA⟩ := hI
 by_cases hlt : i < ds.length
 ·obtain ⟨d, hd⟩ : ∃ d, ds[i]? = some d := ⟨ds[i], List.getElem?_eq_getElem hlt⟩
  have hdm := List.mem_of_getElem? hd
  have hdo := hok d hdm
  refine zar (enc := PE) (L := ds.map NodeD.g) i mE (by rw [List.length_map]; exact hlt) (by decide) (fun b1 o1 y1 eA hy1 => ?_)
  subst eA
  obtain rfl : d.g = y1 := by rw [List.getElem?_map, hd] at hy1; exact Option.some.inj hy1
  refine zgs (l := ds) (F := nodeF) (x := d) mE hdm ?_
  refine zeX (d := d) mE ?_
  refine zpJ (d := d) mE ?_
  obtain ⟨dA, hdA⟩ : ∃ x, x = d.K.A := ⟨_, rfl⟩
  obtain ⟨dc, hdc⟩ : ∃ x, x = d.K.c := ⟨_, rfl⟩
  have hKv : d.K.v = .slice dA d.Ks.length dc := by rw [hdA, hdc, ← hdo.K.n]; rfl
  have hdn := hdo.K.n
  rw [hKv, ← hdA]
  obtain ⟨k, hks⟩ : ∃ k, Ks[i]? = some k := ⟨Ks[i], List.getElem?_eq_getElem (by omega)⟩
  refine zar (enc := KE) (L := Ks) i mE (by omega) (by decide) (fun b2 o2 y2 eA hy2 => ?_)
  subst eA
  obtain rfl : k = y2 := by rw [hks] at hy2; exact Option.some.inj hy2
  (repeat' (first | (refine gH ?_; try intro _) | (refine gS ?_ ?_ <;> intro _) | fail))
  by_cases h0 : d.Ks.length = 0
  ·refine zas [0, 1, 2, 3, 4, 5] (Cut _ (fun _ : Unit => [(0, .pointer (some ⟨g, 0, none⟩)), (37, .bool true)]) (fun _ => []) (fun _ => [])) rfl rfl kR ?_ (zaD fun _ => ?_)
   ·skip
    refine gY hT 0 ?_
    refine gY hT 1 ?_
    refine gY hT 2 ?_
    first | refine gY hT 3 ?_ | refine gZ 3 ?_
    first | refine gZ 4 ?_ | (refine gP 4 ?_; (refine zau (fun w hk => zaX d.g [] d.leaf d.K d.V d.C d.a w (zbQ (hk.rR (φ := nodeF d) mE)).1) rfl rfl rfl rfl rfl kR ?_); refine ⟨sF, ?_⟩)
    first | refine gY hT 5 ?_ | refine gZ 5 ?_
    try (refine zam 20 (.bool true) rfl (congrArg Value.bool (zan (by omega))) ?_)
    refine gY hT 6 ?_
    refine gY hT 7 ?_
    first | refine gY hT 8 ?_ | refine gZ 8 ?_
    first | refine gY hT 9 ?_ | refine gZ 9 ?_
    first | refine gY hT 10 ?_ | refine gZ 10 ?_
    first | refine gW hT 11 ?_ | refine gZ 11 ?_
    first | refine gY hT 12 ?_ | refine gZ 12 ?_
    first | refine gW hT 13 ?_ | refine gZ 13 ?_
    first | refine gY hT 14 ?_ | refine gZ 14 ?_
    first | refine gY hT 15 ?_ | refine gZ 15 ?_
    first | refine gY hT 16 ?_ | refine gZ 16 ?_
    first | refine gW hT 17 ?_ | refine gZ 17 ?_
    first | refine gY hT 18 ?_ | refine gZ 18 ?_
    first | refine gY hT 19 ?_ | refine gZ 19 ?_
    first | refine gW hT 20 ?_ | refine gZ 20 ?_
    first | refine gY hT 21 ?_ | refine gZ 21 ?_
    refine gY hT 22 ?_
    refine zak dK ?_
    exact ⟨(), fS, sA, sS⟩
   ·(repeat (refine gG ?_; try intro _))
    refine zad hT rfl rfl (.tmp rfl .nil) (fun w' hk => ?_)
    refine ⟨?_, hk.toBelow⟩
    rw [zaj (fun h : FirstP Ks ds => (h i d hd).1 h0)]
    rfl
  ·obtain ⟨z, hz⟩ : ∃ z, d.Ks[0]? = some z := ⟨d.Ks[0], List.getElem?_eq_getElem (by omega)⟩
   refine zar (enc := KE) (L := d.Ks) 0 mE (by omega) (by decide) (fun b3 o3 y3 eA hy3 => ?_)
   subst eA
   obtain rfl : z = y3 := by rw [hz] at hy3; exact Option.some.inj hy3
   by_cases hzk : z = k
   ·refine zas [0, 1, 2, 3, 4, 5, 6, 7] (Cut _ (fun _ : Unit => [(0, .pointer (some ⟨g, 0, none⟩)), (8, .slice (some ⟨b1, o1, none⟩) ds.length cc), (9, .int .i64 ds.length), (10, .int .i64 i), (37, .bool false)]) (fun _ => []) (fun _ => [row g 0 [.bool lf, .slice (some ⟨b2, o2, none⟩) kn kc, V.v, .slice (some ⟨b1, o1, none⟩) ds.length cc, .int .u32 a], sl (some ⟨b2, o2, none⟩) 3 KE Ks, sl (some ⟨b1, o1, none⟩) 1 PE (ds.map NodeD.g), allF ds nodeF])) rfl rfl kR ?_ (zaD fun _ => ?_)
    ·skip
     refine gY hT 0 ?_
     refine gY hT 1 ?_
     refine gY hT 2 ?_
     first | refine gY hT 3 ?_ | refine gZ 3 ?_
     first | refine gZ 4 ?_ | (refine gP 4 ?_; (refine zau (fun w hk => zaX d.g [] d.leaf d.K d.V d.C d.a w (zbQ (hk.rR (φ := nodeF d) mE)).1) rfl rfl rfl rfl rfl kR ?_); refine ⟨sF, ?_⟩)
     first | refine gY hT 5 ?_ | refine gZ 5 ?_
     try (refine zam 20 (.bool false) rfl (congrArg Value.bool (zaj (by omega))) ?_)
     refine gY hT 6 ?_
     refine gY hT 7 ?_
     first | refine gY hT 8 ?_ | refine gZ 8 ?_
     first | refine gY hT 9 ?_ | refine gZ 9 ?_
     first | refine gY hT 10 ?_ | refine gZ 10 ?_
     first | refine gW hT 11 ?_ | refine gZ 11 ?_
     first | refine gY hT 12 ?_ | refine gZ 12 ?_
     first | refine gW hT 13 ?_ | refine gZ 13 ?_
     first | refine gY hT 14 ?_ | refine gZ 14 ?_
     first | refine gY hT 15 ?_ | refine gZ 15 ?_
     first | refine gY hT 16 ?_ | refine gZ 16 ?_
     first | refine gW hT 17 ?_ | refine gZ 17 ?_
     first | refine gY hT 18 ?_ | refine gZ 18 ?_
     first | refine gY hT 19 ?_ | refine gZ 19 ?_
     first | refine gW hT 20 ?_ | refine gZ 20 ?_
     first | refine zaz 21 rfl dK rfl rfl (za8 rfl rfl rfl rfl rfl kR) sF ?_ | refine gZ 21 ?_
     try (refine zam 36 (.bool false) rfl (congrArg Value.bool (zaj (fun h => h (by rw [hzk]; exact ⟨rfl, rfl, rfl, trivial⟩)))) ?_)
     refine gY hT 22 ?_
     refine zak dK ?_
     exact ⟨(), fS, sA, sS⟩
    ·(repeat (refine gG ?_; try intro _))
     refine zag rfl (i + 1) ⟨hlt, fun j d' hj hd' => ?_⟩ (by omega) fS sA sS
     by_cases e : j = i
     ·subst e
      rw [hd] at hd'
      obtain rfl := Option.some.inj hd'
      exact ⟨h0, by rw [getD_at hz, getD_at hks, hzk]⟩
     ·exact hA j d' (by omega) hd'
   ·refine zas [0, 1, 2, 3, 4, 5, 6, 7] (Cut _ (fun _ : Unit => [(0, .pointer (some ⟨g, 0, none⟩)), (37, .bool true)]) (fun _ => []) (fun _ => [])) rfl rfl kR ?_ (zaD fun _ => ?_)
    ·skip
     refine gY hT 0 ?_
     refine gY hT 1 ?_
     refine gY hT 2 ?_
     first | refine gY hT 3 ?_ | refine gZ 3 ?_
     first | refine gZ 4 ?_ | (refine gP 4 ?_; (refine zau (fun w hk => zaX d.g [] d.leaf d.K d.V d.C d.a w (zbQ (hk.rR (φ := nodeF d) mE)).1) rfl rfl rfl rfl rfl kR ?_); refine ⟨sF, ?_⟩)
     first | refine gY hT 5 ?_ | refine gZ 5 ?_
     try (refine zam 20 (.bool false) rfl (congrArg Value.bool (zaj (by omega))) ?_)
     refine gY hT 6 ?_
     refine gY hT 7 ?_
     first | refine gY hT 8 ?_ | refine gZ 8 ?_
     first | refine gY hT 9 ?_ | refine gZ 9 ?_
     first | refine gY hT 10 ?_ | refine gZ 10 ?_
     first | refine gW hT 11 ?_ | refine gZ 11 ?_
     first | refine gY hT 12 ?_ | refine gZ 12 ?_
     first | refine gW hT 13 ?_ | refine gZ 13 ?_
     first | refine gY hT 14 ?_ | refine gZ 14 ?_
     first | refine gY hT 15 ?_ | refine gZ 15 ?_
     first | refine gY hT 16 ?_ | refine gZ 16 ?_
     first | refine gW hT 17 ?_ | refine gZ 17 ?_
     first | refine gY hT 18 ?_ | refine gZ 18 ?_
     first | refine gY hT 19 ?_ | refine gZ 19 ?_
     first | refine gW hT 20 ?_ | refine gZ 20 ?_
     first | refine zaz 21 rfl dK rfl rfl (za8 rfl rfl rfl rfl rfl kR) sF ?_ | refine gZ 21 ?_
     try (refine zam 36 (.bool true) rfl (congrArg Value.bool (zan (fun h => hzk (zeR h.1 h.2.1 h.2.2.1)))) ?_)
     refine gY hT 22 ?_
     refine zak dK ?_
     exact ⟨(), fS, sA, sS⟩
    ·(repeat (refine gG ?_; try intro _))
     refine zad hT rfl rfl (.tmp rfl .nil) (fun w' hk => ?_)
     refine ⟨?_, hk.toBelow⟩
     rw [zaj (fun h : FirstP Ks ds => hzk (by have := (h i d hd).2; rw [getD_at hz, getD_at hks] at this; exact this))]
     rfl
 ·(repeat' (first | (refine gH ?_; try intro _) | (refine gS ?_ ?_ <;> intro _) | fail))
  refine zad hT rfl rfl (.tmp rfl .nil) (fun w' hk => ?_)
  refine ⟨?_, hk.toBelow⟩
  rw [zan (show FirstP Ks ds from fun j d hd => hA j d (by have := (List.getElem?_eq_some_iff.1 hd).1; omega) hd)]
  rfl
end Go.Proofs.YtaghmffgoomebaaGreat.Ck
namespace Go.Proofs.YtaghmffgoomebaaGreat.Ck
open Go.RowKit Mem Nd Gx Sk Tw Wk
open Tr hiding T row
set_option maxRecDepth 100000
set_option maxHeartbeats 1000000
noncomputable def entR (Z : List EntD) (n : Int) : Int := if tB (AscK (keysOf Z)) = true then (if (Z.length : Int) = n then 0 else 5) else 1
theorem zgg {Z : List EntD} {i : Nat} {e : EntD} (h : Z[i]? = some e) : (keysOf Z).getD i default = e.k := getD_at (by show (Z.map EntD.k)[i]? = _; rw [List.getElem?_map, h]; rfl)
theorem zjf (Z : List EntD) : (keysOf Z).length = Z.length := List.length_map ..
theorem zhB (a : Option AT) (tg : Nat) (n : Int) (f0 t0 : KeyD) (ys : List (Tr.T 0)) (Z : List EntD) (w : World) (hf0 : f0 = ⟨0, 0, 0⟩) (ht0 : t0 = maxK) (hl : LvO a f0 ys) (hu : UpTo t0 (rows ys)) (h9 : (rows ys).length ≤ 10000) (hZ : win f0 t0 (rows ys) = Z) (hB : Rd1 w (blk tg [rootV a, .int .i64 n] 55)) (hF : Rd1 w (stF a)) :
 Calls Tryz.prog 56 [.pointer (some ⟨tg, 0, none⟩)].toArray w fun e w' => e = .returned (.int .i64 (entR Z n)) ∧ Below w.heap.size w w' := by
 have hZl : Z.length ≤ 10000 := by rw [← hZ]; exact Nat.le_trans (zou f0 t0 _) h9
 refine zab T [] [] [blk tg [rootV a, .int .i64 n] 55, stF a] Tryz.func56 rfl Tryz.ntmps56 rfl (Rds.cons hB (.cons hF .nil)).kn ?_
 (repeat (refine gG ?_; try intro _))
 refine cR (fun w hk => zqb a tg n f0 t0 ys w hf0 ht0 hl hu h9 (hk.rR mE) (hk.rR mE)) (fun v _ => ?_)
 rw [hZ]
 refine zbE v uD (fun zA zc hv _ _ _ => ?_)
 subst hv
 refine zbw sE ?_
 (repeat (refine gG ?_; try intro _))
 refine zap (fun (i : Nat) => (i ≤ Z.length ∧ ∀ j, j + 1 < i → klt ((keysOf Z).getD j default) ((keysOf Z).getD (j + 1) default))) (fun i => [(0, .pointer (some ⟨tg, 0, none⟩)), (3, .slice zA Z.length zc), (8, .slice zA Z.length zc), (9, .int .i64 Z.length), (10, .int .i64 i)]) (fun i => []) (fun i => [sl zA 4 EE Z, blk tg [rootV a, .int .i64 n] 55]) (fun i => Z.length - i) 0 rfl ⟨Nat.zero_le _, fun j hj => absurd hj (by omega)⟩ fS sA sS ?_
 rintro i hI
 obtain ⟨hi, hA⟩ := hI
 by_cases hlt : i < Z.length
 ·obtain ⟨e, he⟩ : ∃ e, Z[i]? = some e := ⟨Z[i], List.getElem?_eq_getElem hlt⟩
  refine zar (enc := EE) (L := Z) i mE hlt (by decide) (fun b1 o1 y1 eA hy1 => ?_)
  subst eA
  obtain rfl : e = y1 := by rw [he] at hy1; exact Option.some.inj hy1
  (repeat' (first | (refine gH ?_; try intro _) | (refine gS ?_ ?_ <;> intro _) | fail))
  rename_i g5
  cases i with
  | zero =>
    refine zas [0, 1] (Cut _ (fun _ : Unit => [(0, .pointer (some ⟨tg, 0, none⟩)), (3, .slice (some ⟨b1, o1, none⟩) Z.length zc), (8, .slice (some ⟨b1, o1, none⟩) Z.length zc), (9, .int .i64 Z.length), (10, .int .i64 ((0 : Nat) : Int)), (28, .bool false)]) (fun _ => []) (fun _ => [sl (some ⟨b1, o1, none⟩) 4 EE Z, blk tg [rootV a, .int .i64 n] 55])) rfl rfl kR ?_ (zaD fun _ => ?_)
    ·skip
     refine gY hT 0 ?_
     refine gY hT 1 ?_
     try (refine zam 16 (.bool false) rfl (congrArg Value.bool (zaj (by omega))) ?_)
     refine gY hT 2 ?_
     first | refine gY hT 3 ?_ | refine gZ 3 ?_
     first | refine gY hT 4 ?_ | refine gZ 4 ?_
     first | refine gY hT 5 ?_ | refine gZ 5 ?_
     first | refine gY hT 6 ?_ | refine gZ 6 ?_
     first | refine gY hT 7 ?_ | refine gZ 7 ?_
     first | refine gW hT 8 ?_ | refine gZ 8 ?_
     first | refine gY hT 9 ?_ | refine gZ 9 ?_
     first | refine gW hT 10 ?_ | refine gZ 10 ?_
     first | refine gZ 11 ?_ | (refine gP 11 ?_; (first | (refine zaT rfl rfl rfl rfl ?_; intro _) | (refine zay rfl hT rfl rfl ?_; intro _) | refine zat hT rfl rfl rfl rfl rfl rfl sO rfl ?_ | (refine zaa rfl hT rfl rfl rfl rfl rfl rfl rfl rfl ?_; intro _)); refine ⟨sF, ?_⟩)
     first | refine gY hT 12 ?_ | refine gZ 12 ?_
     refine gY hT 13 ?_
     refine zak dK ?_
     exact ⟨(), fS, sA, sS⟩
    ·(repeat (refine gG ?_; try intro _))
     refine zag rfl 1 ⟨by omega, fun j hj => absurd hj (by omega)⟩ (by omega) fS sA sS
  | succ m =>
    obtain ⟨e0, he0⟩ : ∃ e, Z[m]? = some e := ⟨Z[m], List.getElem?_eq_getElem (by omega)⟩
    refine zar (enc := EE) (L := Z) m mE (by omega) (by decide) (fun b2 o2 y2 eA hy2 => ?_)
    injection eA with eA
    injection eA with e2 e3
    subst e2 e3
    obtain rfl : e0 = y2 := by rw [he0] at hy2; exact Option.some.inj hy2
    by_cases hlk : klt e0.k e.k
    ·refine zas [0, 1, 2] (Cut _ (fun _ : Unit => [(0, .pointer (some ⟨tg, 0, none⟩)), (3, .slice (some ⟨b1, o1, none⟩) Z.length zc), (8, .slice (some ⟨b1, o1, none⟩) Z.length zc), (9, .int .i64 Z.length), (10, .int .i64 ((m + 1 : Nat) : Int)), (28, .bool false)]) (fun _ => []) (fun _ => [sl (some ⟨b1, o1, none⟩) 4 EE Z, blk tg [rootV a, .int .i64 n] 55])) rfl rfl kR ?_ (zaD fun _ => ?_)
     ·skip
      refine gY hT 0 ?_
      refine gY hT 1 ?_
      try (refine zam 16 (.bool true) rfl (congrArg Value.bool (zan (by omega))) ?_)
      refine gY hT 2 ?_
      first | refine gY hT 3 ?_ | refine gZ 3 ?_
      first | refine gY hT 4 ?_ | refine gZ 4 ?_
      first | refine gY hT 5 ?_ | refine gZ 5 ?_
      try (refine zam 20 (.int .i64 (m : Nat)) rfl (by congr 1; omega) ?_)
      first | refine gY hT 6 ?_ | refine gZ 6 ?_
      first | refine gY hT 7 ?_ | refine gZ 7 ?_
      first | refine gW hT 8 ?_ | refine gZ 8 ?_
      first | refine gY hT 9 ?_ | refine gZ 9 ?_
      first | refine gW hT 10 ?_ | refine gZ 10 ?_
      first | refine gZ 11 ?_ | (refine gP 11 ?_; (refine zau (fun w hk => zb4 e0.k e.k w) rfl rfl rfl rfl rfl kR ?_); refine ⟨sF, ?_⟩)
      try (refine zam 26 (.bool true) rfl (congrArg Value.bool (zan hlk)) ?_)
      first | refine gY hT 12 ?_ | refine gZ 12 ?_
      refine gY hT 13 ?_
      refine zak dK ?_
      exact ⟨(), fS, sA, sS⟩
     ·(repeat (refine gG ?_; try intro _))
      refine zag rfl (m + 1 + 1) ⟨by omega, fun j hj => ?_⟩ (by omega) fS sA sS
      by_cases ej : j = m
      ·subst ej
       rw [zgg he0, zgg he]
       exact hlk
      ·exact hA j (by omega)
    ·refine zas [0, 1, 2] (Cut _ (fun _ : Unit => [(28, .bool true)]) (fun _ => []) (fun _ => [])) rfl rfl kR ?_ (zaD fun _ => ?_)
     ·skip
      refine gY hT 0 ?_
      refine gY hT 1 ?_
      try (refine zam 16 (.bool true) rfl (congrArg Value.bool (zan (by omega))) ?_)
      refine gY hT 2 ?_
      first | refine gY hT 3 ?_ | refine gZ 3 ?_
      first | refine gY hT 4 ?_ | refine gZ 4 ?_
      first | refine gY hT 5 ?_ | refine gZ 5 ?_
      try (refine zam 20 (.int .i64 (m : Nat)) rfl (by congr 1; omega) ?_)
      first | refine gY hT 6 ?_ | refine gZ 6 ?_
      first | refine gY hT 7 ?_ | refine gZ 7 ?_
      first | refine gW hT 8 ?_ | refine gZ 8 ?_
      first | refine gY hT 9 ?_ | refine gZ 9 ?_
      first | refine gW hT 10 ?_ | refine gZ 10 ?_
      first | refine gZ 11 ?_ | (refine gP 11 ?_; (refine zau (fun w hk => zb4 e0.k e.k w) rfl rfl rfl rfl rfl kR ?_); refine ⟨sF, ?_⟩)
      try (refine zam 26 (.bool false) rfl (congrArg Value.bool (zaj hlk)) ?_)
      first | refine gY hT 12 ?_ | refine gZ 12 ?_
      refine gY hT 13 ?_
      refine zak dK ?_
      exact ⟨(), fS, sA, sS⟩
     ·(repeat (refine gG ?_; try intro _))
      refine zad hT rfl rfl (.tmp rfl .nil) (fun w' hk => ?_)
      refine ⟨?_, hk.toBelow⟩
      unfold entR
      rw [if_neg (by rw [zaj (fun h : AscK (keysOf Z) => hlk (by have := h m (m + 1) (by omega) (by rw [zjf]; omega); rw [zgg he0, zgg he] at this; exact this))]; decide)]
      rfl
 ·have hasc : AscK (keysOf Z) := zjG fun j hj => hA j (by rw [zjf] at hj; omega)
  (repeat' (first | (refine gH ?_; try intro _) | (refine g_mv rfl ?_; refine cb (fun w hk => zcS tg (rootV a) n w (hk.rR mE)) ?_) | (refine gS ?_ ?_ <;> intro _) | fail))
  all_goals
   refine zad hT rfl rfl (.tmp rfl .nil) (fun w' hk => ?_)
   refine ⟨?_, hk.toBelow⟩
   unfold entR
   rw [if_pos (zan hasc)]
   split <;> first | rfl | (exfalso; omega)
end Go.Proofs.YtaghmffgoomebaaGreat.Ck
namespace Go.Proofs.YtaghmffgoomebaaGreat.Wk
open Go.RowKit Mem Nd Gx Sk Tw
open Tr hiding T row
theorem zgF {a : AT} {P : List AT} {i : Nat} (h : BfsR a P i) : ∀ {P' : List AT}, BfsR a P' i → P' = P := by
 induction h with
 | start =>
   intro P' h'
   cases h' with
   | start => rfl
 | @step Q i b h hb ih =>
   intro P' h'
   cases h' with
   | @step Q' _ b' h2 hb' =>
     obtain rfl := ih h2
     rw [hb] at hb'
     injection hb' with e
     rw [e]
theorem bfs_at {a : AT} {Q : List AT} {m : Nat} (h : BfsR a Q m) : ∀ i, i < m → ∃ P b S, BfsR a P i ∧ P[i]? = some b ∧ Q = P ++ b.kids ++ S := by
 induction h with
 | start => intro i hi; omega
 | @step Q m b h hb ih =>
   intro i hi
   by_cases hm : i = m
   ·subst hm
    exact ⟨Q, b, [], h, hb, by rw [List.append_nil]⟩
   ·obtain ⟨P, c, S, h1, h2, h3⟩ := ih i (by omega)
    exact ⟨P, c, S ++ b.kids, h1, h2, by rw [h3]; simp only [List.append_assoc]⟩
end Go.Proofs.YtaghmffgoomebaaGreat.Wk
namespace Go.Proofs.YtaghmffgoomebaaGreat.Wk
open Go.RowKit Mem Nd Gx Tw
open Go.ChangeShapes Go.WideShapes Go.Deep
open Tr hiding T row
set_option maxRecDepth 100000
end Go.Proofs.YtaghmffgoomebaaGreat.Wk
