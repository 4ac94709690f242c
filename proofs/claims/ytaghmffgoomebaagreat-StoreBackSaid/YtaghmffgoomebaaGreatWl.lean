/- walk.leaves: the leaves of a tree from a key on, as an iterator. -/
import Derived.Test.YtaghmffgoomebaaGreatWs
import Derived.Test.YtaghmffgoomebaaGreatGxY
set_option linter.unusedVariables false
set_option linter.unusedSimpArgs false
namespace Go.Proofs.YtaghmffgoomebaaGreat.Wk
open Go.RowKit Mem Nd Gx Sk Tw
open Tr hiding T row
set_option maxRecDepth 100000
set_option maxHeartbeats 1000000
def lvR (a0 : AT) (k : KeyD) (tg bt bk : Nat) (n : Int) : List Fact := [blk bt [.pointer (some ⟨tg, 0, none⟩)] 42, blk bk [.int .u16 k.v, .int .u32 k.b, .int .u64 k.s] 29, blk tg [.pointer (some ⟨(nd a0.h a0.t).g, 0, none⟩), .int .i64 n] 55, stF (some a0)]
theorem zh1 (a0 : AT) (k : KeyD) (tg bt bk : Nat) (n : Int) (ys : List (Tr.T 0)) (w1 : World) (ok : InT a0 a0) (h9 : a0.h ≤ 12) (hLF : LF a0.h a0.t k ys) (hB : Rds w1 (lvR a0 k tg bt bk n)) :
 IterOk Tryz.prog 139 [.pointer (some ⟨bt, 0, none⟩), .pointer (some ⟨bk, 0, none⟩)] (fun t : Tr.T 0 => [.pointer (some ⟨(nd 0 t).g, 0, none⟩)]) ys (lvR a0 k tg bt bk n) w1 := by
 intro l τ Γ Inv Dn t0 h0 hΓ hdis hY
 unfold lvR at hB hdis
 refine zab T (finE (Γ t0) w1) [Γ t0] [blk bt [.pointer (some ⟨tg, 0, none⟩)] 42, blk bk [.int .u16 k.v, .int .u32 k.b, .int .u64 k.s] 29, blk tg [.pointer (some ⟨(nd a0.h a0.t).g, 0, none⟩), .int .i64 n] 55, stF (some a0)] Tryz.func139 rfl Tryz.ntmps139 rfl (Kn.startM hΓ (fun b hb => (zaB hΓ.2 b).2 hb) (fun ψ hψ => ⟨hB.mem hψ, fun b h1 => hdis ψ hψ b h1⟩)) ?_
 refine za9 (g := bt) mE ?_
 refine za9 (g := bk) mE ?_
 (repeat (refine gG ?_; try intro _))
 refine cR (fun w hk => Ws.zcs w) (fun sg _ => ?_)
 (repeat' (first | (refine gH ?_; try intro _) | (refine g_mv rfl ?_; refine cb (fun w hk => zdr tg (.pointer (some ⟨(nd a0.h a0.t).g, 0, none⟩)) n w (hk.rR mE)) ?_) | (refine gS ?_ ?_ <;> intro _) | fail))
 refine zaY [stF (some a0)] ok.der sS ?_
 refine gL3 (fun (a : AT) (fs : (List (AT × Nat))) (zs : (List (Tr.T 0))) => (InT a0 a ∧ StkOk a0 fs a.h ∧ LF a.h a.t k zs ∧ ys = zs ++ rest fs)) (fun a fs zs => [(0, .func (.yield l) #[] #[]), (1, .pointer (some ⟨bt, 0, none⟩)), (2, .pointer (some ⟨bk, 0, none⟩)), (4, .pointer (some ⟨sg, 0, none⟩)), (5, .pointer (some ⟨(nd a.h a.t).g, 0, none⟩))]) (fun a fs zs => [blk sg (stC (stk fs)) 251, Γ t0]) (fun a fs zs => [treeF a.h a.t, row bk 0 [.int .u16 k.v, .int .u32 k.b, .int .u64 k.s], row bt 0 [.pointer (some ⟨tg, 0, none⟩)], blk bt [.pointer (some ⟨tg, 0, none⟩)] 42, blk bk [.int .u16 k.v, .int .u32 k.b, .int .u64 k.s] 29, blk tg [.pointer (some ⟨(nd a0.h a0.t).g, 0, none⟩), .int .i64 n] 55, stF (some a0)]) (fun a fs zs => a.h) a0 [] ys ⟨ok, .nil, hLF, by simp [rest]⟩ ?_
 rintro a fs zs hI
 obtain ⟨hin, hst, hlf, hys⟩ := hI
 have hll := hst.len
 obtain ⟨h, c⟩ := a
 dsimp only at hin hst hlf hll
 have hok : Tr.Ok h c := hin.ok
 refine zeV (t := c) mE ?_
 refine zeX (d := nd h c) mE ?_
 cases h with
 | succ h =>
   rw [show (nd (h + 1) c).leaf = false from hok.1.leaf]
   (repeat (refine gG ?_; try intro _))
   obtain ⟨q0, kd, zs', hq0, hkd, hlf', hzs⟩ := hlf
   have hkl : (nd (h + 1) c).Ks.length ≤ 6 := by rw [← zeK hok]; exact zf0 hin.rt
   have hc6 : c.2.length ≤ 6 := hin.rt.2.1
   refine cR (fun w hk => zlB (nd (h + 1) c) k w (zch hok) (by omega) hin.ks.nd (hk.rR mE)) (fun p hq => ?_)
   rw [zhk, keys_inner hok]
   rw [keys_inner hok] at hq
   obtain rfl : p = q0 := za2 hq hq0
   change G _ _ _ _ ((23, .int .i64 ((kidIx ((c.2.map (ents h)).map fstK) k p : Nat) : Int)) :: _) _ _
   obtain ⟨i0, hi⟩ : ∃ i0, i0 = kidIx ((c.2.map (ents h)).map fstK) k p := ⟨_, rfl⟩
   rw [← hi] at hkd hzs ⊢
   have hi0 := (List.getElem?_eq_some_iff.1 hkd).1
   (repeat (refine gG ?_; try intro _))
   refine g_mv rfl ?_; refine zaE (fun w hk => Ws.zcH sg (stk fs) ((nd (h + 1) c).g, i0 + 1) w (by rw [zez]; omega) (hk.pO (blk sg (stC (stk fs)) 251) mE)) rfl rfl rfl rfl rfl kR uD (fun ψ hψ => by first | (cases hψ; done) | (obtain rfl := m1 hψ; exact mE)) (fun _ => rfl) (fun _ => rfl) (fun s hs => ?_)
   rw [show stk fs ++ [((nd (h + 1) c).g, i0 + 1)] = stk ((⟨h + 1, c⟩, i0 + 1) :: fs) from (zeg (⟨h + 1, c⟩, i0 + 1) fs).symm]
   (repeat (refine gG ?_; try intro _))
   refine zib (sl (nd (h + 1) c).C.A 1 PE (nd (h + 1) c).Cs) (nodeF (nd (h + 1) c)) mE (fun w h => h _ fs_C) (zdc fs_C) ?_
   have hCs : (nd (h + 1) c).Cs = (c.2.map (nd h)).map NodeD.g := hok.1.Cs
   have hCn : (nd (h + 1) c).C.n = c.2.length := by rw [(zch hok).C.n, hCs, List.length_map, List.length_map]
   refine zht (enc := PE) (L := (nd (h + 1) c).Cs) i0 mE (by rw [hCs, List.length_map, List.length_map]; exact hi0) (by decide) (fun b0 o0 y0 eA hy0 => ?_)
   obtain rfl : (nd h kd).g = y0 := by
    rw [hCs, List.getElem?_map, List.getElem?_map, hkd] at hy0
    exact Option.some.inj hy0
   refine zaK 33 (.slice (some ⟨b0, o0, none⟩) (nd (h + 1) c).C.n (nd (h + 1) c).C.c) rfl (by rw [← eA]; rfl) ?_
   (repeat (refine gG ?_; try intro _))
   refine zdi (t := c) (c := kd) mE (List.mem_of_getElem? hkd) ?_
   refine zag rfl (⟨h, kd⟩, (⟨h + 1, c⟩, i0 + 1) :: fs, zs') ⟨hin.kid (List.mem_of_getElem? hkd), .cons hst hin, hlf', by rw [hys, hzs, zb1, List.append_assoc]⟩ (by dsimp only; omega) fS sA sS
 | zero =>
   rw [show (nd 0 c).leaf = true from hok.1.leaf]
   (repeat (refine gG ?_; try intro _))
   obtain rfl : zs = [c] := hlf
   refine gL4 (fun (cur : (Option (Tr.T 0))) (fl : (List (AT × Nat))) (kk : Nat) (t : τ) => (Inv kk t ∧ At a0 ys cur fl kk)) (fun cur fl kk t => [(0, .func (.yield l) #[] #[]), (4, .pointer (some ⟨sg, 0, none⟩)), (5, pO cur)]) (fun cur fl kk t => [blk sg (stC (stk fl)) 251, Γ t]) (fun cur fl kk t => [blk bt [.pointer (some ⟨tg, 0, none⟩)] 42, blk bk [.int .u16 k.v, .int .u32 k.b, .int .u64 k.s] 29, blk tg [.pointer (some ⟨(nd a0.h a0.t).g, 0, none⟩), .int .i64 n] 55, stF (some a0)]) (fun cur fl kk t => ys.length - kk) (some c) fs 0 t0 ⟨h0, ⟨Nat.zero_le _, hys, fun t ht => (by cases ht; exact ⟨hst, hin⟩), fun h => (by cases h)⟩⟩ ?_
   rintro cur fl kk t hI
   obtain ⟨hi2, hat⟩ := hI
   cases cur with
   | none =>
     obtain rfl := hat.done
     change GK _ _ [(0, .func (.yield l) #[] #[]), (4, .pointer (some ⟨sg, 0, none⟩)), (5, .pointer none)] _ _
     (repeat (refine gG ?_; try intro _))
     refine zdG hT rfl rfl .nil (fun w' hk => ?_)
     exact ⟨⟨_, rfl⟩, t, hk.outM (fun b hb => zbT b hb) mE, .inl hi2⟩
   | some lf =>
     obtain ⟨hy1, hy2, hy3⟩ := hat.next
     obtain ⟨hst2, hin2⟩ := hat.st lf rfl
     change GK _ _ [(0, .func (.yield l) #[] #[]), (4, .pointer (some ⟨sg, 0, none⟩)), (5, .pointer (some ⟨(nd 0 lf).g, 0, none⟩))] _ _
     (repeat (refine gG ?_; try intro _))
     refine zia Γ t (fun b t' => (b = true → Inv (kk + 1) t') ∧ (b = false → Dn t')) rfl rfl rfl rfl rfl rfl (fun w hk => hY kk lf t w hy1 hi2 (hk.outM (fun b hb => zbT b hb) mE)) uD (fun b t2 hJ => ?_)
     cases b with
     | false =>
       (repeat (refine gG ?_; try intro _))
       refine zdG hT rfl rfl .nil (fun w' hk => ?_)
       exact ⟨⟨_, rfl⟩, t2, hk.outM (fun b hb => zbT b hb) mE, .inr (hJ.2 rfl)⟩
     | true =>
       have hi3 := hJ.1 rfl
       have hl2 := hst2.len
       (repeat (refine gG ?_; try intro _))
       refine g_mv rfl ?_; refine zaE (fun w hk => Ws.zcr sg (stk fl) w (by rw [zez]; omega) (hk.pO (blk sg (stC (stk fl)) 251) mE)) rfl rfl rfl rfl rfl kR uD (fun ψ hψ => by first | (cases hψ; done) | (obtain rfl := m1 hψ; exact mE)) (fun _ => rfl) (fun _ => rfl) (fun s hs => ?_)
       (repeat (refine gG ?_; try intro _))
       rename_i g7
       refine g_mv rfl (zat hT rfl rfl rfl rfl rfl (zhP (stk fl)) sO rfl ?_)
       (repeat (refine gG ?_; try intro _))
       refine gL2 (fun (pl : (List (AT × Nat))) (gx : Nat) => ((∃ h, StkOk a0 pl h) ∧ rest pl = ys.drop (kk + 1))) (fun pl gx => [(0, .func (.yield l) #[] #[]), (4, .pointer (some ⟨sg, 0, none⟩)), (5, .pointer none), (7, .pointer (some ⟨gx, 0, none⟩)), (8, .bool (!(stk pl).isEmpty))]) (fun pl gx => [blk gx [pA (stk pl), pI (stk pl)] 244, blk sg (stC (stk pl).dropLast) 251, Γ t2]) (fun pl gx => [blk bt [.pointer (some ⟨tg, 0, none⟩)] 42, blk bk [.int .u16 k.v, .int .u32 k.b, .int .u64 k.s] 29, blk tg [.pointer (some ⟨(nd a0.h a0.t).g, 0, none⟩), .int .i64 n] 55, stF (some a0)]) (fun pl gx => pl.length) fl g7 ⟨⟨0, hst2⟩, hy3.symm⟩ ?_
       rintro pl gx hI
       obtain ⟨⟨h, hso⟩, hrest⟩ := hI
       cases pl with
       | nil =>
         change GK _ _ [(0, .func (.yield l) #[] #[]), (4, .pointer (some ⟨sg, 0, none⟩)), (5, .pointer none), (7, .pointer (some ⟨gx, 0, none⟩)), (8, .bool false)] [blk gx [.pointer none, .int .i64 0] 244, blk sg (stC []) 251, Γ t2] _
         (repeat (refine gG ?_; try intro _))
         refine zap (fun (u : Unit) => True) (fun u => [(0, .func (.yield l) #[] #[]), (4, .pointer (some ⟨sg, 0, none⟩)), (5, .pointer none)]) (fun u => [blk sg (stC []) 251, Γ t2]) (fun u => [blk bt [.pointer (some ⟨tg, 0, none⟩)] 42, blk bk [.int .u16 k.v, .int .u32 k.b, .int .u64 k.s] 29, blk tg [.pointer (some ⟨(nd a0.h a0.t).g, 0, none⟩), .int .i64 n] 55, stF (some a0)]) (fun u => 0) () rfl trivial fS sA sS ?_
         rintro u hI
         (repeat (refine gG ?_; try intro _))
         refine zag rfl (none, [], kk + 1, t2) ⟨hi3, hy2, by rw [← hrest]; rfl, fun t h => (by cases h), fun _ => rfl⟩ (by dsimp only; omega) fS sA sS
       | cons x pl =>
         cases hso with
         | @cons _ tt i _ hs hi =>
         have hll := hs.len
         have hok : Tr.Ok (h + 1) tt := hi.ok
         have hc6 : tt.2.length ≤ 6 := hi.rt.2.1
         have hl : (nd (h + 1) tt).K.n = tt.2.length := by rw [(zch hok).K.n, ← zeK hok]; rfl
         have hCs : (nd (h + 1) tt).Cs = (tt.2.map (nd h)).map NodeD.g := hok.1.Cs
         have hCn : (nd (h + 1) tt).C.n = tt.2.length := by rw [(zch hok).C.n, hCs, List.length_map, List.length_map]
         rw [zeg, zeG, zeF, List.dropLast_concat, show (!(stk pl ++ [frV (⟨h + 1, tt⟩, i)]).isEmpty) = true by simp]
         change GK _ _ _ [blk gx [.pointer (some ⟨(nd (h + 1) tt).g, 0, none⟩), .int .i64 i] 244, blk sg (stC (stk pl)) 251, Γ t2] _
         (repeat (refine gG ?_; try intro _))
         refine zaY [stF (some a0)] hi.der sS ?_
         refine zeV (t := tt) mE ?_
         refine zeX (d := nd (h + 1) tt) mE ?_
         by_cases hlt : i < tt.2.length
         ·obtain ⟨kd, hkd⟩ : ∃ kd, tt.2[i]? = some kd := ⟨tt.2[i], List.getElem?_eq_getElem hlt⟩
          have hkm := List.mem_of_getElem? hkd
          refine zas [0] (Cut _ (fun _ : Unit => [(0, .func (.yield l) #[] #[]), (4, .pointer (some ⟨sg, 0, none⟩)), (5, .pointer none), (7, .pointer (some ⟨gx, 0, none⟩)), (59, .bool true)]) (fun _ => [blk gx [.pointer (some ⟨(nd (h + 1) tt).g, 0, none⟩), .int .i64 i] 244, blk sg (stC (stk pl)) 251, Γ t2]) (fun _ => [row (nd (h + 1) tt).g 0 [.bool (nd (h + 1) tt).leaf, (nd (h + 1) tt).K.v, (nd (h + 1) tt).V.v, (nd (h + 1) tt).C.v, .int .u32 (nd (h + 1) tt).a], nodeF (nd (h + 1) tt), treeF (h + 1) tt, blk bt [.pointer (some ⟨tg, 0, none⟩)] 42, blk bk [.int .u16 k.v, .int .u32 k.b, .int .u64 k.s] 29, blk tg [.pointer (some ⟨(nd a0.h a0.t).g, 0, none⟩), .int .i64 n] 55, stF (some a0)])) rfl rfl kR ?_ (zaD fun _ => ?_)
          ·skip
           refine gY hT 0 ?_
           refine gW hT 1 ?_
           refine gY hT 2 ?_
           refine gW hT 3 ?_
           refine gP 4 ?_
           refine zau (fun w hk => zaX (nd (h + 1) tt).g [] (nd (h + 1) tt).leaf (nd (h + 1) tt).K (nd (h + 1) tt).V (nd (h + 1) tt).C (nd (h + 1) tt).a w (zbQ (hk.rR (φ := nodeF (nd (h + 1) tt)) mE)).1) rfl rfl rfl rfl rfl kR ?_
           refine ⟨sF, ?_⟩
           refine gY hT 5 ?_
           try (refine zam 59 (.bool true) rfl (congrArg Value.bool (zan (by omega))) ?_)
           refine zak dK ?_
           exact ⟨(), fS, sA, sS⟩
          ·(repeat (refine gG ?_; try intro _))
           refine g_mv rfl ?_; refine zaE (fun w hk => Ws.zcH sg (stk pl) ((nd (h + 1) tt).g, i + 1) w (by rw [zez]; omega) (hk.pO (blk sg (stC (stk pl)) 251) mE)) rfl rfl rfl rfl rfl kR uD (fun ψ hψ => by first | (cases hψ; done) | (obtain rfl := m1 hψ; exact mE)) (fun _ => rfl) (fun _ => rfl) (fun s hs2 => ?_)
           rw [show stk pl ++ [((nd (h + 1) tt).g, i + 1)] = stk ((⟨h + 1, tt⟩, i + 1) :: pl) from (zeg (⟨h + 1, tt⟩, i + 1) pl).symm]
           (repeat (refine gG ?_; try intro _))
           refine zc1 (sl (nd (h + 1) tt).C.A 1 PE (nd (h + 1) tt).Cs) (nodeF (nd (h + 1) tt)) mE (fun w h => h _ fs_C) (zdc fs_C) ?_
           refine zar (enc := PE) (L := (nd (h + 1) tt).Cs) i mE (by rw [hCs, List.length_map, List.length_map]; exact hlt) (by decide) (fun b0 o0 y0 eA hy0 => ?_)
           obtain rfl : (nd h kd).g = y0 := by
            rw [hCs, List.getElem?_map, List.getElem?_map, hkd] at hy0
            exact Option.some.inj hy0
           refine zas [0, 3, 5] (Cut _ (fun _ : Unit => [(0, .func (.yield l) #[] #[]), (4, .pointer (some ⟨sg, 0, none⟩)), (5, .pointer (some ⟨(nd h kd).g, 0, none⟩))]) (fun _ => [blk sg (stC (stk ((⟨h + 1, tt⟩, i + 1) :: pl))) 251, Γ t2]) (fun _ => [treeF (h + 1) tt, blk bt [.pointer (some ⟨tg, 0, none⟩)] 42, blk bk [.int .u16 k.v, .int .u32 k.b, .int .u64 k.s] 29, blk tg [.pointer (some ⟨(nd a0.h a0.t).g, 0, none⟩), .int .i64 n] 55, stF (some a0)])) rfl rfl kR ?_ (zaD fun _ => ?_)
           ·skip
            refine gY hT 0 ?_
            refine gW hT 1 ?_
            refine gY hT 2 ?_
            refine gY hT 3 ?_
            refine gW hT 4 ?_
            try (refine zam 72 (.slice (some ⟨b0, o0, none⟩) (nd (h + 1) tt).C.n (nd (h + 1) tt).C.c) rfl (by rw [← eA]; rfl) ?_)
            refine gY hT 5 ?_
            refine gW hT 6 ?_
            refine gY hT 7 ?_
            refine gW hT 8 ?_
            refine gY hT 9 ?_
            refine zak dK ?_
            exact ⟨(), fS, sA, sS⟩
           ·refine zdi (t := tt) (c := kd) mE hkm ?_
            refine gL2 (fun (a : AT) (fs : (List (AT × Nat))) => (InT a0 a ∧ StkOk a0 fs a.h ∧ lvs a.h a.t ++ rest fs = ys.drop (kk + 1))) (fun a fs => [(0, .func (.yield l) #[] #[]), (4, .pointer (some ⟨sg, 0, none⟩)), (5, .pointer (some ⟨(nd a.h a.t).g, 0, none⟩))]) (fun a fs => [blk sg (stC (stk fs)) 251, Γ t2]) (fun a fs => [treeF a.h a.t, blk bt [.pointer (some ⟨tg, 0, none⟩)] 42, blk bk [.int .u16 k.v, .int .u32 k.b, .int .u64 k.s] 29, blk tg [.pointer (some ⟨(nd a0.h a0.t).g, 0, none⟩), .int .i64 n] 55, stF (some a0)]) (fun a fs => a.h) ⟨h, kd⟩ ((⟨h + 1, tt⟩, i + 1) :: pl) ⟨hi.kid hkm, .cons hs hi, by rw [← hrest]; exact (zeC pl hkd).symm⟩ ?_
            rintro a fs hI
            obtain ⟨hin4, hst4, hr4⟩ := hI
            obtain ⟨h4, c⟩ := a
            dsimp only at hin4 hst4 hr4
            have hl4 := hst4.len
            have hok4 : Tr.Ok h4 c := hin4.ok
            refine zeV (t := c) mE ?_
            refine zeX (d := nd h4 c) mE ?_
            cases h4 with
            | zero =>
              rw [show (nd 0 c).leaf = true from hok4.1.leaf]
              (repeat (refine gG ?_; try intro _))
              refine zag rfl (some c, fs, kk + 1, t2) ⟨hi3, hy2, hr4.symm, fun t h => (by cases h; exact ⟨hst4, hin4⟩), fun h => (by cases h)⟩ (by dsimp only; omega) fS sA sS
            | succ h4 =>
              rw [show (nd (h4 + 1) c).leaf = false from hok4.1.leaf]
              have hCs4 : (nd (h4 + 1) c).Cs = (c.2.map (nd h4)).map NodeD.g := hok4.1.Cs
              have hCn4 : (nd (h4 + 1) c).C.n = c.2.length := by rw [(zch hok4).C.n, hCs4, List.length_map, List.length_map]
              have h04 : 0 < c.2.length := hok4.2.1
              obtain ⟨kd4, hkd4⟩ : ∃ kd, c.2[0]? = some kd := ⟨c.2[0], List.getElem?_eq_getElem h04⟩
              (repeat (refine gG ?_; try intro _))
              refine g_mv rfl ?_; refine zaE (fun w hk => Ws.zcH sg (stk fs) ((nd (h4 + 1) c).g, 1) w (by rw [zez]; omega) (hk.pO (blk sg (stC (stk fs)) 251) mE)) rfl rfl rfl rfl rfl kR uD (fun ψ hψ => by first | (cases hψ; done) | (obtain rfl := m1 hψ; exact mE)) (fun _ => rfl) (fun _ => rfl) (fun s hs4 => ?_)
              rw [show stk fs ++ [((nd (h4 + 1) c).g, 1)] = stk ((⟨h4 + 1, c⟩, 1) :: fs) from (zeg (⟨h4 + 1, c⟩, 1) fs).symm]
              (repeat (refine gG ?_; try intro _))
              refine zib (sl (nd (h4 + 1) c).C.A 1 PE (nd (h4 + 1) c).Cs) (nodeF (nd (h4 + 1) c)) mE (fun w h => h _ fs_C) (zdc fs_C) ?_
              refine zht (enc := PE) (L := (nd (h4 + 1) c).Cs) 0 mE (by rw [hCs4, List.length_map, List.length_map]; exact h04) (by decide) (fun b0 o0 y0 eA hy0 => ?_)
              obtain rfl : (nd h4 kd4).g = y0 := by
               rw [hCs4, List.getElem?_map, List.getElem?_map, hkd4] at hy0
               exact Option.some.inj hy0
              refine zaK 99 (.slice (some ⟨b0, o0, none⟩) (nd (h4 + 1) c).C.n (nd (h4 + 1) c).C.c) rfl (by rw [← eA]; rfl) ?_
              (repeat (refine gG ?_; try intro _))
              refine zdi (t := c) (c := kd4) mE (List.mem_of_getElem? hkd4) ?_
              refine zag rfl (⟨h4, kd4⟩, (⟨h4 + 1, c⟩, 1) :: fs) ⟨hin4.kid (List.mem_of_getElem? hkd4), .cons hst4 hin4, by rw [← hr4]; exact (zeC fs hkd4).symm.trans (zb1 c 0 fs)⟩ (by dsimp only; omega) fS sA sS
         ·refine zas [0] (Cut _ (fun _ : Unit => [(0, .func (.yield l) #[] #[]), (4, .pointer (some ⟨sg, 0, none⟩)), (5, .pointer none), (7, .pointer (some ⟨gx, 0, none⟩)), (59, .bool false)]) (fun _ => [blk gx [.pointer (some ⟨(nd (h + 1) tt).g, 0, none⟩), .int .i64 i] 244, blk sg (stC (stk pl)) 251, Γ t2]) (fun _ => [blk bt [.pointer (some ⟨tg, 0, none⟩)] 42, blk bk [.int .u16 k.v, .int .u32 k.b, .int .u64 k.s] 29, blk tg [.pointer (some ⟨(nd a0.h a0.t).g, 0, none⟩), .int .i64 n] 55, stF (some a0)])) rfl rfl kR ?_ (zaD fun _ => ?_)
          ·skip
           refine gY hT 0 ?_
           refine gW hT 1 ?_
           refine gY hT 2 ?_
           refine gW hT 3 ?_
           refine gP 4 ?_
           refine zau (fun w hk => zaX (nd (h + 1) tt).g [] (nd (h + 1) tt).leaf (nd (h + 1) tt).K (nd (h + 1) tt).V (nd (h + 1) tt).C (nd (h + 1) tt).a w (zbQ (hk.rR (φ := nodeF (nd (h + 1) tt)) mE)).1) rfl rfl rfl rfl rfl kR ?_
           refine ⟨sF, ?_⟩
           refine gY hT 5 ?_
           try (refine zam 59 (.bool false) rfl (congrArg Value.bool (zaj (by omega))) ?_)
           refine zak dK ?_
           exact ⟨(), fS, sA, sS⟩
          ·(repeat (refine gG ?_; try intro _))
           refine g_mv rfl ?_; refine zaE (fun w hk => Ws.zcr sg (stk pl) w (by rw [zez]; omega) (hk.pO (blk sg (stC (stk pl)) 251) mE)) rfl rfl rfl rfl rfl kR uD (fun ψ hψ => by first | (cases hψ; done) | (obtain rfl := m1 hψ; exact mE)) (fun _ => rfl) (fun _ => rfl) (fun s hs2 => ?_)
           (repeat (refine gG ?_; try intro _))
           refine g_mv rfl (zat hT rfl rfl rfl rfl rfl (zhP (stk pl)) sO rfl ?_)
           (repeat (refine gG ?_; try intro _))
           rename_i g8
           refine g_mv rfl (zat hT rfl rfl rfl rfl rfl (zhP (stk pl)) sO rfl ?_)
           (repeat (refine gG ?_; try intro _))
           refine zag rfl (pl, g8) ⟨⟨_, hs⟩, by rw [← hrest]; exact (zkQ pl (by omega)).symm⟩ (Nat.lt_succ_self _) fS sA sS
end Go.Proofs.YtaghmffgoomebaaGreat.Wk
