/- Law 36: StoreBack. -/
import Derived.Test.YtaghmffgoomebaaGreatSvH
import Derived.Test.YtaghmffgoomebaaGreatStI
import Derived.Test.YtaghmffgoomebaaGreatSvD
import Derived.Test.YtaghmffgoomebaaGreatTx
set_option linter.unusedVariables false
set_option linter.unusedSimpArgs false
namespace Go.Proofs.YtaghmffgoomebaaGreat.St
open Go.RowKit Mem Gx Bytes Dk Al Rf Hp Nd Ch Tw
open Tr hiding T row
set_option maxRecDepth 100000
set_option maxHeartbeats 8000000
structure BkR (S : List SecD) (j : Nat) (a : Option AT) (M : List EntD) (s : SlV) (cL : List OpD) (was : List Int) (D : AlD) (k : Nat) (Wl : List (Nat × List Int)) (W : List WrD) : Prop where
 j2 : j ≤ 2
 one : j < 2 → M.length + cL.length ≤ 70 ∧ k ≤ 31
 ini : j = 0 → M.length + cL.length ≤ 60 ∧ k = 0
 hs : s.Ok M.length
 hc : ∀ o ∈ cL, o.e.Bd
 ha : AlI 90 D (alK 90 k)
 hd : DkOk S W
 hw : W.map WrD.c = ws Wl
 wl : Wl.length ≤ k
 wn : was.length ≤ 100
 hb : ∃ old, BkI (S.map SecD.L) a M k Wl old was
theorem zok (A : Option Addr) (n c : Nat) (L : List OpD) (A2 : Option Addr) (n2 c2 : Nat) (Lm : List OpD) (w : World) (hs0 : (SlV.mk A n c).Ok L.length) (hLb : ∀ o ∈ L, o.e.Bd) (hL : Rd1 w (sl A 5 CE L)) (hs2 : (SlV.mk A2 n2 c2).Ok Lm.length) (hMb : ∀ o ∈ Lm, o.e.Bd) (hM : Rd1 w (sl A2 5 CE Lm)) :
 Calls Tryz.prog 4 [.slice A n c, .slice A2 n2 c2].toArray w fun e w' => e = .returned (.bool true) ∧ Below w.heap.size w w' := by
 obtain ⟨hs1, hs12, hs13, hs14⟩ := hs0
 obtain ⟨ht1, ht2, ht3, ht4⟩ := hs2
 dsimp only at hs1 hs12 hs13 hs14 ht1 ht2 ht3 ht4
 subst hs1 ht1
 refine zab T [] [] [sl A 5 CE L, sl A2 5 CE Lm] Tryz.func4 rfl Tryz.ntmps4 rfl (Rds.cons hL (.cons hM .nil)).kn ?_
 by_cases hG : L.length ≤ 60 ∧ Lm.length ≤ 10
 case neg =>
  (repeat' (first | (refine gH ?_; try intro _) | (refine gS ?_ ?_ <;> intro _) | fail))
  all_goals (refine zad hT rfl rfl (.tmp rfl .nil) (fun w' hk => ?_); exact ⟨zcW (by simp [zed] <;> omega), hk.toBelow⟩)
 obtain ⟨hG1, hG2⟩ := hG
 (repeat' (first | (refine gH ?_; try intro _) | (refine gS ?_ ?_ <;> intro _) | fail))
 refine cR (fun w hk => zi2 90 w (by omega)) (fun q hq => ?_)
 obtain ⟨g, sv, S, pa, D⟩ := q
 obtain ⟨hD, hSl, hAI, hSm⟩ := hq
 dsimp only at hD hSl hAI hSm ⊢
 rw [← zoo] at hAI ⊢
 (repeat' (first | (refine gH ?_; try intro _) | (refine gS ?_ ?_ <;> intro _) | fail))
 rename_i pg tg
 refine zaY [] (φ := stF none) (Der.all fun x hx => by cases hx) (List.nil_subset _) ?_
 refine zlR (α := EntD) none 4 EE ?_
 refine zba (α := Int) none 1 (IE .u32) ?_
 refine zap (fun (q : Nat × (Option Addr) × Nat × (List OpD) × (Option AT) × (List EntD) × SlV × (Option Addr) × Nat × (List Int) × AlD × Nat × (List (Nat × List Int)) × Value × (List WrD)) => match q with | (j, cA, cc, cL, a, M, s, wA, wc, was, D, k, Wl, lv, W) => BkR S j a M s cL was D k Wl W ∧ (∀ b, (stF a).S b → w.heap.size ≤ b) ∧ (∀ b, (sl s.A 4 EE M).S b → w.heap.size ≤ b)) (fun (q : Nat × (Option Addr) × Nat × (List OpD) × (Option AT) × (List EntD) × SlV × (Option Addr) × Nat × (List Int) × AlD × Nat × (List (Nat × List Int)) × Value × (List WrD)) => match q with | (j, cA, cc, cL, a, M, s, wA, wc, was, D, k, Wl, lv, W) => [(0, .slice cA cL.length cc), (1, .slice A2 Lm.length c2), (5, .pointer (some ⟨pg, 0, none⟩)), (6, .pointer (some ⟨pa, 0, none⟩)), (8, .pointer (some ⟨tg, 0, none⟩)), (9, .slice s.A s.n s.c), (10, .slice wA was.length wc), (11, .int .i64 j)]) (fun (q : Nat × (Option Addr) × Nat × (List OpD) × (Option AT) × (List EntD) × SlV × (Option Addr) × Nat × (List Int) × AlD × Nat × (List (Nat × List Int)) × Value × (List WrD)) => match q with | (j, cA, cc, cL, a, M, s, wA, wc, was, D, k, Wl, lv, W) => [blk tg [rootV a, .int .i64 (M.length : Int)] 55, blk pg [.pointer (some ⟨g, 0, none⟩), .int .i64 ((4 : Nat) : Int)] 35, alF pa 90 D (alK 90 k), dkF g ⟨sv, lv, S, W⟩, sl wA 1 (IE .u32) was]) (fun (q : Nat × (Option Addr) × Nat × (List OpD) × (Option AT) × (List EntD) × SlV × (Option Addr) × Nat × (List Int) × AlD × Nat × (List (Nat × List Int)) × Value × (List WrD)) => match q with | (j, cA, cc, cL, a, M, s, wA, wc, was, D, k, Wl, lv, W) => [stF a, sl s.A 4 EE M, sl cA 5 CE cL, sl A2 5 CE Lm]) (fun (q : Nat × (Option Addr) × Nat × (List OpD) × (Option AT) × (List EntD) × SlV × (Option Addr) × Nat × (List Int) × AlD × Nat × (List (Nat × List Int)) × Value × (List WrD)) => match q with | (j, cA, cc, cL, a, M, s, wA, wc, was, D, k, Wl, lv, W) => 2 - j) (0, A, c, L, none, [], ⟨none, 0, 0⟩, none, 0, [], D, 0, [], .slice none 0 0, []) rfl ⟨⟨by omega, fun _ => ⟨by simpa using (by omega : L.length ≤ 70), by omega⟩, fun _ => ⟨by simpa using hG1, rfl⟩, SlV.zdx, hLb, hAI, hD, rfl, Nat.zero_le _, Nat.zero_le _, [], BkI.start _⟩, (fun b h => by obtain ⟨x, hx, _⟩ := h; cases hx), (fun b h => absurd h.1 (by simp))⟩ fS sA sS ?_
 rintro ⟨j, cA, cc, cL, a, M, s, wA, wc, was, D, k, Wl, lv, W⟩ hI
 replace hI : BkR S j a M s cL was D k Wl W ∧ (∀ b, (stF a).S b → w.heap.size ≤ b) ∧ (∀ b, (sl s.A 4 EE M).S b → w.heap.size ≤ b) := hI
 change GK _ _ [(0, .slice cA cL.length cc), (1, .slice A2 Lm.length c2), (5, .pointer (some ⟨pg, 0, none⟩)), (6, .pointer (some ⟨pa, 0, none⟩)), (8, .pointer (some ⟨tg, 0, none⟩)), (9, .slice s.A s.n s.c), (10, .slice wA was.length wc), (11, .int .i64 j)] [blk tg [rootV a, .int .i64 (M.length : Int)] 55, blk pg [.pointer (some ⟨g, 0, none⟩), .int .i64 ((4 : Nat) : Int)] 35, alF pa 90 D (alK 90 k), dkF g ⟨sv, lv, S, W⟩, sl wA 1 (IE .u32) was] [stF a, sl s.A 4 EE M, sl cA 5 CE cL, sl A2 5 CE Lm]
 obtain ⟨hR, hn1, hn2⟩ := hI
 by_cases hj : j < 2
 case neg =>
  have hj2 := hR.j2
  (repeat' (first | (refine gH ?_; try intro _) | (refine g_mv rfl ?_; refine cb (fun w hk => alive36 w) ?_) | (refine gS ?_ ?_ <;> intro _) | fail))
  all_goals (refine zad hT rfl rfl (.tmp rfl .nil) (fun w' hk => ?_); exact ⟨zcW (by simp [zed]), hk.toBelow⟩)
 obtain ⟨hlen, hk31⟩ := hR.one hj
 have hini := hR.ini
 obtain ⟨old, hB⟩ := hR.hb
 have hcb := hR.hc
 have hD := hR.hd
 have hAI := hR.ha
 have hWw := hR.hw
 have hWl := hR.wl
 have hwn := hR.wn
 have hs := hR.hs
 (repeat' (first | (refine gH ?_; try intro _) | (refine gS ?_ ?_ <;> intro _) | fail))
 refine gL4 (fun (a : (Option AT)) (M : (List EntD)) (s : SlV) (i : Nat) => BkI (S.map SecD.L) a M k Wl old was ∧ s.Ok M.length ∧ M.length + (cL.length - i) ≤ 70 ∧ (j = 0 → M.length + (cL.length - i) ≤ 60) ∧ i ≤ cL.length ∧ (∀ b, (stF a).S b → w.heap.size ≤ b) ∧ (∀ b, (sl s.A 4 EE M).S b → w.heap.size ≤ b)) (fun a M s i => [(0, .slice cA cL.length cc), (1, .slice A2 Lm.length c2), (5, .pointer (some ⟨pg, 0, none⟩)), (6, .pointer (some ⟨pa, 0, none⟩)), (8, .pointer (some ⟨tg, 0, none⟩)), (9, .slice s.A s.n s.c), (10, .slice wA was.length wc), (11, .int .i64 j), (12, .int .i64 i)]) (fun a M s i => [blk tg [rootV a, .int .i64 (M.length : Int)] 55, blk pg [.pointer (some ⟨g, 0, none⟩), .int .i64 ((4 : Nat) : Int)] 35, alF pa 90 D (alK 90 k), dkF g ⟨sv, lv, S, W⟩, sl wA 1 (IE .u32) was]) (fun a M s i => [stF a, sl s.A 4 EE M, sl cA 5 CE cL, sl A2 5 CE Lm]) (fun a M s i => cL.length - i) a M s 0 ⟨hB, hs, by omega, fun h => (by have := (hini h).1; omega), Nat.zero_le _, hn1, hn2⟩ ?_
 rintro a M s i hI
 clear hn1 hn2 hB hs
 obtain ⟨hB, hs, hl70, hl60, hin, hn1, hn2⟩ := hI
 by_cases hlt : i < cL.length
 ·--<round
  obtain ⟨y, hy⟩ : ∃ y, cL[i]? = some y := ⟨cL[i], List.getElem?_eq_getElem hlt⟩
  have hyb := hcb y (List.mem_of_getElem? hy)
  refine zar (enc := CE) (L := cL) i (show sl cA 5 CE cL ∈ _ from mE) (by omega) (by decide) (fun b1 o1 y1 eA hy1 => ?_)
  subst eA
  obtain rfl : y = y1 := by rw [hy] at hy1; exact Option.some.inj hy1
  (repeat' (first | (refine gH ?_; try intro _) | (refine gS ?_ ?_ <;> intro _) | fail))
  refine g_mv rfl ?_; refine zdW (fun w hk => zm7 a M s y tg w hB.has (by omega) hs (hk.pO (blk tg [rootV a, .int .i64 (M.length : Int)] 55) mE) (hk.rR (φ := stF a) mE) (hk.rR (φ := sl s.A 4 EE M) mE) (fun h => hk.disR (blk tg [rootV a, .int .i64 (M.length : Int)] 55) mE (stF a) mE tg rfl h) (fun h => hk.disR (blk tg [rootV a, .int .i64 (M.length : Int)] 55) mE (sl s.A 4 EE M) mE tg rfl h)) rfl rfl rfl rfl rfl kR uD sS (fun _ => rfl) (fun r hr hnr => ?_)
  have hM2 := zm6 hr
  have hnw : ∀ φ, φ ∈ [stF r.a, sl r.s.A 4 EE r.M] → ∀ b, φ.S b → w.heap.size ≤ b := fun φ hφ b hb => by
   rcases hnr φ hφ b hb with h | ⟨ψ, h1, h2⟩
   ·exact h
   rcases List.mem_cons.1 h1 with rfl | h1
   ·exact hn1 b h2
   ·obtain rfl := m1 h1
    exact hn2 b h2
  refine zaK 59 (.tuple #[.slice r.s.A r.s.n r.s.c, .bool true]) rfl rfl ?_
  (repeat (refine gG ?_; try intro _))
  refine zag rfl (r.a, r.M, r.s, i + 1) ⟨hB.step hr hyb, hr.ok, by omega, fun h => (by have := hl60 h; omega), by omega, hnw _ (.head _), hnw _ (.tail _ (.head _))⟩ (by dsimp only; omega) fS sA sS
 have hM70 : M.length ≤ 70 := by omega
 have hM60 : j = 0 → M.length ≤ 60 := fun h => by have := hl60 h; omega
 have haf := fun (D : AlD) (k : Nat) (w : World) (hAI : AlI 90 D (alK 90 k)) h => zff pa 90 D (alK 90 k) w hAI h
 simp only [zjI] at haf
 have hsn := hs.n
 (repeat' (first | (refine gH ?_; try intro _) | (refine gS ?_ ?_ <;> intro _) | fail))
 refine cB (fun w hk => haf D k w hAI (hk.rO (φ := alF pa 90 D (alK 90 k)) mE)) ?_
 cases a with
 | none =>
   obtain rfl : M = [] := hB.has
   have hsn0 : s.n = 0 := hsn
   (repeat (refine gG ?_; try intro _))
   refine cB (fun w hk => znf tg pa g 0 w (hk.rO (φ := blk tg [.pointer none, .int .i64 0] 55) mE)) ?_
   (repeat' (first | (refine gH ?_; try intro _) | (refine gS ?_ ?_ <;> intro _) | fail))
   refine zeW 1 rfl ?_
   (repeat' (first | (refine gH ?_; try intro _) | (refine gS ?_ ?_ <;> intro _) | fail))
   refine cR (fun w hk => zi5 g w) (fun u _ => ?_)
   (repeat' (first | (refine gH ?_; try intro _) | (refine gS ?_ ?_ <;> intro _) | fail))
   refine cB (fun w hk => zdm (zan rfl) (zih none none 0 0 0 0 [] [] w rfl rfl (by omega) Sl.nil Sl.nil)) ?_
   (repeat' (first | (refine gH ?_; try intro _) | (refine gS ?_ ?_ <;> intro _) | fail))
   refine cB (fun w hk => zcS u (.pointer none) 0 w (hk.rO (φ := blk u [.pointer none, .int .i64 0] 55) mE)) ?_
   (repeat' (first | (refine gH ?_; try intro _) | (refine gS ?_ ?_ <;> intro _) | fail))
   refine cB (fun w hk => haf D k w hAI (hk.rO (φ := alF pa 90 D (alK 90 k)) mE)) ?_
   (repeat' (first | (refine gH ?_; try intro _) | (refine gS ?_ ?_ <;> intro _) | fail))
   refine zba (α := Int) none 1 (IE .u32) ?_
   refine zag rfl (j + 1, A2, c2, Lm, none, [], s, none, 0, [], D, k, Wl, lv, W) ⟨⟨by omega, fun h => ⟨by simp; omega, hk31⟩, fun h => absurd h (by omega), hs, hMb, hAI, hD, hWw, hWl, Nat.zero_le _, [], BkI.nil⟩, hn1, hn2⟩ (by dsimp only; omega) fS sA sS
 | some a =>
   obtain ⟨h, t⟩ := a
   have hH : Has h t M := hB.has
   (repeat (refine gG ?_; try intro _))
   refine g_get (P := (gs h t).Nodup) (fun w hk => zjk hH.ok (by rw [hH.row]; exact hH.asc) (zpa (hk.rR (φ := stF (some (⟨h, t⟩ : AT))) mE)).1) (fun hnd => ?_)
   have HS := hB.save hnd
   have hN : (nds h t).length ≤ M.length / 2 + 1 := by
    have h1 := zmy hH
    have h2 := zlg h t
    have h3 : (⟨h, t⟩ : AT).cnt = Tr.cnt h t := rfl
    omega
   have hfr := fr_nds h t
   have hk0 : j = 0 → k = 0 := fun h => (hini h).2
   have hEb : ∀ e ∈ ents h t, e.Bd := by rw [hH.row]; exact hB.bd
   obtain ⟨t', ht'⟩ : ∃ t', t' = (svT h t ⟨k, [], Wl⟩).1 := ⟨_, rfl⟩
   obtain ⟨s', hs'⟩ : ∃ s', s' = (svT h t ⟨k, [], Wl⟩).2 := ⟨_, rfl⟩
   obtain ⟨PL, hPL⟩ : ∃ PL, PL = pl h t' := ⟨_, rfl⟩
   have hsl : s'.l = PL := by rw [hs', hPL, ht']; exact (zex h t ⟨k, [], Wl⟩).2
   have hsk : s'.k = k + fr h t := by rw [hs']; exact (zex h t ⟨k, [], Wl⟩).1
   have hsW : s'.W.length = Wl.length + fr h t := by rw [hs']; exact svT_W h t ⟨k, [], Wl⟩
   have hPn : PL.length = (nds h t).length := by rw [hPL, ht']; exact zoC h t _
   have hnn : (nds h t').length = (nds h t).length := by rw [ht']; exact zoI h t _
   have hgg : (nd h t').g = (nd h t).g := by rw [ht']; exact (zcF h t _).g
   obtain ⟨hpos, hlast⟩ : 0 < PL.length ∧ PL[PL.length - 1]? = some (nd h t').a := by rw [hPL]; exact zpk h t'
   have hWn : W.length = Wl.length := by
    have := congrArg List.length hWw
    unfold ws at this
    rw [List.length_map, List.length_map] at this
    exact this
   obtain ⟨ho, hPd, hdk, hda, hkp, hnx⟩ := HS
   rw [← ht', ← hs', ← hsk, ← hPL] at hnx
   rw [← ht', ← hPL] at hPd hkp
   rw [← ht', ← hs'] at hdk hda
   have hH' : Has h t' M := by rw [ht']; exact zkx _ hH
   have hj1 : j + 1 < 2 → M.length + Lm.length ≤ 70 ∧ s'.k ≤ 31 := fun h => by
    have h1 := hM60 (by omega)
    have h2 := hk0 (by omega)
    omega
   have hsv := fun w hnd h1 h2 h3 h4 => zpe t tg pa g 90 k (M.length : Int) sv lv S W Wl D w hH.ok (ziK h t hH.size) hEb hnd (fun d hd => by have := ho d hd; omega) (by omega) (by omega) (by omega) hSl ⟨hAI, hD, hWw⟩ (by omega) h1 h2 h3 h4
   rw [← hs', ← ht', hsl] at hsv
   have hd1 : Der [stF (some (⟨h, t⟩ : AT))] (hdF h t) := (zoX h t).trans fun ψ hψ => by obtain rfl := m1 hψ; exact zfr (⟨h, t⟩ : AT)
   have hd2 : Der [stF (some (⟨h, t⟩ : AT))] (slF h t) := (zoW h t).trans fun ψ hψ => by obtain rfl := m1 hψ; exact zfr (⟨h, t⟩ : AT)
   have hd3 : Der [slF h t] (slF h t') := by rw [ht']; exact zmn h t _
   have hnw : ∀ b, (hdF h t).S b → w.heap.size ≤ b := fun b hb => by
    obtain ⟨ψ, h1, h2⟩ := hd1.S b hb
    obtain rfl := m1 h1
    exact hn1 b h2
   have hn3 : ∀ b, (stF (some (⟨h, t'⟩ : AT))).S b → w.heap.size ≤ b := fun b hb => hn1 b (by rw [ht'] at hb; exact sv_S hb)
   refine zeZ [stF (some (⟨h, t⟩ : AT))] hd1 sS ?_
   refine zeZ [stF (some (⟨h, t⟩ : AT))] hd2 sS ?_
   refine zl5 (hdF h t) [slF h t, sl s.A 4 EE M, sl A2 5 CE Lm] mE sS (fun b hb => .inl (hnw b hb)) (fun w1 hw ψ hψ b hb hb2 => ?_) ?_
   ·have hp : (treeF h t).p w1 := (zfr (⟨h, t⟩ : AT)).p w1 fun ψ hψ => by obtain rfl := m1 hψ; exact hw _ mE
    rcases List.mem_cons.1 hψ with rfl | hψ
    ·exact znK hH.ok hH.size hp b hb2 hb
    rcases List.mem_cons.1 hψ with rfl | hψ
    ·exact zmh hp (hw _ mE) b hb hb2
    ·obtain rfl := m1 hψ
     have h1 := hM.2 b hb2
     have h2 := hnw b hb
     omega
   refine zcD [alF pa 90 D (alK 90 k), dkF g ⟨sv, lv, S, W⟩, hdF h t] [blk tg [.pointer (some ⟨(nd h t).g, 0, none⟩), .int .i64 (M.length : Int)] 55, blk pg [.pointer (some ⟨g, 0, none⟩), .int .i64 ((4 : Nat) : Int)] 35, sl wA 1 (IE .u32) was] sA ?_
   refine g_mv rfl (zax (φ := packF [alF pa 90 D (alK 90 k), dkF g ⟨sv, lv, S, W⟩, hdF h t]) (ψ := fun q : SvQ => packF [own 0 26 1 (.slice q.A PL.length q.c) (IE .u32) PL, alF pa 90 q.D (alK 90 s'.k), dkF g ⟨sv, q.lv, S, q.W⟩, hdF h t']) (fun w hk => by
    have r1 : Rd1 w (packF [alF pa 90 D (alK 90 k), dkF g ⟨sv, lv, S, W⟩, hdF h t]) := hk.rO mE
    have r2 : Rd1 w (slF h t) := hk.rR mE
    exact hsv w hnd (hk.rO (φ := blk tg [.pointer (some ⟨(nd h t).g, 0, none⟩), .int .i64 (M.length : Int)] 55) mE) r2 (fun b hb => ⟨fun e => Nd.apart hk (φ := packF [alF pa 90 D (alK 90 k), dkF g ⟨sv, lv, S, W⟩, hdF h t]) (ψ := blk tg [.pointer (some ⟨(nd h t).g, 0, none⟩), .int .i64 (M.length : Int)] 55) .here (.head _) b hb e, hk.disR (packF [alF pa 90 D (alK 90 k), dkF g ⟨sv, lv, S, W⟩, hdF h t]) mE (slF h t) mE b hb⟩) r1) rfl rfl rfl rfl rfl kR uD (fun q hq => ?_))
   obtain ⟨qA, qc, qD, qlv, qW⟩ := q
   obtain ⟨hAI', hD', hW'⟩ := hq
   dsimp only at hAI' hD' hW' ⊢
   have hfin : BkR S (j + 1) (some ⟨h, t'⟩) M s Lm PL qD s'.k s'.W qW := ⟨by omega, hj1, fun h => absurd h (by omega), hs, hMb, hAI', hD', hW', by omega, by omega, _, hnx⟩
   refine zbJ (l := [own 0 26 1 (.slice qA PL.length qc) (IE .u32) PL, alF pa 90 qD (alK 90 s'.k), dkF g ⟨sv, qlv, S, qW⟩, hdF h t']) sE ?_
   dsimp only [List.cons_append, List.nil_append]
   refine zl7 (.slice qA PL.length qc) mE hpos (fun b2 c3 hv _ _ => ?_)
   injection hv with e1 _ e3
   subst e1 e3
   refine zbE (.slice (some ⟨b2, 0, none⟩) PL.length qc) uD (fun A' c' e f1 f2 f3 => ?_)
   injection e with eA _ ec
   subst eA ec
   refine zbw (φ := hdF h t') sE ?_
   refine zeZ [slF h t] hd3 sS ?_
   refine zeZ [hdF h t', slF h t'] (zmo h t') sS ?_
   refine zl6 (φ := blk tg [.pointer (some ⟨(nd h t).g, 0, none⟩), .int .i64 (M.length : Int)] 55) (blk tg [rootV (some (⟨h, t'⟩ : AT)), .int .i64 (M.length : Int)] 55) sE (fun w1 hw => by
    show (blk tg [.pointer (some ⟨(nd h t').g, 0, none⟩), .int .i64 (M.length : Int)] 55).p w1
    rw [hgg]
    exact hw) (fun b hb => hb) ?_
   (repeat' (first | (refine gH ?_; try intro _) | (refine gS ?_ ?_ <;> intro _) | fail))
   refine g_yd rfl rfl ((zaG (S := [sl (some ⟨b2, 0, none⟩) 1 (IE .u32) PL]) (o0 := 0) (sz := 1) (enc := IE .u32) (L := PL) hT (PL.length - 1) (nd h t').a 0 rfl rfl rfl (by omega) hlast (at_sl mE) rfl rfl).ydS sF) ?_
   (repeat' (first | (refine gH ?_; try intro _) | (refine gS ?_ ?_ <;> intro _) | fail))
   refine zap (fun (i : Nat) => i ≤ PL.length) (fun i => [(1, .slice A2 Lm.length c2), (5, .pointer (some ⟨pg, 0, none⟩)), (6, .pointer (some ⟨pa, 0, none⟩)), (8, .pointer (some ⟨tg, 0, none⟩)), (9, .slice s.A s.n s.c), (10, .slice wA was.length wc), (11, .int .i64 j), (13, .int .i64 ((90 - k : Nat) : Int)), (14, .slice (some ⟨b2, 0, none⟩) PL.length qc), (15, .int .i64 0), (16, .int .u32 (nd h t').a), (17, .int .i64 (keptN was PL i : Nat)), (18, .int .i64 i)]) (fun i => [blk tg [rootV (some (⟨h, t'⟩ : AT)), .int .i64 (M.length : Int)] 55, blk pg [.pointer (some ⟨g, 0, none⟩), .int .i64 ((4 : Nat) : Int)] 35, alF pa 90 qD (alK 90 s'.k), dkF g ⟨sv, qlv, S, qW⟩, sl wA 1 (IE .u32) was, sl (some ⟨b2, 0, none⟩) 1 (IE .u32) PL]) (fun i => [stF (some (⟨h, t'⟩ : AT)), sl s.A 4 EE M, sl A2 5 CE Lm]) (fun i => PL.length - i) 0 rfl (Nat.zero_le _) fS sA sS ?_
   rintro i hI
   by_cases hiN : i < PL.length
   ·--<kept
    obtain ⟨y, hyi⟩ : ∃ y, PL[i]? = some y := ⟨PL[i], List.getElem?_eq_getElem hiN⟩
    have hks := zj6 (was := was) hyi
    have hkl := znH (was := was) (l := PL) (i := i)
    (repeat' (first | (refine gH ?_; try intro _) | (refine gS ?_ ?_ <;> intro _) | fail))
    refine g_yd rfl rfl ((zaG (S := [sl (some ⟨b2, 0, none⟩) 1 (IE .u32) PL]) (o0 := 0) (sz := 1) (enc := IE .u32) (L := PL) hT i y 0 rfl rfl rfl (by omega) hyi (at_sl mE) rfl rfl).ydS sF) ?_
    (repeat (refine gG ?_; try intro _))
    by_cases hm : y ∈ was
    ·rw [if_pos hm] at hks
     refine cB (fun w hk => zdm (zan hm) (zjB wA was.length wc was y w rfl (by unfold maxLen; omega) (hk.rO (φ := sl wA 1 (IE .u32) was) mE))) ?_
     (repeat' (first | (refine gH ?_; try intro _) | (refine gS ?_ ?_ <;> intro _) | fail))
     refine zbs 17 (.int .i64 (keptN was PL (i + 1) : Nat)) rfl (by rw [hks]; rfl) ?_
     refine zag rfl (i + 1) (by omega) (by omega) fS sA sS
    ·rw [if_neg hm] at hks
     refine cB (fun w hk => zdm (zaj hm) (zjB wA was.length wc was y w rfl (by unfold maxLen; omega) (hk.rO (φ := sl wA 1 (IE .u32) was) mE))) ?_
     (repeat' (first | (refine gH ?_; try intro _) | (refine gS ?_ ?_ <;> intro _) | fail))
     refine zbs 17 (.int .i64 (keptN was PL (i + 1) : Nat)) rfl (by rw [hks]; rfl) ?_
     refine zag rfl (i + 1) (by omega) (by omega) fS sA sS
   have hie : i = PL.length := by omega
   subst hie
   rw [← zlC] at hkp
   obtain ⟨kn, hkn⟩ : ∃ kn, kn = keptN was PL PL.length := ⟨_, rfl⟩
   rw [← hkn] at hkp ⊢
   have hld := fun w h0 => zny h t' M g sv qlv S qW w hH' (by omega) (by omega) hB.bd (fun d hd => by have := hda d hd; omega) (by rw [← hPL]; exact hPd) hD' (by have := congrArg List.length hW'; unfold ws at this; rw [List.length_map, List.length_map] at this; omega) hSl (by rw [hW']; exact hdk) h0
   rw [← hPL] at hld
   (repeat' (first | (refine gH ?_; try intro _) | (refine gS ?_ ?_ <;> intro _) | fail))
   refine cR (fun w hk => hld w (hk.rO (φ := dkF g ⟨sv, qlv, S, qW⟩) mE)) (fun x hx => ?_)
   obtain ⟨tg2, u, uA, uc⟩ := x
   obtain ⟨hu, hus⟩ := hx
   dsimp only at hu hus ⊢
   have hHu : Has h u M := zlx hu hH'
   have hM0 : 0 < M.length := by
    have h1 := (zaM h t hH.ok).1
    rw [hH.row] at h1
    exact h1
   (repeat' (first | (refine gH ?_; try intro _) | (refine gS ?_ ?_ <;> intro _) | fail))
   refine cB (fun w hk => zdm (zan rfl) (zih (some ⟨b2, 0, none⟩) uA PL.length qc PL.length uc PL PL w rfl rfl (by omega) (hk.pO (sl (some ⟨b2, 0, none⟩) 1 (IE .u32) PL) mE) (hk.pO (sl uA 1 (IE .u32) PL) mE))) ?_
   (repeat' (first | (refine gH ?_; try intro _) | (refine gS ?_ ?_ <;> intro _) | fail))
   refine cB (fun w hk => zcS tg2 (.pointer (some ⟨(nd h u).g, 0, none⟩)) (M.length : Int) w (hk.rO (φ := blk tg2 [.pointer (some ⟨(nd h u).g, 0, none⟩), .int .i64 (M.length : Int)] 55) mE)) ?_
   (repeat' (first | (refine gH ?_; try intro _) | (refine gS ?_ ?_ <;> intro _) | fail))
   refine cB (fun w hk => haf qD s'.k w hAI' (hk.rO (φ := alF pa 90 qD (alK 90 s'.k)) mE)) ?_
   (repeat' (first | (refine gH ?_; try intro _) | (refine gS ?_ ?_ <;> intro _) | fail))
   refine cB (fun w hk => zcV tg2 (.pointer (some ⟨(nd h u).g, 0, none⟩)) (.int .i64 (M.length : Int)) w ⟨_, rfl⟩ (hk.rO (φ := blk tg2 [.pointer (some ⟨(nd h u).g, 0, none⟩), .int .i64 (M.length : Int)] 55) mE)) ?_
   (repeat (refine gG ?_; try intro _))
   have hlow := Has.low hHu (by omega)
   have hsh := fun w h0 => zkE h (by omega) u true w hHu.ok hHu.size (fun h => by cases h) (by rw [hHu.row]; omega) h0
   rw [hHu.row] at hsh
   refine cR (fun w hk => hsh w (hk.rO (φ := treeF h u) mE)) (fun v3 _ => ?_)
   (repeat (refine gG ?_; try intro _))
   refine zc5 v3 mE (fun A3 c4 hv3 _ _ _ => ?_)
   subst hv3
   refine zbE (.slice A3 M.length c4) uD (fun A' c' e f1 f2 f3 => ?_)
   injection e with eA _ ec
   subst eA ec
   (repeat' (first | (refine gH ?_; try intro _) | (refine gS ?_ ?_ <;> intro _) | fail))
   refine cB (fun w hk => zjN A3 s.A M.length c4 s.n s.c M w rfl hsn (by omega) (hk.rO (φ := sl A3 4 EE M) mE) (hk.rR (φ := sl s.A 4 EE M) mE)) ?_
   (repeat' (first | (refine gH ?_; try intro _) | (refine gS ?_ ?_ <;> intro _) | fail))
   refine zag rfl (j + 1, A2, c2, Lm, some ⟨h, t'⟩, M, s, some ⟨b2, 0, none⟩, qc, PL, qD, s'.k, s'.W, qlv, qW) ⟨hfin, hn3, hn2⟩ (by dsimp only; omega) fS sA sS
end Go.Proofs.YtaghmffgoomebaaGreat.St
