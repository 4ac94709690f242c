/- The law's Same and Shape (layer 31). -/
import Derived.Test.YtaghmffgoomebaaGreatTrB
set_option linter.unusedVariables false
set_option linter.unusedSimpArgs false
namespace Go.Proofs.YtaghmffgoomebaaGreat.Tw
open Go.RowKit Mem Nd Gx
open Tr hiding T row
set_option maxRecDepth 100000
set_option maxHeartbeats 4000000
theorem zjN (A A' : Option Addr) (n c n' c' : Nat) (L : List EntD) (w : World) (hn : n = L.length) (hn' : n' = L.length) (h9 : L.length ≤ 100000) (h1 : Rd1 w (sl A 4 EE L)) (h2 : Rd1 w (sl A' 4 EE L)) :
 Calls Tryz.prog 22 [.slice A n c, .slice A' n' c'].toArray w fun e w' => e = .returned (.bool true) ∧ Below w.heap.size w w' := by
 refine zab T [] [] [sl A 4 EE L, sl A' 4 EE L] Tryz.func22 rfl Tryz.ntmps22 rfl (Rds.cons h1 (.cons h2 .nil)).kn ?_
 (repeat' (first | (refine gH ?_; try intro _) | (refine gS ?_ ?_ <;> intro _) | fail))
 refine zap (fun (i : Nat) => i ≤ L.length) (fun i => [(0, .slice A n c), (1, .slice A' n' c'), (5, .int .i64 i)]) (fun i => []) (fun i => [sl A 4 EE L, sl A' 4 EE L]) (fun i => L.length - i) 0 rfl (Nat.zero_le _) fS sA sS ?_
 rintro i hI
 by_cases hlt : i < L.length
 ·obtain ⟨y, hy⟩ : ∃ y, L[i]? = some y := ⟨L[i], List.getElem?_eq_getElem hlt⟩
  refine zar (enc := EE) (L := L) i (show sl A 4 EE L ∈ _ from mE) hlt (by decide) (fun b1 o1 y1 eA hy1 => ?_)
  subst eA
  obtain rfl : y = y1 := by rw [hy] at hy1; exact Option.some.inj hy1
  refine zar (enc := EE) (L := L) i (show sl A' 4 EE L ∈ _ from mE) hlt (by decide) (fun b2 o2 y2 eA hy2 => ?_)
  subst eA
  obtain rfl : y = y2 := by rw [hy] at hy2; exact Option.some.inj hy2
  (repeat' (first | (refine gH ?_; try intro _) | (refine gS ?_ ?_ <;> intro _) | fail))
  refine zaP [0, 1] rfl rfl kR ?_
  (repeat (first | refine zbC dK ?_ | refine zae dK rfl rfl (zcc (nw := true) hT rfl sI) sF ?_ | refine za5 dK rfl rfl sF ?_ | refine zae dK rfl rfl (zbp hT rfl rfl mE rfl rfl) sF ?_ | refine zae dK rfl rfl (zbn hT rfl rfl mE rfl rfl) sF ?_ | refine zae dK rfl rfl (za1 hT rfl rfl mE rfl rfl) sF ?_ | (refine zcm dK rfl ?_; (first | (refine zaT rfl rfl rfl rfl ?_; intro _) | (refine zay rfl hT rfl rfl ?_; intro _) | refine zat hT rfl rfl rfl rfl rfl rfl sO rfl ?_ | (refine zaa rfl hT rfl rfl rfl rfl rfl rfl rfl rfl ?_; intro _)); refine ⟨sF, ?_⟩) | refine zae dK rfl rfl (zby rfl rfl rfl rfl rfl kR) sF ?_ | refine zae dK rfl rfl (za8 rfl rfl rfl rfl rfl kR) sF ?_))
  refine zaJ rfl rfl (zaH _) (fun hx => absurd ⟨rfl, rfl, rfl, rfl, trivial⟩ hx) (fun hx => ?_)
  (repeat (refine gG ?_; try intro _))
  refine zag rfl (i + 1) (by omega) (by omega) fS sA sS
 ·(repeat' (first | (refine gH ?_; try intro _) | (refine gS ?_ ?_ <;> intro _) | fail))
  refine zad hT rfl rfl (.tmp rfl .nil) (fun w' hk => ?_)
  exact ⟨rfl, hk.toBelow⟩
theorem zhu {h : Nat} {ks : List (Tr.T h)} {i : Nat} {k : Tr.T h} (hk : ks[i]? = some k) : ((ks.take (i + 1)).map (ents h)).flatten = ((ks.take i).map (ents h)).flatten ++ ents h k := by
 have hi := (List.getElem?_eq_some_iff.1 hk)
 obtain ⟨h1, h2⟩ := hi
 rw [List.take_succ_eq_append_getElem h1, h2, List.map_append, List.flatten_append]
 simp
theorem zcb {h : Nat} {ks : List (Tr.T h)} (i : Nat) : (((ks.take i).map (ents h)).flatten).length ≤ ((ks.map (ents h)).flatten).length := by
 have : ks = ks.take i ++ ks.drop i := (List.take_append_drop i ks).symm
 conv => rhs; rw [this, List.map_append, List.flatten_append, List.length_append]
 omega
theorem zkE : ∀ (h : Nat) (h99 : h ≤ 100) (t : Tr.T h) (rt : Bool) (w : World), Tr.Ok h t → Root h t → (rt = false → Tr.Good h t) → (ents h t).length ≤ 1000 → Rd1 w (treeF h t) →
 Calls Tryz.prog 20 [.pointer (some ⟨(nd h t).g, 0, none⟩), .bool rt].toArray w (Ret (fun _ : Value => True) (fun v => .tuple #[.int .i64 ((h + 1 : Nat) : Int), v, .bool true]) (fun v => [own 0 31 4 v EE (ents h t)]) w) := by
 intro h
 induction h with
 | zero =>
   intro h99 t rt w ok rt1 gd h9 hF
   have hl : (nd 0 t).K.n = t.2.length := by rw [(zch ok).K.n, ← zeK ok]; rfl
   have h1 : 1 ≤ t.2.length := rt1.1
   have h6 : t.2.length ≤ 6 := rt1.2
   have h3 : rt = false → 3 ≤ t.2.length := fun e => (gd e).1
   refine zab T [] [] [nodeF (nd 0 t)] Tryz.func20 rfl Tryz.ntmps20 rfl (Rds.cons (zdS hF) .nil).kn ?_
   refine zeX (d := nd 0 t) mE ?_
   rw [show (nd 0 t).leaf = true from ok.1.leaf]
   cases rt with
   | false =>
     have h3' := h3 rfl
     (repeat' (first | (refine gH ?_; try intro _) | (refine g_mv rfl ?_; refine cb (fun w hk => zaX (nd 0 t).g [] (nd 0 t).leaf (nd 0 t).K (nd 0 t).V (nd 0 t).C (nd 0 t).a w (zbQ (hk.rR (φ := nodeF (nd 0 t)) mE)).1) ?_) | (refine gS ?_ ?_ <;> intro _) | fail))
     refine cR (fun w hk => zaZ (nd 0 t) t.2 w ok.1 (by omega) (hk.rR (φ := nodeF (nd 0 t)) mE)) (fun v1 _ => ?_)
     (repeat (refine gG ?_; try intro _))
     refine cR (fun w hk => zaZ (nd 0 t) t.2 w ok.1 (by omega) (hk.rR (φ := nodeF (nd 0 t)) mE)) (fun v2 _ => ?_)
     refine zc5 v2 mE (fun A2 c2 hv _ _ _ => ?_)
     subst hv
     (repeat' (first | (refine gH ?_; try intro _) | (refine g_mv rfl ?_; refine cb (fun w hk => zaX (nd 0 t).g [] (nd 0 t).leaf (nd 0 t).K (nd 0 t).V (nd 0 t).C (nd 0 t).a w (zbQ (hk.rR (φ := nodeF (nd 0 t)) mE)).1) ?_) | (refine gS ?_ ?_ <;> intro _) | fail))
     refine zad hT rfl rfl (.tmp rfl (.tmp rfl (.tmp rfl .nil))) (fun w' hk => ?_)
     exact Ret.mk v1 trivial (by show Value.tuple #[.int .i64 1, v1, .bool (tB _)] = _; rw [zan (show (t.2.length : Int) = ((nd 0 t).K.n : Int) by omega)]; rfl) hk sA
   | true =>
     (repeat' (first | (refine gH ?_; try intro _) | (refine g_mv rfl ?_; refine cb (fun w hk => zaX (nd 0 t).g [] (nd 0 t).leaf (nd 0 t).K (nd 0 t).V (nd 0 t).C (nd 0 t).a w (zbQ (hk.rR (φ := nodeF (nd 0 t)) mE)).1) ?_) | (refine gS ?_ ?_ <;> intro _) | fail))
     refine cR (fun w hk => zaZ (nd 0 t) t.2 w ok.1 (by omega) (hk.rR (φ := nodeF (nd 0 t)) mE)) (fun v1 _ => ?_)
     (repeat (refine gG ?_; try intro _))
     refine cR (fun w hk => zaZ (nd 0 t) t.2 w ok.1 (by omega) (hk.rR (φ := nodeF (nd 0 t)) mE)) (fun v2 _ => ?_)
     refine zc5 v2 mE (fun A2 c2 hv _ _ _ => ?_)
     subst hv
     (repeat' (first | (refine gH ?_; try intro _) | (refine g_mv rfl ?_; refine cb (fun w hk => zaX (nd 0 t).g [] (nd 0 t).leaf (nd 0 t).K (nd 0 t).V (nd 0 t).C (nd 0 t).a w (zbQ (hk.rR (φ := nodeF (nd 0 t)) mE)).1) ?_) | (refine gS ?_ ?_ <;> intro _) | fail))
     refine zad hT rfl rfl (.tmp rfl (.tmp rfl (.tmp rfl .nil))) (fun w' hk => ?_)
     exact Ret.mk v1 trivial (by show Value.tuple #[.int .i64 1, v1, .bool (tB _)] = _; rw [zan (show (t.2.length : Int) = ((nd 0 t).K.n : Int) by omega)]; rfl) hk sA
 | succ h ih =>
   intro h99 t rt w ok rt1 gd h9 hF
   have hl : (nd (h + 1) t).K.n = t.2.length := by rw [(zch ok).K.n, ← zeK ok]; rfl
   have h1 : 2 ≤ t.2.length := rt1.1
   have h6 : t.2.length ≤ 6 := rt1.2.1
   have h3 : rt = false → 3 ≤ t.2.length := fun e => (gd e).1
   have hCs : (nd (h + 1) t).Cs = (t.2.map (nd h)).map NodeD.g := ok.1.Cs
   have hCn : (nd (h + 1) t).C.n = t.2.length := by rw [(zch ok).C.n, hCs, List.length_map, List.length_map]
   have hKs : (nd (h + 1) t).Ks = (t.2.map (nd h)).map (fun x => x.Ks.getD 0 default) := ok.1.Ks
   refine zab T [] [] [nodeF (nd (h + 1) t), treeF (h + 1) t] Tryz.func20 rfl Tryz.ntmps20 rfl (Rds.cons (zdS hF) (.cons hF .nil)).kn ?_
   refine zpJ (d := nd (h + 1) t) mE ?_
   refine zlS (d := nd (h + 1) t) mE ?_
   refine zeX (d := nd (h + 1) t) mE ?_
   rw [show (nd (h + 1) t).leaf = false from ok.1.leaf]
   cases rt with
   | false =>
     have h3' := h3 rfl
     (repeat' (first | (refine gH ?_; try intro _) | (refine g_mv rfl ?_; refine cb (fun w hk => zaX (nd (h + 1) t).g [] (nd (h + 1) t).leaf (nd (h + 1) t).K (nd (h + 1) t).V (nd (h + 1) t).C (nd (h + 1) t).a w (zbQ (hk.rR (φ := nodeF (nd (h + 1) t)) mE)).1) ?_) | (refine gS ?_ ?_ <;> intro _) | fail))
     refine zas [0] (Cut _ (fun _ : Unit => [(0, .pointer (some ⟨(nd (h + 1) t).g, 0, none⟩)), (78, .bool false)]) (fun _ => []) (fun _ => [row (nd (h + 1) t).g 0 [.bool false, (nd (h + 1) t).K.v, (nd (h + 1) t).V.v, (nd (h + 1) t).C.v, .int .u32 (nd (h + 1) t).a], sl (nd (h + 1) t).C.A 1 PE (nd (h + 1) t).Cs, sl (nd (h + 1) t).K.A 3 KE (nd (h + 1) t).Ks, nodeF (nd (h + 1) t), treeF (h + 1) t])) rfl rfl kR ?_ (zaD fun _ => ?_)
     ·skip
      refine gY hT 0 ?_
      refine gY hT 1 ?_
      refine gY hT 2 ?_
      refine gW hT 3 ?_
      try (refine zam 61 (.slice (nd (h + 1) t).C.A (nd (h + 1) t).C.n (nd (h + 1) t).C.c) rfl rfl ?_)
      refine gY hT 4 ?_
      refine gY hT 5 ?_
      refine gP 6 ?_
      refine zau (fun w hk => zaX (nd (h + 1) t).g [] (nd (h + 1) t).leaf (nd (h + 1) t).K (nd (h + 1) t).V (nd (h + 1) t).C (nd (h + 1) t).a w (zbQ (hk.rR (φ := nodeF (nd (h + 1) t)) mE)).1) rfl rfl rfl rfl rfl kR ?_
      refine ⟨sF, ?_⟩
      refine gY hT 7 ?_
      try (refine zam 65 (.bool false) rfl (congrArg Value.bool (zaj (by omega))) ?_)
      refine gY hT 8 ?_
      first | refine gY hT 9 ?_ | refine gZ 9 ?_
      first | refine gY hT 10 ?_ | refine gZ 10 ?_
      first | refine gY hT 11 ?_ | refine gZ 11 ?_
      first | refine gW hT 12 ?_ | refine gZ 12 ?_
      try (refine zam 70 (.slice (nd (h + 1) t).C.A (nd (h + 1) t).C.n (nd (h + 1) t).C.c) rfl rfl ?_)
      first | refine gY hT 13 ?_ | refine gZ 13 ?_
      first | refine gY hT 14 ?_ | refine gZ 14 ?_
      first | refine gY hT 15 ?_ | refine gZ 15 ?_
      first | refine gY hT 16 ?_ | refine gZ 16 ?_
      first | refine gW hT 17 ?_ | refine gZ 17 ?_
      try (refine zam 75 (.slice (nd (h + 1) t).K.A (nd (h + 1) t).K.n (nd (h + 1) t).K.c) rfl rfl ?_)
      first | refine gY hT 18 ?_ | refine gZ 18 ?_
      first | refine gY hT 19 ?_ | refine gZ 19 ?_
      try (refine zam 77 (.bool false) rfl (congrArg Value.bool (zaj (by omega))) ?_)
      refine gY hT 20 ?_
      refine zak dK ?_
      exact ⟨(), fS, sA, sS⟩
     ·(repeat (refine gG ?_; try intro _))
      refine zbO 0 31 4 EE ?_
      refine gL3 (fun (v : Value) (i : Nat) (dd : Int) => (i ≤ t.2.length ∧ (0 < i → dd = ((h + 1 : Nat) : Int)))) (fun v i dd => [(0, .pointer (some ⟨(nd (h + 1) t).g, 0, none⟩)), (7, .int .i64 dd), (8, v), (9, .int .i64 i)]) (fun v i dd => [own 0 31 4 v EE (((t.2.take i).map (ents h)).flatten)]) (fun v i dd => [row (nd (h + 1) t).g 0 [.bool false, (nd (h + 1) t).K.v, (nd (h + 1) t).V.v, (nd (h + 1) t).C.v, .int .u32 (nd (h + 1) t).a], sl (nd (h + 1) t).C.A 1 PE (nd (h + 1) t).Cs, sl (nd (h + 1) t).K.A 3 KE (nd (h + 1) t).Ks, treeF (h + 1) t]) (fun v i dd => t.2.length - i) (.slice none 0 0) 0 0 ⟨Nat.zero_le _, fun h => absurd h (by omega)⟩ ?_
      rintro v i dd hI
      obtain ⟨hi, hdd⟩ := hI
      have htk := zcb (h := h) (ks := t.2) i
      have hee : ((t.2.map (ents h)).flatten).length ≤ 1000 := h9
      by_cases hlt : i < t.2.length
      ·obtain ⟨kd, hkd⟩ : ∃ kd, t.2[i]? = some kd := ⟨t.2[i], List.getElem?_eq_getElem hlt⟩
       have hkm := List.mem_of_getElem? hkd
       have hko := ok.2.2 kd hkm
       have hkg : Tr.Good h kd := rt1.2.2 kd hkm
       have hft := zhu hkd
       have hf1 := zcb (h := h) (ks := t.2) (i + 1)
       rw [hft, List.length_append] at hf1
       obtain ⟨hkp, hkf⟩ := zaM h kd hko
       obtain ⟨y, r0, hyr, hyk⟩ := zbm hkp
       have hKi : (nd (h + 1) t).Ks[i]? = some y.k := by
        rw [hKs, List.getElem?_map, List.getElem?_map, hkd]
        show some ((nd h kd).Ks.getD 0 default) = _
        rw [hkf, hyk]
       have hKlen : (nd (h + 1) t).Ks.length = t.2.length := by rw [hKs, List.length_map, List.length_map]
       refine zar (enc := PE) (L := (nd (h + 1) t).Cs) i mE (by rw [hCs, List.length_map, List.length_map]; exact hlt) (by decide) (fun b0 o0 y0 eA hy0 => ?_)
       obtain rfl : (nd h kd).g = y0 := by
        rw [hCs, List.getElem?_map, List.getElem?_map, hkd] at hy0
        exact Option.some.inj hy0
       refine zar (enc := KE) (L := (nd (h + 1) t).Ks) i mE (by omega) (by decide) (fun b3 o3 y3 eA3 hy3 => ?_)
       obtain rfl : y.k = y3 := by rw [hKi] at hy3; exact Option.some.inj hy3
       refine zdi (t := t) (c := kd) mE hkm ?_
       (repeat' (first | (refine gH ?_; try intro _) | (refine gS ?_ ?_ <;> intro _) | fail))
       refine zaK 92 (.slice (some ⟨b0, o0, none⟩) (nd (h + 1) t).C.n (nd (h + 1) t).C.c) rfl (by rw [← eA]; first | done | rfl) ?_
       (repeat (refine gG ?_; try intro _))
       refine cR (fun w hk => ih (by omega) kd false w hko hkg.near.root (fun _ => hkg) (by omega) (hk.rR (φ := treeF h kd) mE)) (fun v2 _ => ?_)
       refine zl7 v2 mE hkp (fun b2 c2 hv2 _ _ => ?_)
       subst hv2
       refine zbE _ uD (fun A4 c4 hv4 _ _ _ => ?_)
       injection hv4 with q1 q2 q3
       subst q1 q3
       refine zbw sE ?_
       refine zht (enc := EE) (L := ents h kd) 0 mE hkp (by decide) (fun b4 o4 y4 eA4 hy4 => ?_)
       injection eA4 with eA4
       injection eA4 with e4 e5
       subst e4 e5
       obtain rfl : y = y4 := by rw [hyr] at hy4; exact Option.some.inj hy4
       (repeat (refine gG ?_; try intro _))
       by_cases h0 : i = 0
       ·refine zas [1, 4, 6] (Cut _ (fun _ : Unit => [(0, .pointer (some ⟨(nd (h + 1) t).g, 0, none⟩)), (8, v), (9, .int .i64 i), (10, .int .i64 ((h + 1 : Nat) : Int)), (11, .slice (some ⟨b2, 0, none⟩) (ents h kd).length c2), (124, .bool false)]) (fun _ => [own 0 31 4 v EE (((t.2.take i).map (ents h)).flatten)]) (fun _ => [sl (some ⟨b2, 0, none⟩) 4 EE (ents h kd), row (nd (h + 1) t).g 0 [.bool false, (nd (h + 1) t).K.v, (nd (h + 1) t).V.v, (nd (h + 1) t).C.v, .int .u32 (nd (h + 1) t).a], sl (nd (h + 1) t).C.A 1 PE (nd (h + 1) t).Cs, sl (nd (h + 1) t).K.A 3 KE (nd (h + 1) t).Ks, treeF (h + 1) t])) rfl rfl kR ?_ (zaD fun _ => ?_)
        ·skip
         refine gY hT 0 ?_
         refine gY hT 1 ?_
         refine gY hT 2 ?_
         first | refine gY hT 3 ?_ | refine gZ 3 ?_
         first | refine gY hT 4 ?_ | refine gZ 4 ?_
         try (refine zam 104 (.bool false) rfl (congrArg Value.bool (zaj (by omega))) ?_)
         first | refine gY hT 5 ?_ | refine gZ 5 ?_
         first | refine gY hT 6 ?_ | refine gZ 6 ?_
         first | refine gY hT 7 ?_ | refine gZ 7 ?_
         first | refine gY hT 8 ?_ | refine gZ 8 ?_
         first | refine gY hT 9 ?_ | refine gZ 9 ?_
         refine gY hT 10 ?_
         refine gY hT 11 ?_
         first | refine gY hT 12 ?_ | refine gZ 12 ?_
         first | refine gY hT 13 ?_ | refine gZ 13 ?_
         first | refine gY hT 14 ?_ | refine gZ 14 ?_
         first | refine gW hT 15 ?_ | refine gZ 15 ?_
         first | refine gY hT 16 ?_ | refine gZ 16 ?_
         first | refine gY hT 17 ?_ | refine gZ 17 ?_
         first | refine gY hT 18 ?_ | refine gZ 18 ?_
         first | refine gW hT 19 ?_ | refine gZ 19 ?_
         try (refine zam 119 (.slice (some ⟨b3, o3, none⟩) (nd (h + 1) t).K.n (nd (h + 1) t).K.c) rfl (by rw [← eA3]; first | done | rfl) ?_)
         first | refine gY hT 20 ?_ | refine gZ 20 ?_
         first | refine gY hT 21 ?_ | refine gZ 21 ?_
         first | refine gW hT 22 ?_ | refine gZ 22 ?_
         first | refine zaz 23 rfl dK rfl rfl (za8 rfl rfl rfl rfl rfl kR) sF ?_ | refine gZ 23 ?_
         try (refine zam 123 (.bool false) rfl (congrArg Value.bool (zaj (fun h => h ⟨rfl, rfl, rfl, trivial⟩))) ?_)
         refine gY hT 24 ?_
         refine zak dK ?_
         exact ⟨(), fS, sA, sS⟩
        ·skip
         (repeat (refine gG ?_; try intro _))
         refine g_mv rfl (zac rfl (ents h kd) rfl rfl rfl rfl zb7 uD (zcG mE) rfl (by intro x j; rcases j with _ | _ | _ | j <;> rfl) (by unfold maxLen; omega) (by omega) (Nat.zero_le _) (fun v5 => ?_))
         rw [← hft]
         (repeat (refine gG ?_; try intro _))
         refine zag rfl (v5, i + 1, ((h + 1 : Nat) : Int)) ⟨by omega, fun _ => rfl⟩ (by dsimp only; omega) fS sA sS
       ·have hdd' := hdd (by omega)
        subst hdd'
        refine zas [1, 4, 6] (Cut _ (fun _ : Unit => [(0, .pointer (some ⟨(nd (h + 1) t).g, 0, none⟩)), (8, v), (9, .int .i64 i), (10, .int .i64 ((h + 1 : Nat) : Int)), (11, .slice (some ⟨b2, 0, none⟩) (ents h kd).length c2), (124, .bool false)]) (fun _ => [own 0 31 4 v EE (((t.2.take i).map (ents h)).flatten)]) (fun _ => [sl (some ⟨b2, 0, none⟩) 4 EE (ents h kd), row (nd (h + 1) t).g 0 [.bool false, (nd (h + 1) t).K.v, (nd (h + 1) t).V.v, (nd (h + 1) t).C.v, .int .u32 (nd (h + 1) t).a], sl (nd (h + 1) t).C.A 1 PE (nd (h + 1) t).Cs, sl (nd (h + 1) t).K.A 3 KE (nd (h + 1) t).Ks, treeF (h + 1) t])) rfl rfl kR ?_ (zaD fun _ => ?_)
        ·skip
         refine gY hT 0 ?_
         refine gY hT 1 ?_
         refine gY hT 2 ?_
         first | refine gY hT 3 ?_ | refine gZ 3 ?_
         first | refine gY hT 4 ?_ | refine gZ 4 ?_
         try (refine zam 104 (.bool true) rfl (congrArg Value.bool (zan (by omega))) ?_)
         first | refine gY hT 5 ?_ | refine gZ 5 ?_
         first | refine gY hT 6 ?_ | refine gZ 6 ?_
         first | refine gY hT 7 ?_ | refine gZ 7 ?_
         first | refine gY hT 8 ?_ | refine gZ 8 ?_
         try (refine zam 108 (.bool false) rfl (congrArg Value.bool (zaj (fun h => h rfl))) ?_)
         first | refine gY hT 9 ?_ | refine gZ 9 ?_
         refine gY hT 10 ?_
         refine gY hT 11 ?_
         first | refine gY hT 12 ?_ | refine gZ 12 ?_
         first | refine gY hT 13 ?_ | refine gZ 13 ?_
         first | refine gY hT 14 ?_ | refine gZ 14 ?_
         first | refine gW hT 15 ?_ | refine gZ 15 ?_
         first | refine gY hT 16 ?_ | refine gZ 16 ?_
         first | refine gY hT 17 ?_ | refine gZ 17 ?_
         first | refine gY hT 18 ?_ | refine gZ 18 ?_
         first | refine gW hT 19 ?_ | refine gZ 19 ?_
         try (refine zam 119 (.slice (some ⟨b3, o3, none⟩) (nd (h + 1) t).K.n (nd (h + 1) t).K.c) rfl (by rw [← eA3]; first | done | rfl) ?_)
         first | refine gY hT 20 ?_ | refine gZ 20 ?_
         first | refine gY hT 21 ?_ | refine gZ 21 ?_
         first | refine gW hT 22 ?_ | refine gZ 22 ?_
         first | refine zaz 23 rfl dK rfl rfl (za8 rfl rfl rfl rfl rfl kR) sF ?_ | refine gZ 23 ?_
         try (refine zam 123 (.bool false) rfl (congrArg Value.bool (zaj (fun h => h ⟨rfl, rfl, rfl, trivial⟩))) ?_)
         refine gY hT 24 ?_
         refine zak dK ?_
         exact ⟨(), fS, sA, sS⟩
        ·skip
         (repeat (refine gG ?_; try intro _))
         refine g_mv rfl (zac rfl (ents h kd) rfl rfl rfl rfl zb7 uD (zcG mE) rfl (by intro x j; rcases j with _ | _ | _ | j <;> rfl) (by unfold maxLen; omega) (by omega) (Nat.zero_le _) (fun v5 => ?_))
         rw [← hft]
         (repeat (refine gG ?_; try intro _))
         refine zag rfl (v5, i + 1, ((h + 1 : Nat) : Int)) ⟨by omega, fun _ => rfl⟩ (by dsimp only; omega) fS sA sS
      ·have hil : i = t.2.length := by omega
       have hdd' := hdd (by omega)
       subst hdd'
       rw [hil, List.take_length]
       (repeat' (first | (refine gH ?_; try intro _) | (refine gS ?_ ?_ <;> intro _) | fail))
       refine zad hT rfl rfl (.tmp rfl (.tmp rfl (.tmp rfl .nil))) (fun w' hk => ?_)
       exact Ret.mk v trivial rfl hk sA
   | true =>
     (repeat' (first | (refine gH ?_; try intro _) | (refine g_mv rfl ?_; refine cb (fun w hk => zaX (nd (h + 1) t).g [] (nd (h + 1) t).leaf (nd (h + 1) t).K (nd (h + 1) t).V (nd (h + 1) t).C (nd (h + 1) t).a w (zbQ (hk.rR (φ := nodeF (nd (h + 1) t)) mE)).1) ?_) | (refine gS ?_ ?_ <;> intro _) | fail))
     refine zas [0] (Cut _ (fun _ : Unit => [(0, .pointer (some ⟨(nd (h + 1) t).g, 0, none⟩)), (78, .bool false)]) (fun _ => []) (fun _ => [row (nd (h + 1) t).g 0 [.bool false, (nd (h + 1) t).K.v, (nd (h + 1) t).V.v, (nd (h + 1) t).C.v, .int .u32 (nd (h + 1) t).a], sl (nd (h + 1) t).C.A 1 PE (nd (h + 1) t).Cs, sl (nd (h + 1) t).K.A 3 KE (nd (h + 1) t).Ks, nodeF (nd (h + 1) t), treeF (h + 1) t])) rfl rfl kR ?_ (zaD fun _ => ?_)
     ·skip
      refine gY hT 0 ?_
      refine gY hT 1 ?_
      refine gY hT 2 ?_
      refine gW hT 3 ?_
      try (refine zam 61 (.slice (nd (h + 1) t).C.A (nd (h + 1) t).C.n (nd (h + 1) t).C.c) rfl rfl ?_)
      refine gY hT 4 ?_
      refine gY hT 5 ?_
      refine gP 6 ?_
      refine zau (fun w hk => zaX (nd (h + 1) t).g [] (nd (h + 1) t).leaf (nd (h + 1) t).K (nd (h + 1) t).V (nd (h + 1) t).C (nd (h + 1) t).a w (zbQ (hk.rR (φ := nodeF (nd (h + 1) t)) mE)).1) rfl rfl rfl rfl rfl kR ?_
      refine ⟨sF, ?_⟩
      refine gY hT 7 ?_
      try (refine zam 65 (.bool false) rfl (congrArg Value.bool (zaj (by omega))) ?_)
      refine gY hT 8 ?_
      first | refine gY hT 9 ?_ | refine gZ 9 ?_
      first | refine gY hT 10 ?_ | refine gZ 10 ?_
      first | refine gY hT 11 ?_ | refine gZ 11 ?_
      first | refine gW hT 12 ?_ | refine gZ 12 ?_
      try (refine zam 70 (.slice (nd (h + 1) t).C.A (nd (h + 1) t).C.n (nd (h + 1) t).C.c) rfl rfl ?_)
      first | refine gY hT 13 ?_ | refine gZ 13 ?_
      first | refine gY hT 14 ?_ | refine gZ 14 ?_
      first | refine gY hT 15 ?_ | refine gZ 15 ?_
      first | refine gY hT 16 ?_ | refine gZ 16 ?_
      first | refine gW hT 17 ?_ | refine gZ 17 ?_
      try (refine zam 75 (.slice (nd (h + 1) t).K.A (nd (h + 1) t).K.n (nd (h + 1) t).K.c) rfl rfl ?_)
      first | refine gY hT 18 ?_ | refine gZ 18 ?_
      first | refine gY hT 19 ?_ | refine gZ 19 ?_
      try (refine zam 77 (.bool false) rfl (congrArg Value.bool (zaj (by omega))) ?_)
      refine gY hT 20 ?_
      refine zak dK ?_
      exact ⟨(), fS, sA, sS⟩
     ·(repeat (refine gG ?_; try intro _))
      refine zbO 0 31 4 EE ?_
      refine gL3 (fun (v : Value) (i : Nat) (dd : Int) => (i ≤ t.2.length ∧ (0 < i → dd = ((h + 1 : Nat) : Int)))) (fun v i dd => [(0, .pointer (some ⟨(nd (h + 1) t).g, 0, none⟩)), (7, .int .i64 dd), (8, v), (9, .int .i64 i)]) (fun v i dd => [own 0 31 4 v EE (((t.2.take i).map (ents h)).flatten)]) (fun v i dd => [row (nd (h + 1) t).g 0 [.bool false, (nd (h + 1) t).K.v, (nd (h + 1) t).V.v, (nd (h + 1) t).C.v, .int .u32 (nd (h + 1) t).a], sl (nd (h + 1) t).C.A 1 PE (nd (h + 1) t).Cs, sl (nd (h + 1) t).K.A 3 KE (nd (h + 1) t).Ks, treeF (h + 1) t]) (fun v i dd => t.2.length - i) (.slice none 0 0) 0 0 ⟨Nat.zero_le _, fun h => absurd h (by omega)⟩ ?_
      rintro v i dd hI
      obtain ⟨hi, hdd⟩ := hI
      have htk := zcb (h := h) (ks := t.2) i
      have hee : ((t.2.map (ents h)).flatten).length ≤ 1000 := h9
      by_cases hlt : i < t.2.length
      ·obtain ⟨kd, hkd⟩ : ∃ kd, t.2[i]? = some kd := ⟨t.2[i], List.getElem?_eq_getElem hlt⟩
       have hkm := List.mem_of_getElem? hkd
       have hko := ok.2.2 kd hkm
       have hkg : Tr.Good h kd := rt1.2.2 kd hkm
       have hft := zhu hkd
       have hf1 := zcb (h := h) (ks := t.2) (i + 1)
       rw [hft, List.length_append] at hf1
       obtain ⟨hkp, hkf⟩ := zaM h kd hko
       obtain ⟨y, r0, hyr, hyk⟩ := zbm hkp
       have hKi : (nd (h + 1) t).Ks[i]? = some y.k := by
        rw [hKs, List.getElem?_map, List.getElem?_map, hkd]
        show some ((nd h kd).Ks.getD 0 default) = _
        rw [hkf, hyk]
       have hKlen : (nd (h + 1) t).Ks.length = t.2.length := by rw [hKs, List.length_map, List.length_map]
       refine zar (enc := PE) (L := (nd (h + 1) t).Cs) i mE (by rw [hCs, List.length_map, List.length_map]; exact hlt) (by decide) (fun b0 o0 y0 eA hy0 => ?_)
       obtain rfl : (nd h kd).g = y0 := by
        rw [hCs, List.getElem?_map, List.getElem?_map, hkd] at hy0
        exact Option.some.inj hy0
       refine zar (enc := KE) (L := (nd (h + 1) t).Ks) i mE (by omega) (by decide) (fun b3 o3 y3 eA3 hy3 => ?_)
       obtain rfl : y.k = y3 := by rw [hKi] at hy3; exact Option.some.inj hy3
       refine zdi (t := t) (c := kd) mE hkm ?_
       (repeat' (first | (refine gH ?_; try intro _) | (refine gS ?_ ?_ <;> intro _) | fail))
       refine zaK 92 (.slice (some ⟨b0, o0, none⟩) (nd (h + 1) t).C.n (nd (h + 1) t).C.c) rfl (by rw [← eA]; first | done | rfl) ?_
       (repeat (refine gG ?_; try intro _))
       refine cR (fun w hk => ih (by omega) kd false w hko hkg.near.root (fun _ => hkg) (by omega) (hk.rR (φ := treeF h kd) mE)) (fun v2 _ => ?_)
       refine zl7 v2 mE hkp (fun b2 c2 hv2 _ _ => ?_)
       subst hv2
       refine zbE _ uD (fun A4 c4 hv4 _ _ _ => ?_)
       injection hv4 with q1 q2 q3
       subst q1 q3
       refine zbw sE ?_
       refine zht (enc := EE) (L := ents h kd) 0 mE hkp (by decide) (fun b4 o4 y4 eA4 hy4 => ?_)
       injection eA4 with eA4
       injection eA4 with e4 e5
       subst e4 e5
       obtain rfl : y = y4 := by rw [hyr] at hy4; exact Option.some.inj hy4
       (repeat (refine gG ?_; try intro _))
       by_cases h0 : i = 0
       ·refine zas [1, 4, 6] (Cut _ (fun _ : Unit => [(0, .pointer (some ⟨(nd (h + 1) t).g, 0, none⟩)), (8, v), (9, .int .i64 i), (10, .int .i64 ((h + 1 : Nat) : Int)), (11, .slice (some ⟨b2, 0, none⟩) (ents h kd).length c2), (124, .bool false)]) (fun _ => [own 0 31 4 v EE (((t.2.take i).map (ents h)).flatten)]) (fun _ => [sl (some ⟨b2, 0, none⟩) 4 EE (ents h kd), row (nd (h + 1) t).g 0 [.bool false, (nd (h + 1) t).K.v, (nd (h + 1) t).V.v, (nd (h + 1) t).C.v, .int .u32 (nd (h + 1) t).a], sl (nd (h + 1) t).C.A 1 PE (nd (h + 1) t).Cs, sl (nd (h + 1) t).K.A 3 KE (nd (h + 1) t).Ks, treeF (h + 1) t])) rfl rfl kR ?_ (zaD fun _ => ?_)
        ·skip
         refine gY hT 0 ?_
         refine gY hT 1 ?_
         refine gY hT 2 ?_
         first | refine gY hT 3 ?_ | refine gZ 3 ?_
         first | refine gY hT 4 ?_ | refine gZ 4 ?_
         try (refine zam 104 (.bool false) rfl (congrArg Value.bool (zaj (by omega))) ?_)
         first | refine gY hT 5 ?_ | refine gZ 5 ?_
         first | refine gY hT 6 ?_ | refine gZ 6 ?_
         first | refine gY hT 7 ?_ | refine gZ 7 ?_
         first | refine gY hT 8 ?_ | refine gZ 8 ?_
         first | refine gY hT 9 ?_ | refine gZ 9 ?_
         refine gY hT 10 ?_
         refine gY hT 11 ?_
         first | refine gY hT 12 ?_ | refine gZ 12 ?_
         first | refine gY hT 13 ?_ | refine gZ 13 ?_
         first | refine gY hT 14 ?_ | refine gZ 14 ?_
         first | refine gW hT 15 ?_ | refine gZ 15 ?_
         first | refine gY hT 16 ?_ | refine gZ 16 ?_
         first | refine gY hT 17 ?_ | refine gZ 17 ?_
         first | refine gY hT 18 ?_ | refine gZ 18 ?_
         first | refine gW hT 19 ?_ | refine gZ 19 ?_
         try (refine zam 119 (.slice (some ⟨b3, o3, none⟩) (nd (h + 1) t).K.n (nd (h + 1) t).K.c) rfl (by rw [← eA3]; first | done | rfl) ?_)
         first | refine gY hT 20 ?_ | refine gZ 20 ?_
         first | refine gY hT 21 ?_ | refine gZ 21 ?_
         first | refine gW hT 22 ?_ | refine gZ 22 ?_
         first | refine zaz 23 rfl dK rfl rfl (za8 rfl rfl rfl rfl rfl kR) sF ?_ | refine gZ 23 ?_
         try (refine zam 123 (.bool false) rfl (congrArg Value.bool (zaj (fun h => h ⟨rfl, rfl, rfl, trivial⟩))) ?_)
         refine gY hT 24 ?_
         refine zak dK ?_
         exact ⟨(), fS, sA, sS⟩
        ·skip
         (repeat (refine gG ?_; try intro _))
         refine g_mv rfl (zac rfl (ents h kd) rfl rfl rfl rfl zb7 uD (zcG mE) rfl (by intro x j; rcases j with _ | _ | _ | j <;> rfl) (by unfold maxLen; omega) (by omega) (Nat.zero_le _) (fun v5 => ?_))
         rw [← hft]
         (repeat (refine gG ?_; try intro _))
         refine zag rfl (v5, i + 1, ((h + 1 : Nat) : Int)) ⟨by omega, fun _ => rfl⟩ (by dsimp only; omega) fS sA sS
       ·have hdd' := hdd (by omega)
        subst hdd'
        refine zas [1, 4, 6] (Cut _ (fun _ : Unit => [(0, .pointer (some ⟨(nd (h + 1) t).g, 0, none⟩)), (8, v), (9, .int .i64 i), (10, .int .i64 ((h + 1 : Nat) : Int)), (11, .slice (some ⟨b2, 0, none⟩) (ents h kd).length c2), (124, .bool false)]) (fun _ => [own 0 31 4 v EE (((t.2.take i).map (ents h)).flatten)]) (fun _ => [sl (some ⟨b2, 0, none⟩) 4 EE (ents h kd), row (nd (h + 1) t).g 0 [.bool false, (nd (h + 1) t).K.v, (nd (h + 1) t).V.v, (nd (h + 1) t).C.v, .int .u32 (nd (h + 1) t).a], sl (nd (h + 1) t).C.A 1 PE (nd (h + 1) t).Cs, sl (nd (h + 1) t).K.A 3 KE (nd (h + 1) t).Ks, treeF (h + 1) t])) rfl rfl kR ?_ (zaD fun _ => ?_)
        ·skip
         refine gY hT 0 ?_
         refine gY hT 1 ?_
         refine gY hT 2 ?_
         first | refine gY hT 3 ?_ | refine gZ 3 ?_
         first | refine gY hT 4 ?_ | refine gZ 4 ?_
         try (refine zam 104 (.bool true) rfl (congrArg Value.bool (zan (by omega))) ?_)
         first | refine gY hT 5 ?_ | refine gZ 5 ?_
         first | refine gY hT 6 ?_ | refine gZ 6 ?_
         first | refine gY hT 7 ?_ | refine gZ 7 ?_
         first | refine gY hT 8 ?_ | refine gZ 8 ?_
         try (refine zam 108 (.bool false) rfl (congrArg Value.bool (zaj (fun h => h rfl))) ?_)
         first | refine gY hT 9 ?_ | refine gZ 9 ?_
         refine gY hT 10 ?_
         refine gY hT 11 ?_
         first | refine gY hT 12 ?_ | refine gZ 12 ?_
         first | refine gY hT 13 ?_ | refine gZ 13 ?_
         first | refine gY hT 14 ?_ | refine gZ 14 ?_
         first | refine gW hT 15 ?_ | refine gZ 15 ?_
         first | refine gY hT 16 ?_ | refine gZ 16 ?_
         first | refine gY hT 17 ?_ | refine gZ 17 ?_
         first | refine gY hT 18 ?_ | refine gZ 18 ?_
         first | refine gW hT 19 ?_ | refine gZ 19 ?_
         try (refine zam 119 (.slice (some ⟨b3, o3, none⟩) (nd (h + 1) t).K.n (nd (h + 1) t).K.c) rfl (by rw [← eA3]; first | done | rfl) ?_)
         first | refine gY hT 20 ?_ | refine gZ 20 ?_
         first | refine gY hT 21 ?_ | refine gZ 21 ?_
         first | refine gW hT 22 ?_ | refine gZ 22 ?_
         first | refine zaz 23 rfl dK rfl rfl (za8 rfl rfl rfl rfl rfl kR) sF ?_ | refine gZ 23 ?_
         try (refine zam 123 (.bool false) rfl (congrArg Value.bool (zaj (fun h => h ⟨rfl, rfl, rfl, trivial⟩))) ?_)
         refine gY hT 24 ?_
         refine zak dK ?_
         exact ⟨(), fS, sA, sS⟩
        ·skip
         (repeat (refine gG ?_; try intro _))
         refine g_mv rfl (zac rfl (ents h kd) rfl rfl rfl rfl zb7 uD (zcG mE) rfl (by intro x j; rcases j with _ | _ | _ | j <;> rfl) (by unfold maxLen; omega) (by omega) (Nat.zero_le _) (fun v5 => ?_))
         rw [← hft]
         (repeat (refine gG ?_; try intro _))
         refine zag rfl (v5, i + 1, ((h + 1 : Nat) : Int)) ⟨by omega, fun _ => rfl⟩ (by dsimp only; omega) fS sA sS
      ·have hil : i = t.2.length := by omega
       have hdd' := hdd (by omega)
       subst hdd'
       rw [hil, List.take_length]
       (repeat' (first | (refine gH ?_; try intro _) | (refine gS ?_ ?_ <;> intro _) | fail))
       refine zad hT rfl rfl (.tmp rfl (.tmp rfl (.tmp rfl .nil))) (fun w' hk => ?_)
       exact Ret.mk v trivial rfl hk sA
end Go.Proofs.YtaghmffgoomebaaGreat.Tw
