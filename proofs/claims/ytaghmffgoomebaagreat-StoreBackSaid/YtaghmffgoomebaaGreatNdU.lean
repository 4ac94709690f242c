/- node.Put. -/
import Derived.Test.YtaghmffgoomebaaGreatNdS
import Derived.Test.YtaghmffgoomebaaGreatNd9
import Derived.Test.YtaghmffgoomebaaGreatNd3
set_option linter.unusedVariables false
set_option linter.unusedSimpArgs false
namespace Go.Proofs.YtaghmffgoomebaaGreat.Nd
open Go.RowKit Mem Gx Bytes
set_option maxRecDepth 100000
set_option maxHeartbeats 4000000
structure BS where
 s : SlV
 M : List Int
 c : Int
noncomputable def putC (L : List EntD) (lf : Bool) : Int := if L.length = 0 ∨ 6 < L.length then 10 else if (!lf && tB (∃ e, e ∈ L ∧ e.a = 0)) = true then 60 else 0
noncomputable def putM (L : List EntD) (lf : Bool) : List Int := if putC L lf = 0 then Page.page (if lf = true then 3 else 4) (nodeB L) else []
structure PutI (L : List EntD) (lf : Bool) (r : BS) : Prop where
 ok : r.s.Ok r.M.length
 c : r.c = putC L lf
 M : r.M = putM L lf
theorem zpi {L : List EntD} {lf : Bool} {c : Int} (h : putC L lf = c) (h0 : c ≠ 0) : PutI L lf ⟨⟨none, 0, 0⟩, [], c⟩ :=
 ⟨SlV.zdx, h.symm, by show [] = putM L lf; unfold putM; rw [h, if_neg h0]⟩
theorem zkU {L : List EntD} {lf : Bool} {s : SlV} {M : List Int} (h : putC L lf = 0) (hM : M = Page.page (if lf = true then 3 else 4) (nodeB L)) (hs : s.Ok M.length) : PutI L lf ⟨s, M, 0⟩ :=
 ⟨hs, h.symm, by show M = putM L lf; unfold putM; rw [if_pos h, hM]⟩
abbrev RetP (L : List EntD) (lf : Bool) (w : World) : Ending → World → Prop := Ret (PutI L lf) (fun r => .tuple #[r.s.v, .int .i64 r.c]) (fun r => [sl r.s.A 1 (IE .u8) r.M]) w
theorem nlen' (g : Nat) (lf : Bool) (KA : Option Addr) (Kn Kc : Nat) (VA : Option Addr) (Vn Vc : Nat) (CA : Option Addr) (Cn Cc : Nat) (a : Int) (w : World) (h : w.heap[g]? = some (.cells [.bool lf, .slice KA Kn Kc, .slice VA Vn Vc, .slice CA Cn Cc, .int .u32 a].toArray 109 (0, 0))) :
 Calls Tryz.prog 44 [.pointer (some ⟨g, 0, none⟩)].toArray w fun e w' => e = .returned (.int .i64 (Kn : Int)) ∧ Below w.heap.size w w' := zaX g [] lf ⟨KA, Kn, Kc⟩ ⟨VA, Vn, Vc⟩ ⟨CA, Cn, Cc⟩ a w h
theorem zha (d : NodeD) (L : List EntD) (w : World) (hd : IsLeafW L d) (h1 : 0 < L.length) (h6 : L.length ≤ 6) (hbd : ∀ e ∈ L, e.Bd) (hB0 : Rds w [blk d.g [.bool d.leaf, d.K.v, d.V.v, d.C.v, .int .u32 d.a] 109, sl d.K.A 3 KE d.Ks, sl d.V.A 1 (IE .u32) d.Vs]) :
 Calls Tryz.prog 70 [.pointer (some ⟨d.g, 0, none⟩)].toArray w (RetP L true w) := by
 obtain ⟨g, leaf, ⟨KA, Kn, Kc⟩, Ks, ⟨VA, Vn, Vc⟩, Vs, ⟨CA, Cn, Cc⟩, Cs, a⟩ := d
 obtain ⟨⟨hK, hV, hC⟩, e1, e2, e3, e4, e5⟩ := hd
 dsimp only at e1 e2 e3 e4
 subst e1 e2 e3 e4
 have hn : Kn = L.length := by have := hK.n; rw [List.length_map] at this; exact this
 have hVn : Vn = L.length := by have := hV.n; rw [List.length_map] at this; exact this
 have hB : Rds w [blk g [.bool true, .slice KA Kn Kc, .slice VA Vn Vc, .slice CA Cn Cc, .int .u32 a] 109, sl KA 3 KE (L.map (·.k)), sl VA 1 (IE .u32) (L.map (·.a))] := hB0
 clear hB0
 refine zab T [] [] [blk g [.bool true, .slice KA Kn Kc, .slice VA Vn Vc, .slice CA Cn Cc, .int .u32 a] 109, sl KA 3 KE (L.map (·.k)), sl VA 1 (IE .u32) (L.map (·.a))] Tryz.func70 rfl Tryz.ntmps70 rfl hB.kn ?_
 refine za9 (g := g) mE ?_
 (repeat' (first | (refine gH ?_; try intro _) | (refine g_mv rfl ?_; refine cb (fun w hk => nlen' g true KA Kn Kc VA Vn Vc CA Cn Cc a w (hk.pR (blk g [.bool true, .slice KA Kn Kc, .slice VA Vn Vc, .slice CA Cn Cc, .int .u32 a] 109) mE)) ?_) | (refine gS ?_ ?_ <;> intro _) | fail))
 refine zaP [0] rfl rfl kR ?_
 (repeat (first | refine zbC dK ?_ | refine zae dK rfl rfl (zcc (nw := true) hT rfl sI) sF ?_ | refine za5 dK rfl rfl sF ?_ | refine zae dK rfl rfl (zbp hT rfl rfl mE rfl rfl) sF ?_ | refine zae dK rfl rfl (zbn hT rfl rfl mE rfl rfl) sF ?_ | refine zae dK rfl rfl (za1 hT rfl rfl mE rfl rfl) sF ?_ | (refine zcm dK rfl ?_; (first | (refine zaT rfl rfl rfl rfl ?_; intro _) | (refine zay rfl hT rfl rfl ?_; intro _) | refine zat hT rfl rfl rfl rfl rfl rfl sO rfl ?_ | (refine zaa rfl hT rfl rfl rfl rfl rfl rfl rfl rfl ?_; intro _)); refine ⟨sF, ?_⟩) | refine zae dK rfl rfl (zby rfl rfl rfl rfl rfl kR) sF ?_ | refine zae dK rfl rfl (za8 rfl rfl rfl rfl rfl kR) sF ?_))
 (repeat' (first | (refine gH ?_; try intro _) | (refine g_mv rfl ?_; refine cb (fun w hk => nlen' g true KA Kn Kc VA Vn Vc CA Cn Cc a w (hk.pR (blk g [.bool true, .slice KA Kn Kc, .slice VA Vn Vc, .slice CA Cn Cc, .int .u32 a] 109) mE)) ?_) | (refine gS ?_ ?_ <;> intro _) | fail))
 rename_i g2
 refine zoV g2 1 (enc := IE .u8) [(Kn : Int)] rfl (by decide) rfl (by first | ((repeat (first | with_reducible exact Upd.here _ | with_reducible apply Upd.there)); done) | ((repeat (first | exact Upd.here _ | apply Upd.there)); done) | fail) ?_
 refine gL3 (fun (j : Nat) (v : Value) (M : (List Int)) => j ≤ Kn ∧ M = [(Kn : Int)] ++ entsB (L.take j)) (fun j v M => [(0, .pointer (some ⟨g, 0, none⟩)), (4, .int .i64 3), (5, .slice VA Vn Vc), (8, v), (57, .slice KA Kn Kc), (58, .int .i64 Kn), (59, .int .i64 j)]) (fun j v M => [own 0 5 1 v (IE .u8) M]) (fun j v M => [sl KA 3 KE (L.map (·.k)), sl VA 1 (IE .u32) (L.map (·.a))]) (fun j v M => Kn - j) 0 (.slice (some ⟨g2, 0, none⟩) 1 1) [(Kn : Int)] ⟨Nat.zero_le _, by simp [entsB]⟩ ?_
 rintro j v M hI
 obtain ⟨hj, hM⟩ := hI
 have hMl : M.length = 1 + 18 * j := by
  rw [hM, List.length_append, ze4, List.length_take, Nat.min_eq_left (by omega)]; rfl
 (repeat (refine gG ?_; try intro _))
 refine zaJ rfl rfl (zaH _) (fun hlt => ?_) (fun hlt => ?_)
 ·have hjL : j < L.length := by omega
  obtain ⟨y, hy⟩ : ∃ y, L[j]? = some y := ⟨L[j], List.getElem?_eq_getElem hjL⟩
  obtain ⟨hyk, hya⟩ := hbd y (List.mem_of_getElem? hy)
  refine zar (enc := KE) (L := L.map (·.k)) j mE (by rw [List.length_map]; omega) (by decide) (fun b0 o0 y1 eA hy1 => ?_)
  subst eA
  obtain rfl : y.k = y1 := by
   rw [List.getElem?_map, hy] at hy1
   exact Option.some.inj hy1
  refine zar (enc := IE .u32) (L := L.map (·.a)) j mE (by rw [List.length_map]; omega) (by decide) (fun b1 o1 y2 eA hy2 => ?_)
  subst eA
  obtain rfl : y.a = y2 := by
   rw [List.getElem?_map, hy] at hy2
   exact Option.some.inj hy2
  (repeat (refine gG ?_; try intro _))
  rename_i g5
  refine zas [0, 2] (Cut _ (fun v' : Value => [(0, .pointer (some ⟨g, 0, none⟩)), (4, .int .i64 3), (5, .slice (some ⟨b1, o1, none⟩) Vn Vc), (8, v'), (57, .slice (some ⟨b0, o0, none⟩) Kn Kc), (58, .int .i64 Kn), (59, .int .i64 j)]) (fun v' => [own 0 5 1 v' (IE .u8) (M ++ keyB y.k ++ le y.a 4)]) (fun _ => [sl (some ⟨b0, o0, none⟩) 3 KE (L.map (·.k)), sl (some ⟨b1, o1, none⟩) 1 (IE .u32) (L.map (·.a))])) rfl rfl kR ?_ (zaD fun v' => ?_)
  ·skip
   refine gY hT 0 ?_
   refine gW hT 1 ?_
   refine gY hT 3 ?_
   refine gY hT 4 ?_
   refine gY hT 5 ?_
   refine gW hT 6 ?_
   refine gY hT 7 ?_
   refine gP 2 ?_
   refine zbk (fun w hk => zjb 0 v M y.k w hyk (hk.pO (own 0 5 1 v (IE .u8) M) mE) (by omega) (Nat.zero_le _)) rfl rfl rfl rfl rfl kR uD (fun v1 => ?_)
   refine ⟨sF, ?_⟩
   refine gP 8 ?_
   refine zbk (fun w hk => Fix.zdb 0 v1 (M ++ keyB y.k) y.a 4 4 w rfl (by omega) (by omega) (hk.pO (own 0 5 1 v1 (IE .u8) (M ++ keyB y.k)) mE) (by simp only [List.length_append, zgh]; omega) (Nat.zero_le _)) rfl rfl rfl rfl rfl kR uD (fun v2 => ?_)
   refine ⟨sF, ?_⟩
   refine gY hT 9 ?_
   refine zak dK ?_
   exact ⟨v2, fS, sA, sS⟩
  ·(repeat (refine gG ?_; try intro _))
   refine zag rfl (j + 1, v', M ++ keyB y.k ++ le y.a 4) ⟨by omega, by rw [zfG hy, hM]; unfold entB; simp only [List.append_assoc]⟩ (by dsimp only; omega) fS sA sS
 ·have hjn : j = L.length := by omega
  have hML : M = nodeB L := by rw [hM, hjn, List.take_length, hn]; rfl
  subst hML
  have hB := zcL L (by omega)
  have hl := zbK L
  (repeat (refine gG ?_; try intro _))
  refine zbE _ uD (fun A1 c1 hA hA1 hA2 hA3 => ?_)
  subst hA
  refine cR (fun w hk => zf5 3 ⟨A1, (nodeB L).length, c1⟩ (nodeB L) w (by omega) (by omega) ⟨rfl, hA1, hA2, hA3⟩ (by omega) (hk.pO (sl A1 1 (IE .u8) (nodeB L)) mE) hB) (fun u hu => ?_)
  (repeat (refine gG ?_; try intro _))
  refine zad hT rfl rfl (.tmp rfl (.tmp rfl .nil)) (fun w' hk => ?_)
  exact Ret.mk ⟨u, Page.page 3 (nodeB L), 0⟩ (zkU (by unfold putC; rw [if_neg (by omega)]; rfl) rfl hu) rfl hk sA
theorem zjX (ds : List NodeD) (d : NodeD) (L : List EntD) (w : World) (hok : d.Ok) (hleaf : d.leaf = false) (hKs : d.Ks = L.map (·.k)) (hCs : d.Cs = ds.map NodeD.g) (ha : d.a = 0) (hds : ds.map NodeD.a = L.map (·.a)) (h1 : 0 < L.length) (h6 : L.length ≤ 6) (hbd : ∀ e ∈ L, e.Bd) (hB0 : Rds w [blk d.g [.bool d.leaf, d.K.v, d.V.v, d.C.v, .int .u32 d.a] 109, sl d.K.A 3 KE d.Ks, sl d.C.A 1 PE d.Cs, allF ds kidB]) :
 Calls Tryz.prog 70 [.pointer (some ⟨d.g, 0, none⟩)].toArray w (RetP L false w) := by
 obtain ⟨g, leaf, ⟨KA, Kn, Kc⟩, Ks, ⟨VA0, Vn0, Vc0⟩, Vs, ⟨CA, Cn, Cc⟩, Cs, a⟩ := d
 obtain ⟨hK, hV, hC⟩ := hok
 dsimp only at hleaf hKs hCs ha
 subst hleaf hKs hCs ha
 have hn : Kn = L.length := by have := hK.n; rw [List.length_map] at this; exact this
 have hdl : ds.length = L.length := by have := congrArg List.length hds; rw [List.length_map, List.length_map] at this; exact this
 have hCn : Cn = L.length := by have := hC.n; rw [List.length_map, hdl] at this; exact this
 have hB : Rds w [blk g [.bool false, .slice KA Kn Kc, .slice VA0 Vn0 Vc0, .slice CA Cn Cc, .int .u32 0] 109, sl KA 3 KE (L.map (·.k)), sl CA 1 PE (ds.map NodeD.g), allF ds kidB] := hB0
 clear hB0
 refine zab T [] [] [blk g [.bool false, .slice KA Kn Kc, .slice VA0 Vn0 Vc0, .slice CA Cn Cc, .int .u32 0] 109, sl KA 3 KE (L.map (·.k)), sl CA 1 PE (ds.map NodeD.g), allF ds kidB] Tryz.func70 rfl Tryz.ntmps70 rfl hB.kn ?_
 refine za9 (g := g) mE ?_
 (repeat' (first | (refine gH ?_; try intro _) | (refine g_mv rfl ?_; refine cb (fun w hk => nlen' g false KA Kn Kc VA0 Vn0 Vc0 CA Cn Cc 0 w (hk.pR (blk g [.bool false, .slice KA Kn Kc, .slice VA0 Vn0 Vc0, .slice CA Cn Cc, .int .u32 0] 109) mE)) ?_) | (refine gS ?_ ?_ <;> intro _) | fail))
 refine zaP [0] rfl rfl kR ?_
 (repeat (first | refine zbC dK ?_ | refine zae dK rfl rfl (zcc (nw := true) hT rfl sI) sF ?_ | refine za5 dK rfl rfl sF ?_ | refine zae dK rfl rfl (zbp hT rfl rfl mE rfl rfl) sF ?_ | refine zae dK rfl rfl (zbn hT rfl rfl mE rfl rfl) sF ?_ | refine zae dK rfl rfl (za1 hT rfl rfl mE rfl rfl) sF ?_ | (refine zcm dK rfl ?_; (first | (refine zaT rfl rfl rfl rfl ?_; intro _) | (refine zay rfl hT rfl rfl ?_; intro _) | refine zat hT rfl rfl rfl rfl rfl rfl sO rfl ?_ | (refine zaa rfl hT rfl rfl rfl rfl rfl rfl rfl rfl ?_; intro _)); refine ⟨sF, ?_⟩) | refine zae dK rfl rfl (zby rfl rfl rfl rfl rfl kR) sF ?_ | refine zae dK rfl rfl (za8 rfl rfl rfl rfl rfl kR) sF ?_))
 (repeat (refine gG ?_; try intro _))
 refine zbO 0 26 1 (IE .u32) ?_
 refine gL3 (fun (j : Nat) (v : Value) (M : (List Int)) => j ≤ Cn ∧ M = (L.take j).map (·.a) ∧ ∀ e ∈ L.take j, e.a ≠ 0) (fun j v M => [(0, .pointer (some ⟨g, 0, none⟩)), (4, .int .i64 4), (5, v), (31, .slice CA Cn Cc), (32, .int .i64 Cn), (33, .int .i64 j)]) (fun j v M => [own 0 26 1 v (IE .u32) M]) (fun j v M => [row g 0 [.bool false, .slice KA Kn Kc, .slice VA0 Vn0 Vc0, .slice CA Cn Cc, .int .u32 0], blk g [.bool false, .slice KA Kn Kc, .slice VA0 Vn0 Vc0, .slice CA Cn Cc, .int .u32 0] 109, sl KA 3 KE (L.map (·.k)), sl CA 1 PE (ds.map NodeD.g), allF ds kidB]) (fun j v M => Cn - j) 0 (.slice none 0 0) [] ⟨Nat.zero_le _, rfl, fun e he => by cases he⟩ ?_
 rintro j v M hI
 obtain ⟨hj, hM, hne⟩ := hI
 have hMl : M.length = j := by rw [hM, List.length_map, List.length_take]; omega
 (repeat (refine gG ?_; try intro _))
 refine zaJ rfl rfl (zaH _) (fun hlt => ?_) (fun hlt => ?_)
 ·have hjL : j < L.length := by omega
  obtain ⟨y, hy⟩ : ∃ y, L[j]? = some y := ⟨L[j], List.getElem?_eq_getElem hjL⟩
  obtain ⟨d, hd⟩ : ∃ d, ds[j]? = some d := ⟨ds[j], List.getElem?_eq_getElem (by omega)⟩
  have hya : d.a = y.a := by
   have := congrArg (fun l => l[j]?) hds
   simp only [List.getElem?_map, hy, hd] at this
   exact Option.some.inj this
  refine zgs (l := ds) (F := kidB) (x := d) mE (List.mem_of_getElem? hd) ?_
  refine zar (enc := PE) (L := ds.map NodeD.g) j mE (by rw [List.length_map]; omega) (by decide) (fun b0 off y1 eA hy1 => ?_)
  subst eA
  obtain rfl : d.g = y1 := by
   rw [List.getElem?_map, hd] at hy1
   exact Option.some.inj hy1
  (repeat (refine gG ?_; try intro _))
  refine zaJ rfl rfl (zaH _) (fun h0 => ?_) (fun h0 => ?_)
  ·(repeat (refine gG ?_; try intro _))
   refine zba none 1 (IE .u8) ?_
   refine zad hT rfl rfl (.tmp rfl (.tmp rfl .nil)) (fun w' hk => ?_)
   refine Ret.mk ⟨⟨none, 0, 0⟩, [], 60⟩ (zpi ?_ (by decide)) rfl hk sA
   unfold putC
   rw [if_neg (by omega), zan ⟨y, List.mem_of_getElem? hy, by omega⟩]
   rfl
  ·(repeat (refine gG ?_; try intro _))
   refine g_mv rfl (zac rfl [d.a] rfl rfl rfl rfl zaO uD (zah mE rfl) rfl (by intro x j; rfl) sM sN (Nat.zero_le _) (fun v1 => ?_))
   (repeat (refine gG ?_; try intro _))
   refine zag rfl (j + 1, v1, M ++ [d.a]) ⟨by omega, by
    rw [hM, hya, List.take_succ_eq_append_getElem hjL, List.map_append]
    rw [List.getElem?_eq_getElem hjL] at hy
    injection hy with hy
    rw [hy]; rfl, fun e he => by
    rw [List.take_succ_eq_append_getElem hjL] at he
    rw [List.getElem?_eq_getElem hjL] at hy
    injection hy with hy
    rw [hy] at he
    rcases List.mem_append.1 he with h | h
    ·exact hne e h
    ·obtain rfl := m1 h
     omega⟩ (by dsimp only; omega) fS sA sS
 have hjn : j = L.length := by omega
 subst hjn
 rw [List.take_length] at hM hne
 subst hM
 refine zaW _ uD (fun VA Vc hVA hVA1 hVA2 hVA3 => ?_); subst hVA
 obtain ⟨Vn, hVn⟩ : ∃ n, n = (L.map (·.a)).length := ⟨_, rfl⟩
 rw [← hVn]
 rw [List.length_map] at hVn
 refine zeo (φ := sl VA 1 (IE .u32) (L.map (·.a))) sE ?_
 (repeat' (first | (refine gH ?_; try intro _) | (refine g_mv rfl ?_; refine cb (fun w hk => nlen' g false KA Kn Kc VA0 Vn0 Vc0 CA Cn Cc 0 w (hk.pR (blk g [.bool false, .slice KA Kn Kc, .slice VA0 Vn0 Vc0, .slice CA Cn Cc, .int .u32 0] 109) mE)) ?_) | (refine gS ?_ ?_ <;> intro _) | fail))
 rename_i g2
 refine zoV g2 1 (enc := IE .u8) [(Kn : Int)] rfl (by decide) rfl (by first | ((repeat (first | with_reducible exact Upd.here _ | with_reducible apply Upd.there)); done) | ((repeat (first | exact Upd.here _ | apply Upd.there)); done) | fail) ?_
 refine gL3 (fun (j : Nat) (v : Value) (M : (List Int)) => j ≤ Kn ∧ M = [(Kn : Int)] ++ entsB (L.take j)) (fun j v M => [(0, .pointer (some ⟨g, 0, none⟩)), (4, .int .i64 4), (5, .slice VA Vn Vc), (8, v), (57, .slice KA Kn Kc), (58, .int .i64 Kn), (59, .int .i64 j)]) (fun j v M => [own 0 5 1 v (IE .u8) M]) (fun j v M => [sl KA 3 KE (L.map (·.k)), sl VA 1 (IE .u32) (L.map (·.a))]) (fun j v M => Kn - j) 0 (.slice (some ⟨g2, 0, none⟩) 1 1) [(Kn : Int)] ⟨Nat.zero_le _, by simp [entsB]⟩ ?_
 rintro j v M hI
 obtain ⟨hj, hM⟩ := hI
 have hMl : M.length = 1 + 18 * j := by
  rw [hM, List.length_append, ze4, List.length_take, Nat.min_eq_left (by omega)]; rfl
 (repeat (refine gG ?_; try intro _))
 refine zaJ rfl rfl (zaH _) (fun hlt => ?_) (fun hlt => ?_)
 ·have hjL : j < L.length := by omega
  obtain ⟨y, hy⟩ : ∃ y, L[j]? = some y := ⟨L[j], List.getElem?_eq_getElem hjL⟩
  obtain ⟨hyk, hya⟩ := hbd y (List.mem_of_getElem? hy)
  refine zar (enc := KE) (L := L.map (·.k)) j mE (by rw [List.length_map]; omega) (by decide) (fun b0 o0 y1 eA hy1 => ?_)
  subst eA
  obtain rfl : y.k = y1 := by
   rw [List.getElem?_map, hy] at hy1
   exact Option.some.inj hy1
  refine zar (enc := IE .u32) (L := L.map (·.a)) j mE (by rw [List.length_map]; omega) (by decide) (fun b1 o1 y2 eA hy2 => ?_)
  subst eA
  obtain rfl : y.a = y2 := by
   rw [List.getElem?_map, hy] at hy2
   exact Option.some.inj hy2
  (repeat (refine gG ?_; try intro _))
  rename_i g5
  refine zas [0, 2] (Cut _ (fun v' : Value => [(0, .pointer (some ⟨g, 0, none⟩)), (4, .int .i64 4), (5, .slice (some ⟨b1, o1, none⟩) Vn Vc), (8, v'), (57, .slice (some ⟨b0, o0, none⟩) Kn Kc), (58, .int .i64 Kn), (59, .int .i64 j)]) (fun v' => [own 0 5 1 v' (IE .u8) (M ++ keyB y.k ++ le y.a 4)]) (fun _ => [sl (some ⟨b0, o0, none⟩) 3 KE (L.map (·.k)), sl (some ⟨b1, o1, none⟩) 1 (IE .u32) (L.map (·.a))])) rfl rfl kR ?_ (zaD fun v' => ?_)
  ·skip
   refine gY hT 0 ?_
   refine gW hT 1 ?_
   refine gY hT 3 ?_
   refine gY hT 4 ?_
   refine gY hT 5 ?_
   refine gW hT 6 ?_
   refine gY hT 7 ?_
   refine gP 2 ?_
   refine zbk (fun w hk => zjb 0 v M y.k w hyk (hk.pO (own 0 5 1 v (IE .u8) M) mE) (by omega) (Nat.zero_le _)) rfl rfl rfl rfl rfl kR uD (fun v1 => ?_)
   refine ⟨sF, ?_⟩
   refine gP 8 ?_
   refine zbk (fun w hk => Fix.zdb 0 v1 (M ++ keyB y.k) y.a 4 4 w rfl (by omega) (by omega) (hk.pO (own 0 5 1 v1 (IE .u8) (M ++ keyB y.k)) mE) (by simp only [List.length_append, zgh]; omega) (Nat.zero_le _)) rfl rfl rfl rfl rfl kR uD (fun v2 => ?_)
   refine ⟨sF, ?_⟩
   refine gY hT 9 ?_
   refine zak dK ?_
   exact ⟨v2, fS, sA, sS⟩
  ·(repeat (refine gG ?_; try intro _))
   refine zag rfl (j + 1, v', M ++ keyB y.k ++ le y.a 4) ⟨by omega, by rw [zfG hy, hM]; unfold entB; simp only [List.append_assoc]⟩ (by dsimp only; omega) fS sA sS
 ·have hjn : j = L.length := by omega
  have hML : M = nodeB L := by rw [hM, hjn, List.take_length, hn]; rfl
  subst hML
  have hB := zcL L (by omega)
  have hl := zbK L
  (repeat (refine gG ?_; try intro _))
  refine zbE _ uD (fun A1 c1 hA hA1 hA2 hA3 => ?_)
  subst hA
  refine cR (fun w hk => zf5 4 ⟨A1, (nodeB L).length, c1⟩ (nodeB L) w (by omega) (by omega) ⟨rfl, hA1, hA2, hA3⟩ (by omega) (hk.pO (sl A1 1 (IE .u8) (nodeB L)) mE) hB) (fun u hu => ?_)
  (repeat (refine gG ?_; try intro _))
  refine zad hT rfl rfl (.tmp rfl (.tmp rfl .nil)) (fun w' hk => ?_)
  exact Ret.mk ⟨u, Page.page 4 (nodeB L), 0⟩ (zkU (by unfold putC; rw [if_neg (by omega), zaj (fun ⟨e, h, h0⟩ => hne e h h0)]; rfl) rfl hu) rfl hk sA
end Go.Proofs.YtaghmffgoomebaaGreat.Nd
