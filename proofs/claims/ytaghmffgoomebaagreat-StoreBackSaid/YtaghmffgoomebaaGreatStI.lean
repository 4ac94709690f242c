/- store's saver: any tree; Save. store.Save: no tree, too few blocks, or all is saved. store's loader: a block that was seen, a leaf, a sector that is no node. A sector that is no leaf, in place of a leaf's: it is not loaded. A node's sector, read back; what Load says of blocks 1, 2, 3. -/
import Derived.Test.YtaghmffgoomebaaGreatSv5
import Derived.Test.YtaghmffgoomebaaGreatSt1
import Derived.Test.YtaghmffgoomebaaGreatNdP
set_option linter.unusedVariables false
set_option linter.unusedSimpArgs false
namespace Go.Proofs.YtaghmffgoomebaaGreat.St
open Go.RowKit Mem Gx Bytes Dk Al Rf Hp Nd Ch
open Tr hiding T row
set_option maxRecDepth 100000
set_option maxHeartbeats 400000
theorem ziI {k : Int} (hk : k = 3 ∨ k = 4) {L : List EntD} (h6 : L.length ≤ 6) : SecOk (Page.page k (nodeB L)) := by
 have hl : (nodeB L).length = 1 + 18 * L.length := zbK L
 exact ⟨Page.zcv (by omega), Page.zf6 (by omega) (by omega) (zcL L (by omega))⟩
theorem put_x {L : List EntD} {lf : Bool} {g : Nat} {w : World} (h1 : 0 < L.length) (h6 : L.length ≤ 6) (h0 : lf = true ∨ ∀ e ∈ L, e.a ≠ 0) (h : Calls Tryz.prog 70 [.pointer (some ⟨g, 0, none⟩)].toArray w (Nd.RetP L lf w)) :
 Calls Tryz.prog 70 [.pointer (some ⟨g, 0, none⟩)].toArray w (PutX (Page.page (if lf = true then 3 else 4) (nodeB L)) w) := by
 have hc : putC L lf = 0 := by
  unfold putC
  rw [if_neg (by omega)]
  rcases h0 with rfl | h0
  ·rfl
  ·rw [zaj (fun ⟨e, he, hz⟩ => h0 e he hz), Bool.and_false]
   rfl
 refine h.mono ?_
 rintro e w' ⟨⟨s, M, c⟩, ⟨k1, k2, k3⟩, he, hf⟩
 dsimp only at k1 k2 k3 he hf
 have hM : M = Page.page (if lf = true then 3 else 4) (nodeB L) := by rw [k3]; unfold putM; rw [if_pos hc]
 rw [hc] at k2
 subst k2
 subst hM
 exact ⟨s, k1, he, hf⟩
def AOk (h : Nat) (t : Tr.T h) : Prop := ∀ d ∈ nds h t, 0 ≤ d.a ∧ d.a ≤ 94
theorem svN_a {d : NodeD} {X : List Int} {s : SvS} (h : 0 ≤ d.a ∧ d.a ≤ 94) (hk : s.k + frN d ≤ 94) : 0 < (svN d X s).1.a ∧ (svN d X s).1.a ≤ 94 := by
 unfold svN
 unfold frN at hk
 split
 ·rename_i h0
  rw [if_pos h0] at hk
  exact ⟨by show (0 : Int) < (s.k : Int) + 1; omega, by show (s.k : Int) + 1 ≤ 94; omega⟩
 ·rename_i h0
  exact ⟨by show 0 < d.a; omega, h.2⟩
theorem svT_a : ∀ (h : Nat) (t : Tr.T h) (s : SvS), AOk h t → s.k + fr h t ≤ 94 → ∀ d ∈ nds h (svT h t s).1, 0 < d.a ∧ d.a ≤ 94
 | 0, t, s, ha, hk, d, hd => by
   obtain rfl := m1 hd
   exact svN_a (ha _ (.head _)) hk
 | h + 1, t, s, ha, hk, d, hd => by
   have hk' : s.k + ((t.2.map (fr h)).sum + frN t.1) ≤ 94 := hk
   have key : ∀ (ks : List (Tr.T h)) (s : SvS), (∀ k ∈ ks, AOk h k) → s.k + (ks.map (fr h)).sum ≤ 94 → ∀ k ∈ (svL (svT h) ks s).1, ∀ d ∈ nds h k, 0 < d.a ∧ d.a ≤ 94 := fun ks => by
    induction ks with
    | nil => intro s _ _ k hk; cases hk
    | cons x r ih =>
      intro s hA hs k hk
      rw [List.map_cons, List.sum_cons] at hs
      rcases List.mem_cons.1 hk with rfl | hk
      ·exact svT_a h x s (hA x (.head _)) (by omega)
      ·exact ih (svT h x s).2 (fun k hk => hA k (.tail _ hk)) (by rw [(zex h x s).1]; omega) k hk
   rcases zb2 hd with rfl | ⟨k, hkm, hd⟩
   ·exact svN_a (ha _ (.head _)) (by rw [(zjL (svT h) (fr h) (pl h) (zex h) t.2 s).1]; show s.k + (t.2.map (fr h)).sum + frN t.1 ≤ 94; omega)
   ·exact key t.2 s (fun k hk d hd => ha d (zbG hk hd)) (by omega) k hkm d hd
theorem AOk.kid {h : Nat} {t : Tr.T (h + 1)} (ha : AOk (h + 1) t) {k : Tr.T h} (hk : k ∈ t.2) : AOk h k := fun d hd => ha d (zbG hk hd)
theorem zld {h : Nat} {t : Tr.T (h + 1)} (hn : (gs (h + 1) t).Nodup) {k : Tr.T h} (hk : k ∈ t.2) : (gs h k).Nodup := (List.pairwise_flatten.1 (List.nodup_cons.1 hn).2).1 _ (List.mem_map.2 ⟨k, hk, rfl⟩)
def Six : (h : Nat) → Tr.T h → Prop
 | 0, t => t.2.length ≤ 6
 | h + 1, t => t.2.length ≤ 6 ∧ ∀ k ∈ t.2, Six h k
theorem zjl : ∀ (h : Nat) (t : Tr.T h), Tr.Good h t → Six h t
 | 0, _, g => g.2
 | h + 1, _, g => ⟨g.2.1, fun k hk => zjl h k (g.2.2 k hk)⟩
theorem ziK : ∀ (h : Nat) (t : Tr.T h), Tr.Root h t → Six h t
 | 0, _, g => g.2
 | h + 1, _, g => ⟨g.2.1, fun k hk => zjl h k (g.2.2 k hk)⟩
theorem znb (t : Tr.T 0) : slF 0 t = allF (t.1 :: (([] : List (Tr.T 0)).map (nds 0)).flatten) slD := rfl
theorem zji (t : Tr.T 0) : hdF 0 t = hdX t.1 ([] : List (Tr.T 0)) := rfl
theorem znc {h : Nat} (t : Tr.T (h + 1)) : slF (h + 1) t = allF (t.1 :: (t.2.map (nds h)).flatten) slD := rfl
theorem zjj {h : Nat} (t : Tr.T (h + 1)) : hdF (h + 1) t = hdX t.1 t.2 := rfl
theorem svT_z1 (t : Tr.T 0) (s : SvS) : hdX (svT 0 t s).1.1 ([] : List (Tr.T 0)) = hdX (svN t.1 (Page.page 3 (nodeB t.2)) (svL (svT 0) ([] : List (Tr.T 0)) s).2).1 (svL (svT 0) ([] : List (Tr.T 0)) s).1 := rfl
theorem svT_z2 (t : Tr.T 0) (s : SvS) : (svT 0 t s).2 = (svN t.1 (Page.page 3 (nodeB t.2)) (svL (svT 0) ([] : List (Tr.T 0)) s).2).2 := rfl
theorem svT_s1 {h : Nat} (t : Tr.T (h + 1)) (s : SvS) : hdX (svT (h + 1) t s).1.1 (svT (h + 1) t s).1.2 = hdX (svN t.1 (Page.page 4 (nodeB (kidE h (svL (svT h) t.2 s).1))) (svL (svT h) t.2 s).2).1 (svL (svT h) t.2 s).1 := rfl
theorem svT_s2 {h : Nat} (t : Tr.T (h + 1)) (s : SvS) : (svT (h + 1) t s).2 = (svN t.1 (Page.page 4 (nodeB (kidE h (svL (svT h) t.2 s).1))) (svL (svT h) t.2 s).2).2 := rfl
theorem zkK (t : Tr.T 0) (d : NodeD) (E : List EntD) (e1 : t.1 = d) (e2 : t.2 = E) (ok : IsLeafW E d ∧ 0 < E.length) (h6 : E.length ≤ 6) (hb : ∀ e ∈ E, e.Bd) : SaveC 0 t := by
 unfold SaveC
 intro sp g pa n sv S s q w hn94 hfr hl hW hSl hq hsl hdis hp
 rw [znb, e1] at hsl hdis
 rw [zji, e1] at hdis hp ⊢
 rw [zji, svT_z1, svT_z2, e1, e2]
 replace hfr : s.k + frN d ≤ n := by rw [← e1]; exact hfr
 replace hl : s.l.length + 1 ≤ 10000 := hl
 replace hW : q.W.length + 1 ≤ 90000 := hW
 have hg : (nd 0 t).g = d.g := by rw [← e1]; rfl
 rw [hg]
 clear e1 e2 hg
 have hE6 : E.length ≤ 6 := h6
 have hE1 : 0 < E.length := ok.2
 have hd : IsLeafW E d := ok.1
 have hCs : d.Cs = [] := hd.Cs
 have hCn : d.C.n = d.Cs.length := hd.ok.C.n
 obtain ⟨dg, lf, ⟨KA, Km, Kc⟩, Ks, ⟨VA, Vn, Vc⟩, Vs, ⟨CA, Cn, Cc⟩, Cs, da⟩ := d
 dsimp only at hCs hCn
 subst hCn
 exact zgW (h := 0) dg lf KA VA CA Km Kc Vn Vc Cc Ks Vs Cs da [] (Page.page 3 (nodeB E)) sp g pa n sv S s q w hd.ok (by rw [hCs]; rfl) (by simp) hn94 (by simp; exact hfr) (by simp; omega) (by simp; omega) hSl hq (fun k hk => (by cases hk)) (ziI (.inl rfl) hE6)
  (fun h0 w h1 h2 h3 => put_x (lf := true) (L := E) hE1 hE6 (.inl rfl) (zha ⟨dg, lf, ⟨KA, Km, Kc⟩, Ks, ⟨VA, Vn, Vc⟩, Vs, ⟨CA, Cs.length, Cc⟩, Cs, da⟩ E w hd hE1 hE6 hb (.cons h1 (.cons (Rd1.open (F := id) h2 (.head _)) (.cons (Rd1.open (F := id) h2 (.tail _ (.head _))) .nil))))) hsl hdis hp
theorem zjM {h : Nat} (t : Tr.T (h + 1)) (d : NodeD) (ks : List (Tr.T h)) (e1 : t.1 = d) (e2 : t.2 = ks) (ok : IsInnerW (ks.map (nd h)) d ∧ 0 < ks.length ∧ ∀ k ∈ ks, Tr.Ok h k) (h6 : ks.length ≤ 6) (hb : ∀ e ∈ (ks.map (ents h)).flatten, e.Bd) (hn : (d.g :: (ks.map (gs h)).flatten).Nodup) (ha : AOk (h + 1) t) (hkd : ∀ k ∈ ks, SaveC h k) : SaveC (h + 1) t := by
 unfold SaveC
 intro sp g pa n sv S s q w hn94 hfr hl hW hSl hq hsl hdis hp
 rw [znc, e1, e2] at hsl hdis
 rw [zjj, e1, e2] at hdis hp ⊢
 rw [zjj, svT_s1, svT_s2, e1, e2]
 have hfr' : s.k + ((ks.map (fr h)).sum + frN d) ≤ n := by rw [← e1, ← e2]; exact hfr
 replace hl : s.l.length + (((ks.map (nds h)).flatten).length + 1) ≤ 10000 := by rw [← e2]; exact hl
 replace hW : q.W.length + (((ks.map (nds h)).flatten).length + 1) ≤ 90000 := by rw [← e2]; exact hW
 have hAk : ∀ k ∈ (svL (svT h) ks s).1, 0 < (nd h k).a ∧ (nd h k).a ≤ 94 := fun k hk => svT_a (h + 1) t s ha (Nat.le_trans hfr hn94) (nd h k) (zbG (t := (svT (h + 1) t s).1) (by show k ∈ (svL (svT h) t.2 s).1; rw [e2]; exact hk) (zbt h k))
 have hg : (nd (h + 1) t).g = d.g := by rw [← e1]; rfl
 rw [hg]
 clear e1 e2 hg ha hfr
 have hk6 : ks.length ≤ 6 := h6
 have hk1 : 0 < ks.length := ok.2.1
 have hd : IsInnerW (ks.map (nd h)) d := ok.1
 have hCn : d.C.n = d.Cs.length := hd.ok.C.n
 have hnd : (d.g :: ((ks.map (nds h)).flatten).map NodeD.g).Nodup := by rw [zmd]; exact hn
 have hKs : (svL (svT h) ks s).1.map (fun k => (nd h k).Ks.getD 0 default) = ks.map fun k => (nd h k).Ks.getD 0 default := zc7 (svT h) (fun k => (nd h k).Ks.getD 0 default) (fun x s => by rw [(zcF h x s).Ks]) ks s
 have hgs : (svL (svT h) ks s).1.map (fun k => (nd h k).g) = ks.map fun k => (nd h k).g := zc7 (svT h) (fun k => (nd h k).g) (fun x s => (zcF h x s).g) ks s
 have hlen : (kidE h (svL (svT h) ks s).1).length = ks.length := by unfold kidE; rw [List.length_map, zc8]
 have hEb : ∀ e ∈ kidE h (svL (svT h) ks s).1, e.Bd ∧ e.a ≠ 0 := fun e he => by
  obtain ⟨k, hk, rfl⟩ := List.mem_map.1 he
  obtain ⟨a1, a2⟩ := hAk k hk
  refine ⟨⟨?_, ⟨by show 0 ≤ (nd h k).a; omega, by show (nd h k).a < 4294967296; omega⟩⟩, by show (nd h k).a ≠ 0; omega⟩
  show ((nd h k).Ks.getD 0 default).Bd
  have hm : (nd h k).Ks.getD 0 default ∈ ks.map fun k => (nd h k).Ks.getD 0 default := by
   rw [← hKs]
   exact List.mem_map.2 ⟨k, hk, rfl⟩
  obtain ⟨k0, hk0, e0⟩ := List.mem_map.1 hm
  rw [← e0]
  obtain ⟨f1, f2⟩ := zaM h k0 (ok.2.2 k0 hk0)
  obtain ⟨y, r, g1, g2⟩ := zbm f1
  rw [f2, g2]
  exact (hb y (List.mem_flatten.2 ⟨_, List.mem_map.2 ⟨k0, hk0, rfl⟩, by rw [g1]; exact .head _⟩)).k
 obtain ⟨dg, lf, ⟨KA, Km, Kc⟩, Ks, ⟨VA, Vn, Vc⟩, Vs, ⟨CA, Cn, Cc⟩, Cs, da⟩ := d
 dsimp only at hCn
 subst hCn
 refine zgW (h := h) dg lf KA VA CA Km Kc Vn Vc Cc Ks Vs Cs da ks (Page.page 4 (nodeB (kidE h (svL (svT h) ks s).1))) sp g pa n sv S s q w hd.ok hd.Cs hnd hn94 hfr' hl hW hSl hq hkd (ziI (.inr rfl) (by rw [hlen]; exact hk6)) (fun h0 w h1 h2 h3 => ?_) hsl hdis hp
 refine put_x (lf := false) (L := kidE h (svL (svT h) ks s).1) (by rw [hlen]; exact hk1) (by rw [hlen]; exact hk6) (.inr fun e he => (hEb e he).2) (zjX ((svL (svT h) ks s).1.map (nd h)) ⟨dg, lf, ⟨KA, Km, Kc⟩, Ks, ⟨VA, Vn, Vc⟩, Vs, ⟨CA, Cs.length, Cc⟩, Cs, da⟩ (kidE h (svL (svT h) ks s).1) w hd.ok hd.leaf ?_ ?_ h0 ?_ (by rw [hlen]; exact hk1) (by rw [hlen]; exact hk6) (fun e he => (hEb e he).1) (.cons h1 (.cons (Rd1.open (F := id) h2 (.head _)) (.cons (Rd1.open (F := id) h2 (.tail _ (.tail _ (.head _)))) (.cons ?_ .nil)))))
 ·have e1 : Ks = (ks.map (nd h)).map (fun x => x.Ks.getD 0 default) := hd.Ks
  show Ks = ((svL (svT h) ks s).1.map fun k => (⟨(nd h k).Ks.getD 0 default, (nd h k).a⟩ : EntD)).map (·.k)
  rw [e1, List.map_map, List.map_map]
  exact hKs.symm
 ·have e1 : Cs = (ks.map (nd h)).map NodeD.g := hd.Cs
  show Cs = ((svL (svT h) ks s).1.map (nd h)).map NodeD.g
  rw [e1, List.map_map, List.map_map]
  exact hgs.symm
 ·show ((svL (svT h) ks s).1.map (nd h)).map NodeD.a = ((svL (svT h) ks s).1.map fun k => (⟨(nd h k).Ks.getD 0 default, (nd h k).a⟩ : EntD)).map (·.a)
  rw [List.map_map, List.map_map]
  rfl
 ·refine Rd1.all fun x hx => ?_
  obtain ⟨k, hk, rfl⟩ := List.mem_map.1 hx
  exact (Rd1.open h3 (x := nd h k) (List.mem_flatten.2 ⟨_, List.mem_map.2 ⟨k, hk, rfl⟩, zbt h k⟩)).row
theorem zkL : ∀ (h : Nat) (t : Tr.T h), Tr.Ok h t → Six h t → (∀ e ∈ ents h t, e.Bd) → (gs h t).Nodup → AOk h t → SaveC h t := by
 intro h
 induction h with
 | zero =>
   intro t ok h6 hb hn ha
   exact zkK t t.1 t.2 rfl rfl ok h6 hb
 | succ h ih =>
   intro t ok h6 hb hn ha
   exact zjM t t.1 t.2 rfl rfl ok h6.1 hb hn ha fun k hk => ih k (ok.2.2 k hk) (h6.2 k hk) (fun e he => hb e (List.mem_flatten.2 ⟨_, List.mem_map.2 ⟨k, hk, rfl⟩, he⟩)) (zld hn hk) (AOk.kid ha hk)
end Go.Proofs.YtaghmffgoomebaaGreat.St
namespace Go.Proofs.YtaghmffgoomebaaGreat.St
open Go.RowKit Mem Gx Bytes Dk Al Rf Hp Nd Ch
open Tr hiding T row
set_option maxRecDepth 100000
set_option maxHeartbeats 8000000
theorem znf (t pa g : Nat) (m : Int) (w : World) (ht : Rd1 w (blk t [.pointer none, .int .i64 m] 55)) : Calls Tryz.prog 18 [.pointer (some ⟨t, 0, none⟩), .pointer (some ⟨pa, 0, none⟩), .agg #[.pointer (some ⟨g, 0, none⟩), .int .i64 ((4 : Nat) : Int)]].toArray w fun e w' => e = .returned (.tuple #[.slice none 0 0, .int .i64 0]) ∧ Below w.heap.size w w' := by
 refine zab T [] [] [blk t [.pointer none, .int .i64 m] 55] Tryz.func18 rfl Tryz.ntmps18 rfl (Rds.cons ht .nil).kn ?_
 (repeat' (first | (refine gH ?_; try intro _) | (refine g_mv rfl ?_; refine cb (fun w hk => zcV t (.pointer none) (.int .i64 m) w ⟨_, rfl⟩ (hk.rR (φ := blk t [.pointer none, .int .i64 m] 55) mE)) ?_) | (refine gS ?_ ?_ <;> intro _) | fail))
 refine zad hT rfl rfl (.tmp rfl (.tmp rfl .nil)) (fun w' hk => ?_)
 exact ⟨rfl, hk.toBelow⟩
theorem zpe {h : Nat} (a : Tr.T h) (t pa g n k : Nat) (m : Int) (sv lv : Value) (S : List SecD) (W : List WrD) (Wl : List (Nat × List Int)) (D : AlD) (w : World) (hok : Tr.Ok h a) (h6 : Six h a) (hb : ∀ e ∈ ents h a, e.Bd) (hnd : (gs h a).Nodup) (ha : AOk h a) (hl9 : (nds h a).length ≤ 1000) (hW9 : W.length ≤ 1000) (hn : n ≤ 94) (hSl : S.length = 100) (hq : SvOk n S (⟨k, [], Wl⟩ : SvS) (⟨none, 0, D, lv, W⟩ : SvQ)) (hf : k + fr h a ≤ n)
 (ht : Rd1 w (blk t [.pointer (some ⟨(nd h a).g, 0, none⟩), .int .i64 m] 55)) (hsl : Rd1 w (slF h a)) (hd : ∀ b, (packF [alF pa n D (alK n k), dkF g ⟨sv, lv, S, W⟩, hdF h a]).S b → b ≠ t ∧ ¬ (slF h a).S b) (hp : Rd1 w (packF [alF pa n D (alK n k), dkF g ⟨sv, lv, S, W⟩, hdF h a])) :
 Calls Tryz.prog 18 [.pointer (some ⟨t, 0, none⟩), .pointer (some ⟨pa, 0, none⟩), .agg #[.pointer (some ⟨g, 0, none⟩), .int .i64 ((4 : Nat) : Int)]].toArray w (RetM (packF [alF pa n D (alK n k), dkF g ⟨sv, lv, S, W⟩, hdF h a]) (SvOk n S (svT h a (⟨k, [], Wl⟩ : SvS)).2) (fun q => .tuple #[.slice q.A (svT h a (⟨k, [], Wl⟩ : SvS)).2.l.length q.c, .int .i64 0]) (fun q => packF [own 0 26 1 (.slice q.A (svT h a (⟨k, [], Wl⟩ : SvS)).2.l.length q.c) (IE .u32) (svT h a (⟨k, [], Wl⟩ : SvS)).2.l, alF pa n q.D (alK n (svT h a (⟨k, [], Wl⟩ : SvS)).2.k), dkF g ⟨sv, q.lv, S, q.W⟩, hdF h (svT h a (⟨k, [], Wl⟩ : SvS)).1]) w) := by
 have hAI : AlI n D (alK n k) := hq.a
 have haf := fun w h => zff pa n D (alK n k) w hAI h
 rw [zjI] at haf
 obtain ⟨s', hs'⟩ : ∃ s', s' = (svT h a (⟨k, [], Wl⟩ : SvS)).2 := ⟨_, rfl⟩
 obtain ⟨a', ha'⟩ : ∃ a', a' = (svT h a (⟨k, [], Wl⟩ : SvS)).1 := ⟨_, rfl⟩
 have hsv := fun sp w h1 h2 h3 => zkL h a hok h6 hb hnd ha sp g pa n sv S (⟨k, [], Wl⟩ : SvS) (⟨none, 0, D, lv, W⟩ : SvQ) w hn hf (by show 0 + _ ≤ 10000; omega) (by show W.length + _ ≤ 90000; omega) hSl hq h1 h2 h3
 rw [← hs', ← ha'] at hsv ⊢
 refine zab T (finE (packF [alF pa n D (alK n k), dkF g ⟨sv, lv, S, W⟩, hdF h a]) w) [alF pa n D (alK n k), dkF g ⟨sv, lv, S, W⟩, hdF h a] [blk t [.pointer (some ⟨(nd h a).g, 0, none⟩), .int .i64 m] 55, slF h a] Tryz.func18 rfl Tryz.ntmps18 rfl (Kn.startP hp (fun b hb => (zaB hp.2 b).2 hb) (fun ψ hψ => by
  rcases List.mem_cons.1 hψ with rfl | hψ
  ·exact ⟨ht, fun b hb hb2 => (hd b hb).1 hb2⟩
  ·obtain rfl := m1 hψ
   exact ⟨hsl, fun b hb => (hd b hb).2⟩)) ?_
 refine zbO 0 26 1 (IE .u32) ?_
 (repeat (refine gG ?_; try intro _))
 rename_i g5 sp
 refine cB (fun w hk => zcV t (.pointer (some ⟨(nd h a).g, 0, none⟩)) (.int .i64 m) w ⟨_, rfl⟩ (hk.rR (φ := blk t [.pointer (some ⟨(nd h a).g, 0, none⟩), .int .i64 m] 55) mE)) ?_
 (repeat' (first | (refine gH ?_; try intro _) | (refine gS ?_ ?_ <;> intro _) | fail))
 refine cB (fun w hk => zcV t (.pointer (some ⟨(nd h a).g, 0, none⟩)) (.int .i64 m) w ⟨_, rfl⟩ (hk.rR (φ := blk t [.pointer (some ⟨(nd h a).g, 0, none⟩), .int .i64 m] 55) mE)) ?_
 (repeat (refine gG ?_; try intro _))
 refine g_mv rfl ?_; refine zau (fun w hk => zfB h a w hok (by omega) ((zjv h a).rd fun ψ hψ => by
  rcases List.mem_cons.1 hψ with rfl | hψ
  ·exact hk.rO (φ := hdF h a) mE
  ·obtain rfl := m1 hψ
   exact hk.rR (φ := slF h a) mE)) rfl rfl rfl rfl rfl kR ?_
 (repeat (refine gG ?_; try intro _))
 refine cB (fun w hk => haf w (hk.rO (φ := alF pa n D (alK n k)) mE)) ?_
 (repeat' (first | (refine gH ?_; try intro _) | (refine gS ?_ ?_ <;> intro _) | fail))
 refine cB (fun w hk => zcV t (.pointer (some ⟨(nd h a).g, 0, none⟩)) (.int .i64 m) w ⟨_, rfl⟩ (hk.rR (φ := blk t [.pointer (some ⟨(nd h a).g, 0, none⟩), .int .i64 m] 55) mE)) ?_
 (repeat (refine gG ?_; try intro _))
 refine zcD (svF sp g pa n sv S (⟨k, [], Wl⟩ : SvS) (⟨none, 0, D, lv, W⟩ : SvQ) ++ [hdF h a]) [] sA ?_
 refine g_mv rfl (zax (φ := packF (svF sp g pa n sv S (⟨k, [], Wl⟩ : SvS) (⟨none, 0, D, lv, W⟩ : SvQ) ++ [hdF h a])) (ψ := fun q : SvQ => packF (svF sp g pa n sv S s' q ++ [hdF h a'])) (fun w hk => by exact hsv sp w (hk.rR (φ := slF h a) mE) (fun b hb => hk.disR (packF (svF sp g pa n sv S (⟨k, [], Wl⟩ : SvS) (⟨none, 0, D, lv, W⟩ : SvQ) ++ [hdF h a])) mE (slF h a) mE b hb) (hk.rO (φ := packF (svF sp g pa n sv S (⟨k, [], Wl⟩ : SvS) (⟨none, 0, D, lv, W⟩ : SvQ) ++ [hdF h a])) mE)) rfl rfl rfl rfl rfl kR uD (fun q hq' => ?_))
 refine zbJ (l := svF sp g pa n sv S s' q ++ [hdF h a']) sE ?_
 dsimp only [svF, List.cons_append, List.nil_append]
 (repeat' (first | (refine gH ?_; try intro _) | (refine gS ?_ ?_ <;> intro _) | fail))
 refine zad hT rfl rfl (.tmp rfl (.tmp rfl .nil)) (fun w' hk => ?_)
 exact RetM.mkP (ll := fun q : SvQ => [own 0 26 1 (.slice q.A s'.l.length q.c) (IE .u32) s'.l, alF pa n q.D (alK n s'.k), dkF g ⟨sv, q.lv, S, q.W⟩, hdF h a']) q hq' rfl hk (fun b hb => (zaB hp.2 b).1 hb) sA
end Go.Proofs.YtaghmffgoomebaaGreat.St
namespace Go.Proofs.YtaghmffgoomebaaGreat.St
open Go.RowKit Mem Gx Bytes Dk Al Rf Hp Nd Ch
set_option maxRecDepth 100000
set_option maxHeartbeats 4000000
structure LdS where
 r : Nat
 M : List (Int × Value)
 U : List Int
 A : Option Addr
 c : Nat
 l : List Int
 n : Int
abbrev ldL (lb g : Nat) (s : LdS) : List Fact := [blk lb [.pointer (some ⟨g, 0, none⟩), .int .i64 ((4 : Nat) : Int), .map (some s.r), .slice s.A s.l.length s.c, .int .i64 s.n] 81, mpk s.r (Value.int .u32) s.M, own 0 26 1 (.slice s.A s.l.length s.c) (IE .u32) s.l]
structure IsLeafA (b : Int) (L : List EntD) (d : NodeD) : Prop where
 ok : d.Ok
 leaf : d.leaf = true
 Ks : d.Ks = L.map (·.k)
 Vs : d.Vs = L.map (·.a)
 Cs : d.Cs = []
 vg : ∀ x, d.V.A = some x → 0 < d.Vs.length → x.block ≠ d.g
 a : d.a = b
noncomputable def entsOf (X : List Int) : List EntD := decN (Page.getS X).2.1 (nB (Page.getS X).2.1)
structure LdI (b : Nat) (s : LdS) (L : List EntD) (q : LdS × NodeD) : Prop where
 m : MapIs q.1.M (uV (s.U ++ [(b : Int)]))
 U : q.1.U = s.U ++ [(b : Int)]
 l : q.1.l = s.l ++ [(b : Int)]
 n : q.1.n = s.n + (L.length : Int)
 d : IsLeafA b L q.2
theorem zkv {M : List (Int × Value)} {U : List Int} {b : Int} (hu : MapIs M (uV U)) : MapIs (msG b (.int .i64 1) M) (uV (U ++ [b])) := hu.set fun k => by
 unfold uV
 by_cases e : k = b
 ·subst e; rw [if_pos rfl, if_pos (by simp)]
 ·rw [if_neg e]
  by_cases h : k ∈ U
  ·rw [if_pos h, if_pos (List.mem_append_left _ h)]
  ·rw [if_neg h, if_neg (by simp [h, e])]
theorem zj3 (lb g b : Nat) (deep : Int) (s : LdS) (sv lv : Value) (S : List SecD) (W : List WrD) (w : World) (hu : MapIs s.M (uV s.U)) (hb : ¬ (b : Int) ∈ s.U) (hdp : deep ≠ 0) (hl9 : s.l.length ≤ 1000) (hn9 : 0 ≤ s.n ∧ s.n ≤ 100000) (hb1 : 1 ≤ b) (hbS : b + 4 + 1 < S.length) (hD : DkOk S W) (hW : W.length ≤ 100000)
 (hX : SecOk (dread (S.map SecD.L) (W.map WrD.c) (b + 4 + 1))) (hc : ncode (dread (S.map SecD.L) (W.map WrD.c) (b + 4 + 1)) = 0) (hlf : (Page.getS (dread (S.map SecD.L) (W.map WrD.c) (b + 4 + 1))).1 = 3) (hdk : Rd1 w (dkF g ⟨sv, lv, S, W⟩)) (hdis : ∀ x, (packF (ldL lb g s)).S x → ¬ (dkF g ⟨sv, lv, S, W⟩).S x) (h : Rd1 w (packF (ldL lb g s))) :
 Calls Tryz.prog 30 [.pointer (some ⟨lb, 0, none⟩), .int .u32 (b : Nat), .int .i64 deep].toArray w (RetM (packF (ldL lb g s)) (LdI b s (entsOf (dread (S.map SecD.L) (W.map WrD.c) (b + 4 + 1)))) (fun q => .tuple #[q.2.ptr, .int .i64 0]) (fun q => packF (ldL lb g q.1 ++ q.2.fs)) w) := by
 have hS9 := hD.n
 obtain ⟨r, M, U, A, c, l, n⟩ := s
 dsimp only at hu hb hl9 hn9
 have hrd := fun w h => zg3 g 4 sv lv S W b w hD hW hb1 (by omega) (by decide) hbS h
 obtain ⟨X, hXe⟩ : ∃ X, X = (dread (S.map SecD.L) (W.map WrD.c) (b + 4 + 1)) := ⟨_, rfl⟩
 rw [← hXe] at hX hc hlf hrd ⊢
 have hE6 : (entsOf X).length ≤ 6 := by unfold entsOf; rw [zjw]; unfold nB; omega
 refine zab T (finE (packF (ldL lb g ⟨r, M, U, A, c, l, n⟩)) w) [blk lb [.pointer (some ⟨g, 0, none⟩), .int .i64 ((4 : Nat) : Int), .map (some r), .slice A l.length c, .int .i64 n] 81, mpk r (Value.int .u32) M, own 0 26 1 (.slice A l.length c) (IE .u32) l] [dkF g ⟨sv, lv, S, W⟩] Tryz.func30 rfl Tryz.ntmps30 rfl (Kn.startP h (fun b hb => (zaB h.2 b).2 hb) (fun ψ hψ => by obtain rfl := m1 hψ; exact ⟨hdk, hdis⟩)) ?_
 (repeat' (first | (refine gH ?_; try intro _) | (refine gS ?_ ?_ <;> intro _) | fail))
 refine g_yd rfl rfl ((zbY (S := [mpk r (Value.int .u32) M]) (b : Int) rfl rfl rfl rfl Tryz.underlying79 zfl zfn (.head _)).ydS sF) ?_
 refine zaK 26 (.int .i64 (if (b : Int) ∈ U then 1 else 0)) rfl (lk_u hu b) ?_
 rw [if_neg hb]
 (repeat' (first | (refine gH ?_; try intro _) | (refine gS ?_ ?_ <;> intro _) | fail))
 refine g_mv rfl (zbV rfl (b : Int) rfl rfl rfl rfl rfl Tryz.underlying79 zfl (by first | ((repeat (first | with_reducible exact Upd.here _ | with_reducible apply Upd.there)); done) | ((repeat (first | exact Upd.here _ | apply Upd.there)); done) | fail) ?_)
 (repeat (refine gG ?_; try intro _))
 refine cR (fun w hk => hrd w (hk.rR (φ := dkF g ⟨sv, lv, S, W⟩) mE)) (fun u hu2 => ?_)
 (repeat' (first | (refine gH ?_; try intro _) | (refine gS ?_ ?_ <;> intro _) | fail))
 refine cR (fun w hk => ziX u.A u.n u.c X w hu2 (hk.pO (sl u.A 1 (IE .u8) X) mE) hX.2) (fun rr hr => ?_)
 obtain ⟨⟨⟨rA, rn, rc⟩, RM⟩, rl, re⟩ := rr
 obtain ⟨r1, r2, r3, r4⟩ := hr
 dsimp only [SlV.v] at r1 r2 r3 r4 ⊢
 rw [if_pos hc] at r3 r4
 rw [hc] at r2
 rw [zan hlf] at r4
 replace r3 : RM = entsOf X := r3
 subst r2 r4 r3
 have hrn : rn = (entsOf X).length := r1.n
 subst hrn
 (repeat' (first | (refine gH ?_; try intro _) | (refine gS ?_ ?_ <;> intro _) | fail))
 refine cR (fun w hk => zdA rA (entsOf X).length rc (entsOf X) w rfl (by omega) (hk.pO (sl rA 4 EE (entsOf X)) mE)) (fun d hd => ?_)
 obtain ⟨dg, lf, ⟨KA, Km, Kc⟩, Ks, ⟨VA, Vn, Vc⟩, Vs, ⟨CA, Cn, Cc⟩, Cs, da⟩ := d
 obtain ⟨hd0, e1, e2, e3, e4, e6, _⟩ := hd
 dsimp only at e1 e2 e3 e4
 subst e1 e2 e3 e4
 dsimp only [NodeD.fs, NodeD.ptr, SlV.v]
 (repeat' (first | (refine gH ?_; try intro _) | (refine gS ?_ ?_ <;> intro _) | fail))
 refine g_mv rfl (zac (L := l) rfl [(b : Int)] rfl rfl rfl rfl Ch.zaO uD (zah mE rfl) rfl Ch.oneU (by simp only [maxLen, List.length_append, List.length_cons, List.length_nil]; omega) (by simp only [List.length_append, List.length_cons, List.length_nil]; omega) (Nat.zero_le _) ?_)
 intro v2
 refine zc5 v2 mE (fun A3 c3 hv3 _ _ _ => ?_)
 subst hv3
 (repeat (refine gG ?_; try intro _))
 refine zad hT rfl rfl (.tmp rfl (.tmp rfl .nil)) (fun w' hk => ?_)
 exact RetM.mkP (ll := fun q : LdS × NodeD => ldL lb g q.1 ++ q.2.fs) ((⟨r, msG (b : Int) (.int .i64 1) M, U ++ [(b : Int)], A3, c3, l ++ [(b : Int)], n + ((entsOf X).length : Int)⟩, ⟨dg, true, ⟨KA, Km, Kc⟩, (entsOf X).map (·.k), ⟨VA, Vn, Vc⟩, (entsOf X).map (·.a), ⟨CA, Cn, Cc⟩, [], (b : Int)⟩) : LdS × NodeD) ⟨zkv hu, rfl, rfl, rfl, ⟨⟨hd0.K, hd0.V, hd0.C⟩, rfl, rfl, rfl, rfl, e6, rfl⟩⟩ rfl hk (fun b hb => (zaB h.2 b).1 hb) sA
end Go.Proofs.YtaghmffgoomebaaGreat.St
namespace Go.Proofs.YtaghmffgoomebaaGreat.St
open Go.RowKit Mem Gx Bytes Dk Al Rf Hp Nd Ch
set_option maxRecDepth 100000
set_option maxHeartbeats 4000000
theorem zca : ∀ {l : List Int}, IsB l → 0 ≤ num l ∧ num l < 256 ^ l.length
 | [], _ => ⟨Int.le_refl _, by simp [num]⟩
 | c :: l, h => by
   obtain ⟨h1, h2⟩ := zca (l := l) (fun x hx => h x (.tail _ hx))
   have hc := h c (.head _)
   have e : (256 : Int) ^ (c :: l).length = 256 * 256 ^ l.length := by rw [List.length_cons, Int.pow_succ, Int.mul_comm]
   rw [e]
   show 0 ≤ c + 256 * num l ∧ c + 256 * num l < 256 * 256 ^ l.length
   constructor
   ·omega
   ·generalize (256 : Int) ^ l.length = z at h2 ⊢
    omega
structure NodeS (X : List Int) : Prop where
 k : (Page.getS X).1 = 3 ∨ (Page.getS X).1 = 4
 n : 1 ≤ (entsOf X).length
 a : (Page.getS X).1 = 4 → ∀ (i : Nat) (e : EntD), (entsOf X)[i]? = some e → e.a ≠ 0
 asc : ∀ (i : Nat), 0 < i → i < (entsOf X).length → klt ((entsOf X).getD (i - 1) default).k ((entsOf X).getD i default).k
end Go.Proofs.YtaghmffgoomebaaGreat.St
namespace Go.Proofs.YtaghmffgoomebaaGreat.St
open Go.RowKit Mem Gx Bytes Dk Al Rf Hp Nd Ch
set_option maxRecDepth 100000
set_option maxHeartbeats 4000000
structure PgOf (k : Int) (L : List EntD) (X : List Int) : Prop where
 ok : SecOk X
 c : ncode X = 0
 k : (Page.getS X).1 = k
 e : entsOf X = L
theorem zg6 {L : List EntD} {k : Int} (hk : k = 3 ∨ k = 4) (hb : ∀ e ∈ L, e.Bd) (h1 : 1 ≤ L.length) (h6 : L.length ≤ 6) (ha : Asc L) (hn : k = 4 → ∀ e ∈ L, e.a ≠ 0) : PgOf k L (Page.page k (nodeB L)) := by
 have hl : (nodeB L).length = 1 + 18 * L.length := zbK L
 have hg : Page.getS (Page.page k (nodeB L)) = (k, nodeB L, 0) := Page.zhs (by omega) (by omega) (by omega)
 refine ⟨⟨Page.zcv (by omega), Page.zf6 (by omega) (by omega) (zcL L (by omega))⟩, zhW hk hb h1 h6 ha hn, by rw [hg], ?_⟩
 unfold entsOf
 rw [hg]
 dsimp only
 rw [zgb h6]
 exact zfH hb
theorem NodeS.rise {X : List Int} (h : NodeS X) : Asc (entsOf X) := h.asc
theorem zbr {x y z : KeyD} (h : klt x y) (h' : klt y z) : klt x z := by
 unfold klt at *
 omega
end Go.Proofs.YtaghmffgoomebaaGreat.St
