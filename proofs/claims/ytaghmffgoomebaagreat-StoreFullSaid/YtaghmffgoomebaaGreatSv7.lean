/- store's saver: any tree; Save. store.Save: no tree, too few blocks, or all is saved. -/
import Derived.Test.YtaghmffgoomebaaGreatSv5
namespace Go.Proofs.YtaghmffgoomebaaGreat.St
open Go.RowKit Mem Gx Bytes Dk Al Rf Hp Nd Ch
open Tr hiding T row
set_option linter.unusedVariables false
set_option linter.unusedSimpArgs false
set_option maxRecDepth 100000
set_option maxHeartbeats 400000
theorem sec_page {k : Int} (hk : k = 3 ∨ k = 4) {L : List EntD} (h6 : L.length ≤ 6) : SecOk (Page.page k (nodeB L)) := by
  have hl : (nodeB L).length = 1 + 18 * L.length := nodeB_len L
  exact ⟨Page.page_length (by omega), Page.page_isB (by omega) (by omega) (nodeB_isB L (by omega))⟩
/-- node.Put hands back the sector. -/
theorem put_x {L : List EntD} {lf : Bool} {g : Nat} {w : World} (h1 : 0 < L.length) (h6 : L.length ≤ 6) (h0 : lf = true ∨ ∀ e ∈ L, e.a ≠ 0) (h : Calls Tryz.prog 70 [.pointer (some ⟨g, 0, none⟩)].toArray w (Nd.RetP L lf w)) :
    Calls Tryz.prog 70 [.pointer (some ⟨g, 0, none⟩)].toArray w (PutX (Page.page (if lf = true then 3 else 4) (nodeB L)) w) := by
  have hc : putC L lf = 0 := by
    unfold putC
    rw [if_neg (by omega)]
    rcases h0 with rfl | h0
    · rfl
    · rw [tB_false (fun ⟨e, he, hz⟩ => h0 e he hz), Bool.and_false]
      rfl
  refine h.mono ?_
  rintro e w' ⟨⟨s, M, c⟩, ⟨k1, k2, k3⟩, he, hf⟩
  dsimp only at k1 k2 k3 he hf
  have hM : M = Page.page (if lf = true then 3 else 4) (nodeB L) := by rw [k3]; unfold putM; rw [if_pos hc]
  rw [hc] at k2
  subst k2
  subst hM
  exact ⟨s, k1, he, hf⟩
/-- Blocks of nodes are what they may be. -/
def AOk (h : Nat) (t : Tr.T h) : Prop := ∀ d ∈ nds h t, 0 ≤ d.a ∧ d.a ≤ 94
theorem svN_a {d : NodeD} {X : List Int} {s : SvS} (h : 0 ≤ d.a ∧ d.a ≤ 94) (hk : s.k + frN d ≤ 94) : 0 < (svN d X s).1.a ∧ (svN d X s).1.a ≤ 94 := by
  unfold svN
  unfold frN at hk
  split
  · rename_i h0
    rw [if_pos h0] at hk
    exact ⟨by show (0 : Int) < (s.k : Int) + 1; omega, by show (s.k : Int) + 1 ≤ 94; omega⟩
  · rename_i h0
    exact ⟨by show 0 < d.a; omega, h.2⟩
theorem svT_a : ∀ (h : Nat) (t : Tr.T h) (s : SvS), AOk h t → s.k + fr h t ≤ 94 → ∀ d ∈ nds h (svT h t s).1, 0 < d.a ∧ d.a ≤ 94
  | 0, t, s, ha, hk, d, hd => by
    obtain rfl := List.mem_singleton.1 hd
    exact svN_a (ha _ (.head _)) hk
  | h + 1, t, s, ha, hk, d, hd => by
    have hk' : s.k + ((t.2.map (fr h)).sum + frN t.1) ≤ 94 := hk
    have key : ∀ (ks : List (Tr.T h)) (s : SvS), (∀ k ∈ ks, AOk h k) → s.k + (ks.map (fr h)).sum ≤ 94 → ∀ k ∈ (svL (svT h) ks s).1, ∀ d ∈ nds h k, 0 < d.a ∧ d.a ≤ 94 := fun ks => by
      induction ks with
      | nil => intro s _ _ k hk; cases hk
      | cons x r ih =>
        intro s hA hs k hk
        rw [List.map_cons, List.sum_cons] at hs
        rcases List.mem_cons.1 hk with rfl | hk
        · exact svT_a h x s (hA x (.head _)) (by omega)
        · exact ih (svT h x s).2 (fun k hk => hA k (.tail _ hk)) (by rw [(svT_k h x s).1]; omega) k hk
    rcases nds_cases hd with rfl | ⟨k, hkm, hd⟩
    · exact svN_a (ha _ (.head _)) (by rw [(svL_k (svT h) (fr h) (pl h) (svT_k h) t.2 s).1]; show s.k + (t.2.map (fr h)).sum + frN t.1 ≤ 94; omega)
    · exact key t.2 s (fun k hk d hd => ha d (nds_kid hk hd)) (by omega) k hkm d hd
theorem AOk.kid {h : Nat} {t : Tr.T (h + 1)} (ha : AOk (h + 1) t) {k : Tr.T h} (hk : k ∈ t.2) : AOk h k := fun d hd => ha d (nds_kid hk hd)
theorem nodup_kid {h : Nat} {t : Tr.T (h + 1)} (hn : (gs (h + 1) t).Nodup) {k : Tr.T h} (hk : k ∈ t.2) : (gs h k).Nodup := (List.pairwise_flatten.1 (List.nodup_cons.1 hn).2).1 _ (List.mem_map.2 ⟨k, hk, rfl⟩)
/-- How many children or entries, at most six. -/
def Six : (h : Nat) → Tr.T h → Prop
  | 0, t => t.2.length ≤ 6
  | h + 1, t => t.2.length ≤ 6 ∧ ∀ k ∈ t.2, Six h k
theorem good_six : ∀ (h : Nat) (t : Tr.T h), Tr.Good h t → Six h t
  | 0, _, g => g.2
  | h + 1, _, g => ⟨g.2.1, fun k hk => good_six h k (g.2.2 k hk)⟩
theorem root_six : ∀ (h : Nat) (t : Tr.T h), Tr.Root h t → Six h t
  | 0, _, g => g.2
  | h + 1, _, g => ⟨g.2.1, fun k hk => good_six h k (g.2.2 k hk)⟩
theorem slF_zero (t : Tr.T 0) : slF 0 t = allF (t.1 :: (([] : List (Tr.T 0)).map (nds 0)).flatten) slD := rfl
theorem hdF_zero (t : Tr.T 0) : hdF 0 t = hdX t.1 ([] : List (Tr.T 0)) := rfl
theorem slF_succ {h : Nat} (t : Tr.T (h + 1)) : slF (h + 1) t = allF (t.1 :: (t.2.map (nds h)).flatten) slD := rfl
theorem hdF_succ {h : Nat} (t : Tr.T (h + 1)) : hdF (h + 1) t = hdX t.1 t.2 := rfl
theorem svT_z1 (t : Tr.T 0) (s : SvS) : hdX (svT 0 t s).1.1 ([] : List (Tr.T 0)) = hdX (svN t.1 (Page.page 3 (nodeB t.2)) (svL (svT 0) ([] : List (Tr.T 0)) s).2).1 (svL (svT 0) ([] : List (Tr.T 0)) s).1 := rfl
theorem svT_z2 (t : Tr.T 0) (s : SvS) : (svT 0 t s).2 = (svN t.1 (Page.page 3 (nodeB t.2)) (svL (svT 0) ([] : List (Tr.T 0)) s).2).2 := rfl
theorem svT_s1 {h : Nat} (t : Tr.T (h + 1)) (s : SvS) : hdX (svT (h + 1) t s).1.1 (svT (h + 1) t s).1.2 = hdX (svN t.1 (Page.page 4 (nodeB (kidE h (svL (svT h) t.2 s).1))) (svL (svT h) t.2 s).2).1 (svL (svT h) t.2 s).1 := rfl
theorem svT_s2 {h : Nat} (t : Tr.T (h + 1)) (s : SvS) : (svT (h + 1) t s).2 = (svN t.1 (Page.page 4 (nodeB (kidE h (svL (svT h) t.2 s).1))) (svL (svT h) t.2 s).2).2 := rfl
theorem save_leaf (t : Tr.T 0) (d : NodeD) (E : List EntD) (e1 : t.1 = d) (e2 : t.2 = E) (ok : IsLeafW E d ∧ 0 < E.length) (h6 : E.length ≤ 6) (hb : ∀ e ∈ E, e.Bd) : SaveC 0 t := by
  unfold SaveC
  intro sp g pa n sv S s q w hn94 hfr hl hW hSl hq hsl hdis hp
  rw [slF_zero, e1] at hsl hdis
  rw [hdF_zero, e1] at hdis hp ⊢
  rw [hdF_zero, svT_z1, svT_z2, e1, e2]
  replace hfr : s.k + frN d ≤ n := by rw [← e1]; exact hfr
  replace hl : s.l.length + 1 ≤ 10000 := hl
  replace hW : q.W.length + 1 ≤ 90000 := hW
  have hg : (nd 0 t).g = d.g := by rw [← e1]; rfl
  rw [hg]
  clear e1 e2 hg
  have hE6 : E.length ≤ 6 := h6
  have hE1 : 0 < E.length := ok.2
  have hd : IsLeafW E d := ok.1
  have hCs : d.Cs = [] := hd.Cs
  have hCn : d.C.n = d.Cs.length := hd.ok.C.n
  obtain ⟨dg, lf, ⟨KA, Km, Kc⟩, Ks, ⟨VA, Vn, Vc⟩, Vs, ⟨CA, Cn, Cc⟩, Cs, da⟩ := d
  dsimp only at hCs hCn
  subst hCn
  exact save_node (h := 0) dg lf KA VA CA Km Kc Vn Vc Cc Ks Vs Cs da [] (Page.page 3 (nodeB E)) sp g pa n sv S s q w hd.ok (by rw [hCs]; rfl) (by simp) hn94 (by simp; exact hfr) (by simp; omega) (by simp; omega) hSl hq (fun k hk => (by cases hk)) (sec_page (.inl rfl) hE6)
    (fun h0 w h1 h2 h3 => put_x (lf := true) (L := E) hE1 hE6 (.inl rfl) (nput_leaf ⟨dg, lf, ⟨KA, Km, Kc⟩, Ks, ⟨VA, Vn, Vc⟩, Vs, ⟨CA, Cs.length, Cc⟩, Cs, da⟩ E w hd hE1 hE6 hb (.cons h1 (.cons (Rd1.open (F := id) h2 (.head _)) (.cons (Rd1.open (F := id) h2 (.tail _ (.head _))) .nil))))) hsl hdis hp
theorem save_inner {h : Nat} (t : Tr.T (h + 1)) (d : NodeD) (ks : List (Tr.T h)) (e1 : t.1 = d) (e2 : t.2 = ks) (ok : IsInnerW (ks.map (nd h)) d ∧ 0 < ks.length ∧ ∀ k ∈ ks, Tr.Ok h k) (h6 : ks.length ≤ 6) (hb : ∀ e ∈ (ks.map (ents h)).flatten, e.Bd) (hn : (d.g :: (ks.map (gs h)).flatten).Nodup) (ha : AOk (h + 1) t) (hkd : ∀ k ∈ ks, SaveC h k) : SaveC (h + 1) t := by
  unfold SaveC
  intro sp g pa n sv S s q w hn94 hfr hl hW hSl hq hsl hdis hp
  rw [slF_succ, e1, e2] at hsl hdis
  rw [hdF_succ, e1, e2] at hdis hp ⊢
  rw [hdF_succ, svT_s1, svT_s2, e1, e2]
  have hfr' : s.k + ((ks.map (fr h)).sum + frN d) ≤ n := by rw [← e1, ← e2]; exact hfr
  replace hl : s.l.length + (((ks.map (nds h)).flatten).length + 1) ≤ 10000 := by rw [← e2]; exact hl
  replace hW : q.W.length + (((ks.map (nds h)).flatten).length + 1) ≤ 90000 := by rw [← e2]; exact hW
  have hAk : ∀ k ∈ (svL (svT h) ks s).1, 0 < (nd h k).a ∧ (nd h k).a ≤ 94 := fun k hk => svT_a (h + 1) t s ha (Nat.le_trans hfr hn94) (nd h k) (nds_kid (t := (svT (h + 1) t s).1) (by show k ∈ (svL (svT h) t.2 s).1; rw [e2]; exact hk) (nds_self h k))
  have hg : (nd (h + 1) t).g = d.g := by rw [← e1]; rfl
  rw [hg]
  clear e1 e2 hg ha hfr
  have hk6 : ks.length ≤ 6 := h6
  have hk1 : 0 < ks.length := ok.2.1
  have hd : IsInnerW (ks.map (nd h)) d := ok.1
  have hCn : d.C.n = d.Cs.length := hd.ok.C.n
  have hnd : (d.g :: ((ks.map (nds h)).flatten).map NodeD.g).Nodup := by rw [flat_g]; exact hn
  have hKs : (svL (svT h) ks s).1.map (fun k => (nd h k).Ks.getD 0 default) = ks.map fun k => (nd h k).Ks.getD 0 default := svL_map (svT h) (fun k => (nd h k).Ks.getD 0 default) (fun x s => by rw [(svT_nd h x s).Ks]) ks s
  have hgs : (svL (svT h) ks s).1.map (fun k => (nd h k).g) = ks.map fun k => (nd h k).g := svL_map (svT h) (fun k => (nd h k).g) (fun x s => (svT_nd h x s).g) ks s
  have hlen : (kidE h (svL (svT h) ks s).1).length = ks.length := by unfold kidE; rw [List.length_map, svL_len]
  have hEb : ∀ e ∈ kidE h (svL (svT h) ks s).1, e.Bd ∧ e.a ≠ 0 := fun e he => by
    obtain ⟨k, hk, rfl⟩ := List.mem_map.1 he
    obtain ⟨a1, a2⟩ := hAk k hk
    refine ⟨⟨?_, ⟨by show 0 ≤ (nd h k).a; omega, by show (nd h k).a < 4294967296; omega⟩⟩, by show (nd h k).a ≠ 0; omega⟩
    show ((nd h k).Ks.getD 0 default).Bd
    have hm : (nd h k).Ks.getD 0 default ∈ ks.map fun k => (nd h k).Ks.getD 0 default := by
      rw [← hKs]
      exact List.mem_map.2 ⟨k, hk, rfl⟩
    obtain ⟨k0, hk0, e0⟩ := List.mem_map.1 hm
    rw [← e0]
    obtain ⟨f1, f2⟩ := first_key h k0 (ok.2.2 k0 hk0)
    obtain ⟨y, r, g1, g2⟩ := fstK_at f1
    rw [f2, g2]
    exact (hb y (List.mem_flatten.2 ⟨_, List.mem_map.2 ⟨k0, hk0, rfl⟩, by rw [g1]; exact .head _⟩)).k
  obtain ⟨dg, lf, ⟨KA, Km, Kc⟩, Ks, ⟨VA, Vn, Vc⟩, Vs, ⟨CA, Cn, Cc⟩, Cs, da⟩ := d
  dsimp only at hCn
  subst hCn
  refine save_node (h := h) dg lf KA VA CA Km Kc Vn Vc Cc Ks Vs Cs da ks (Page.page 4 (nodeB (kidE h (svL (svT h) ks s).1))) sp g pa n sv S s q w hd.ok hd.Cs hnd hn94 hfr' hl hW hSl hq hkd (sec_page (.inr rfl) (by rw [hlen]; exact hk6)) (fun h0 w h1 h2 h3 => ?_) hsl hdis hp
  refine put_x (lf := false) (L := kidE h (svL (svT h) ks s).1) (by rw [hlen]; exact hk1) (by rw [hlen]; exact hk6) (.inr fun e he => (hEb e he).2) (nput_inner ((svL (svT h) ks s).1.map (nd h)) ⟨dg, lf, ⟨KA, Km, Kc⟩, Ks, ⟨VA, Vn, Vc⟩, Vs, ⟨CA, Cs.length, Cc⟩, Cs, da⟩ (kidE h (svL (svT h) ks s).1) w hd.ok hd.leaf ?_ ?_ h0 ?_ (by rw [hlen]; exact hk1) (by rw [hlen]; exact hk6) (fun e he => (hEb e he).1) (.cons h1 (.cons (Rd1.open (F := id) h2 (.head _)) (.cons (Rd1.open (F := id) h2 (.tail _ (.tail _ (.head _)))) (.cons ?_ .nil)))))
  · have e1 : Ks = (ks.map (nd h)).map (fun x => x.Ks.getD 0 default) := hd.Ks
    show Ks = ((svL (svT h) ks s).1.map fun k => (⟨(nd h k).Ks.getD 0 default, (nd h k).a⟩ : EntD)).map (·.k)
    rw [e1, List.map_map, List.map_map]
    exact hKs.symm
  · have e1 : Cs = (ks.map (nd h)).map NodeD.g := hd.Cs
    show Cs = ((svL (svT h) ks s).1.map (nd h)).map NodeD.g
    rw [e1, List.map_map, List.map_map]
    exact hgs.symm
  · show ((svL (svT h) ks s).1.map (nd h)).map NodeD.a = ((svL (svT h) ks s).1.map fun k => (⟨(nd h k).Ks.getD 0 default, (nd h k).a⟩ : EntD)).map (·.a)
    rw [List.map_map, List.map_map]
    rfl
  · refine Rd1.all fun x hx => ?_
    obtain ⟨k, hk, rfl⟩ := List.mem_map.1 hx
    exact (Rd1.open h3 (x := nd h k) (List.mem_flatten.2 ⟨_, List.mem_map.2 ⟨k, hk, rfl⟩, nds_self h k⟩)).row
theorem saveT_any : ∀ (h : Nat) (t : Tr.T h), Tr.Ok h t → Six h t → (∀ e ∈ ents h t, e.Bd) → (gs h t).Nodup → AOk h t → SaveC h t := by
  intro h
  induction h with
  | zero =>
    intro t ok h6 hb hn ha
    exact save_leaf t t.1 t.2 rfl rfl ok h6 hb
  | succ h ih =>
    intro t ok h6 hb hn ha
    exact save_inner t t.1 t.2 rfl rfl ok h6.1 hb hn ha fun k hk => ih k (ok.2.2 k hk) (h6.2 k hk) (fun e he => hb e (List.mem_flatten.2 ⟨_, List.mem_map.2 ⟨k, hk, rfl⟩, he⟩)) (nodup_kid hn hk) (AOk.kid ha hk)
end Go.Proofs.YtaghmffgoomebaaGreat.St
namespace Go.Proofs.YtaghmffgoomebaaGreat.St
open Go.RowKit Mem Gx Bytes Dk Al Rf Hp Nd Ch
open Tr hiding T row
set_option linter.unusedVariables false
set_option linter.unusedSimpArgs false
set_option maxRecDepth 100000
set_option maxHeartbeats 8000000
theorem save_nil (t pa g : Nat) (m : Int) (w : World) (ht : Rd1 w (blk t [.pointer none, .int .i64 m] 55)) : Calls Tryz.prog 18 [.pointer (some ⟨t, 0, none⟩), .pointer (some ⟨pa, 0, none⟩), .agg #[.pointer (some ⟨g, 0, none⟩), .int .i64 ((4 : Nat) : Int)]].toArray w fun e w' => e = .returned (.tuple #[.slice none 0 0, .int .i64 0]) ∧ Below w.heap.size w w' := by
  refine g_enter0 T [] [] [blk t [.pointer none, .int .i64 m] 55] Tryz.func18 rfl Tryz.ntmps18 rfl (Rds.cons ht .nil).kn ?_
  (repeat' (first | (refine gG ?_; try intro _) | (refine g_mv rfl ?_; first | refine mv_call_bel (fun w hk => root_any t (.pointer none) (.int .i64 m) w ⟨_, rfl⟩ (hk.rR (φ := blk t [.pointer none, .int .i64 m] 55) mE)) rfl rfl rfl rfl rfl (by kernel_rfl) ?_) | ((first | refine g_split rfl rfl tE (fun _ => ?_) (fun _ => ?_) | refine gk_cond rfl rfl tE (fun _ => ?_) (fun _ => ?_)) <;> (try first | (exfalso; omega; done) | (rename_i hx; exact absurd rfl hx) | (rename_i hx; cases hx; done)))))
  refine gk_ret hT rfl rfl (.tmp rfl (.tmp rfl .nil)) (fun w' hk => ?_)
  exact ⟨rfl, hk.toBelow⟩
theorem save_full {h : Nat} (a : Tr.T h) (t pa g n k : Nat) (m : Int) (D : AlD) (w : World) (hok : Tr.Ok h a) (h9 : fr h a ≤ 10000) (hn : n ≤ 4096) (hAI : AlI n D (alK n k)) (hf : n - k < fr h a) (ht : Rd1 w (blk t [.pointer (some ⟨(nd h a).g, 0, none⟩), .int .i64 m] 55)) (hA : Rd1 w (alF pa n D (alK n k))) (hF : Rd1 w (treeF h a)) :
    Calls Tryz.prog 18 [.pointer (some ⟨t, 0, none⟩), .pointer (some ⟨pa, 0, none⟩), .agg #[.pointer (some ⟨g, 0, none⟩), .int .i64 ((4 : Nat) : Int)]].toArray w fun e w' => e = .returned (.tuple #[.slice none 0 0, .int .i64 30]) ∧ Below w.heap.size w w' := by
  have haf := fun w h => afree_any pa n D (alK n k) w hAI h
  rw [alK_free] at haf
  refine g_enter0 T [] [] [blk t [.pointer (some ⟨(nd h a).g, 0, none⟩), .int .i64 m] 55, alF pa n D (alK n k), treeF h a] Tryz.func18 rfl Tryz.ntmps18 rfl (Rds.cons ht (.cons hA (.cons hF .nil))).kn ?_
  (repeat (refine gG ?_; try intro _))
  refine g_mv rfl ?_; refine mv_call_bel (fun w hk => root_any t (.pointer (some ⟨(nd h a).g, 0, none⟩)) (.int .i64 m) w ⟨_, rfl⟩ (hk.rR (φ := blk t [.pointer (some ⟨(nd h a).g, 0, none⟩), .int .i64 m] 55) mE)) rfl rfl rfl rfl rfl (by kernel_rfl) ?_
  (repeat' (first | (refine gG ?_; try intro _) | ((first | refine g_split rfl rfl tE (fun _ => ?_) (fun _ => ?_) | refine gk_cond rfl rfl tE (fun _ => ?_) (fun _ => ?_)) <;> (try first | (exfalso; omega; done) | (rename_i hx; exact absurd rfl hx) | (rename_i hx; cases hx; done)))))
  refine g_mv rfl ?_; refine mv_call_bel (fun w hk => root_any t (.pointer (some ⟨(nd h a).g, 0, none⟩)) (.int .i64 m) w ⟨_, rfl⟩ (hk.rR (φ := blk t [.pointer (some ⟨(nd h a).g, 0, none⟩), .int .i64 m] 55) mE)) rfl rfl rfl rfl rfl (by kernel_rfl) ?_
  (repeat (refine gG ?_; try intro _))
  refine g_mv rfl ?_; refine mv_call_bel (fun w hk => freshT_any h a w hok h9 (hk.rR (φ := treeF h a) mE)) rfl rfl rfl rfl rfl (by kernel_rfl) ?_
  (repeat (refine gG ?_; try intro _))
  refine g_mv rfl ?_; refine mv_call_bel (fun w hk => haf w (hk.rR (φ := alF pa n D (alK n k)) mE)) rfl rfl rfl rfl rfl (by kernel_rfl) ?_
  (repeat' (first | (refine gG ?_; try intro _) | ((first | refine g_split rfl rfl tE (fun _ => ?_) (fun _ => ?_) | refine gk_cond rfl rfl tE (fun _ => ?_) (fun _ => ?_)) <;> (try first | (exfalso; omega; done) | (rename_i hx; exact absurd rfl hx) | (rename_i hx; cases hx; done)))))
  refine gk_ret hT rfl rfl (.tmp rfl (.tmp rfl .nil)) (fun w' hk => ?_)
  exact ⟨rfl, hk.toBelow⟩
theorem save_ok {h : Nat} (a : Tr.T h) (t pa g n k : Nat) (m : Int) (sv lv : Value) (S : List SecD) (W : List WrD) (Wl : List (Nat × List Int)) (D : AlD) (w : World) (hok : Tr.Ok h a) (h6 : Six h a) (hb : ∀ e ∈ ents h a, e.Bd) (hnd : (gs h a).Nodup) (ha : AOk h a) (hl9 : (nds h a).length ≤ 1000) (hW9 : W.length ≤ 1000) (hn : n ≤ 94) (hSl : S.length = 100) (hq : SvOk n S (⟨k, [], Wl⟩ : SvS) (⟨none, 0, D, lv, W⟩ : SvQ)) (hf : k + fr h a ≤ n)
    (ht : Rd1 w (blk t [.pointer (some ⟨(nd h a).g, 0, none⟩), .int .i64 m] 55)) (hsl : Rd1 w (slF h a)) (hd : ∀ b, (packF [alF pa n D (alK n k), dkF g ⟨sv, lv, S, W⟩, hdF h a]).S b → b ≠ t ∧ ¬ (slF h a).S b) (hp : Rd1 w (packF [alF pa n D (alK n k), dkF g ⟨sv, lv, S, W⟩, hdF h a])) :
    Calls Tryz.prog 18 [.pointer (some ⟨t, 0, none⟩), .pointer (some ⟨pa, 0, none⟩), .agg #[.pointer (some ⟨g, 0, none⟩), .int .i64 ((4 : Nat) : Int)]].toArray w (RetM (packF [alF pa n D (alK n k), dkF g ⟨sv, lv, S, W⟩, hdF h a]) (SvOk n S (svT h a (⟨k, [], Wl⟩ : SvS)).2) (fun q => .tuple #[.slice q.A (svT h a (⟨k, [], Wl⟩ : SvS)).2.l.length q.c, .int .i64 0]) (fun q => packF [own 0 26 1 (.slice q.A (svT h a (⟨k, [], Wl⟩ : SvS)).2.l.length q.c) (IE .u32) (svT h a (⟨k, [], Wl⟩ : SvS)).2.l, alF pa n q.D (alK n (svT h a (⟨k, [], Wl⟩ : SvS)).2.k), dkF g ⟨sv, q.lv, S, q.W⟩, hdF h (svT h a (⟨k, [], Wl⟩ : SvS)).1]) w) := by
  have hAI : AlI n D (alK n k) := hq.a
  have haf := fun w h => afree_any pa n D (alK n k) w hAI h
  rw [alK_free] at haf
  obtain ⟨s', hs'⟩ : ∃ s', s' = (svT h a (⟨k, [], Wl⟩ : SvS)).2 := ⟨_, rfl⟩
  obtain ⟨a', ha'⟩ : ∃ a', a' = (svT h a (⟨k, [], Wl⟩ : SvS)).1 := ⟨_, rfl⟩
  have hsv := fun sp w h1 h2 h3 => saveT_any h a hok h6 hb hnd ha sp g pa n sv S (⟨k, [], Wl⟩ : SvS) (⟨none, 0, D, lv, W⟩ : SvQ) w hn hf (by show 0 + _ ≤ 10000; omega) (by show W.length + _ ≤ 90000; omega) hSl hq h1 h2 h3
  rw [← hs', ← ha'] at hsv ⊢
  refine g_enter0 T (finE (packF [alF pa n D (alK n k), dkF g ⟨sv, lv, S, W⟩, hdF h a]) w) [alF pa n D (alK n k), dkF g ⟨sv, lv, S, W⟩, hdF h a] [blk t [.pointer (some ⟨(nd h a).g, 0, none⟩), .int .i64 m] 55, slF h a] Tryz.func18 rfl Tryz.ntmps18 rfl (Kn.startP hp (fun b hb => (finE_mem hp.2 b).2 hb) (fun ψ hψ => by
    rcases List.mem_cons.1 hψ with rfl | hψ
    · exact ⟨ht, fun b hb hb2 => (hd b hb).1 hb2⟩
    · obtain rfl := List.mem_singleton.1 hψ
      exact ⟨hsl, fun b hb => (hd b hb).2⟩)) ?_
  refine gk_own 0 26 1 (IE .u32) ?_
  (repeat (refine gG ?_; try intro _))
  rename_i g5 sp
  refine g_mv rfl ?_; refine mv_call_bel (fun w hk => root_any t (.pointer (some ⟨(nd h a).g, 0, none⟩)) (.int .i64 m) w ⟨_, rfl⟩ (hk.rR (φ := blk t [.pointer (some ⟨(nd h a).g, 0, none⟩), .int .i64 m] 55) mE)) rfl rfl rfl rfl rfl (by kernel_rfl) ?_
  (repeat' (first | (refine gG ?_; try intro _) | ((first | refine g_split rfl rfl tE (fun _ => ?_) (fun _ => ?_) | refine gk_cond rfl rfl tE (fun _ => ?_) (fun _ => ?_)) <;> (try first | (exfalso; omega; done) | (rename_i hx; exact absurd rfl hx) | (rename_i hx; cases hx; done)))))
  refine g_mv rfl ?_; refine mv_call_bel (fun w hk => root_any t (.pointer (some ⟨(nd h a).g, 0, none⟩)) (.int .i64 m) w ⟨_, rfl⟩ (hk.rR (φ := blk t [.pointer (some ⟨(nd h a).g, 0, none⟩), .int .i64 m] 55) mE)) rfl rfl rfl rfl rfl (by kernel_rfl) ?_
  (repeat (refine gG ?_; try intro _))
  refine g_mv rfl ?_; refine mv_call_bel (fun w hk => freshT_any h a w hok (by omega) ((der_hs h a).rd fun ψ hψ => by
    rcases List.mem_cons.1 hψ with rfl | hψ
    · exact hk.rO (φ := hdF h a) mE
    · obtain rfl := List.mem_singleton.1 hψ
      exact hk.rR (φ := slF h a) mE)) rfl rfl rfl rfl rfl (by kernel_rfl) ?_
  (repeat (refine gG ?_; try intro _))
  refine g_mv rfl ?_; refine mv_call_bel (fun w hk => haf w (hk.rO (φ := alF pa n D (alK n k)) mE)) rfl rfl rfl rfl rfl (by kernel_rfl) ?_
  (repeat' (first | (refine gG ?_; try intro _) | ((first | refine g_split rfl rfl tE (fun _ => ?_) (fun _ => ?_) | refine gk_cond rfl rfl tE (fun _ => ?_) (fun _ => ?_)) <;> (try first | (exfalso; omega; done) | (rename_i hx; exact absurd rfl hx) | (rename_i hx; cases hx; done)))))
  refine g_mv rfl ?_; refine mv_call_bel (fun w hk => root_any t (.pointer (some ⟨(nd h a).g, 0, none⟩)) (.int .i64 m) w ⟨_, rfl⟩ (hk.rR (φ := blk t [.pointer (some ⟨(nd h a).g, 0, none⟩), .int .i64 m] 55) mE)) rfl rfl rfl rfl rfl (by kernel_rfl) ?_
  (repeat (refine gG ?_; try intro _))
  refine g_pack (svF sp g pa n sv S (⟨k, [], Wl⟩ : SvS) (⟨none, 0, D, lv, W⟩ : SvQ) ++ [hdF h a]) [] sA ?_
  refine g_mv rfl (mv_call_mod (φ := packF (svF sp g pa n sv S (⟨k, [], Wl⟩ : SvS) (⟨none, 0, D, lv, W⟩ : SvQ) ++ [hdF h a])) (ψ := fun q : SvQ => packF (svF sp g pa n sv S s' q ++ [hdF h a'])) (fun w hk => by exact hsv sp w (hk.rR (φ := slF h a) mE) (fun b hb => hk.disR (packF (svF sp g pa n sv S (⟨k, [], Wl⟩ : SvS) (⟨none, 0, D, lv, W⟩ : SvQ) ++ [hdF h a])) mE (slF h a) mE b hb) (hk.rO (φ := packF (svF sp g pa n sv S (⟨k, [], Wl⟩ : SvS) (⟨none, 0, D, lv, W⟩ : SvQ) ++ [hdF h a])) mE)) rfl rfl rfl rfl rfl (by kernel_rfl) (by intro _; first | ((repeat (first | with_reducible exact Upd.here _ | with_reducible apply Upd.there)); done) | ((repeat (first | exact Upd.here _ | apply Upd.there)); done) | fail) (fun q hq' => ?_))
  refine g_unpack (l := svF sp g pa n sv S s' q ++ [hdF h a']) (by repeat (first | with_reducible exact Sel.here | with_reducible apply Sel.there)) ?_
  dsimp only [svF, List.cons_append, List.nil_append]
  (repeat' (first | (refine gG ?_; try intro _) | ((first | refine g_split rfl rfl tE (fun _ => ?_) (fun _ => ?_) | refine gk_cond rfl rfl tE (fun _ => ?_) (fun _ => ?_)) <;> (try first | (exfalso; omega; done) | (rename_i hx; exact absurd rfl hx) | (rename_i hx; cases hx; done)))))
  refine gk_ret hT rfl rfl (.tmp rfl (.tmp rfl .nil)) (fun w' hk => ?_)
  exact RetM.mkP (ll := fun q : SvQ => [own 0 26 1 (.slice q.A s'.l.length q.c) (IE .u32) s'.l, alF pa n q.D (alK n s'.k), dkF g ⟨sv, q.lv, S, q.W⟩, hdF h a']) q hq' rfl hk (fun b hb => (finE_mem hp.2 b).1 hb) sA
end Go.Proofs.YtaghmffgoomebaaGreat.St
