/- tree.way: the way down to a leaf. -/
import Derived.Test.YtaghmffgoomebaaGreatGxP
import Derived.Test.YtaghmffgoomebaaGreatSk
namespace Go.Proofs.YtaghmffgoomebaaGreat.Tw
open Go.RowKit Mem Nd Gx Sk
open Tr hiding T row
set_option linter.unusedVariables false
set_option linter.unusedSimpArgs false
set_option maxRecDepth 100000
set_option maxHeartbeats 4000000
theorem pth_size {H : Nat} {t : Tr.T H} {k : KeyD} {h : Nat} {s : Tr.T h} {l : List (Nat × Nat)} {A C : List EntD} (p : Pth t k h s l A C) (r : Root H t) : Root h s := by
  induction p with
  | root => exact r
  | down q hp hq hc ih => exact (ih.2.2 _ (List.mem_of_getElem? hc)).near.root
theorem root_ln {h : Nat} {t : Tr.T h} (g : Root h t) : ln h t ≤ 6 := by
  cases h with
  | zero => exact g.2
  | succ h => exact g.2.1
theorem kidIx_max (K : List KeyD) (t : KeyD) (q : Nat) : max (findV K t q) 0 = (kidIx K t q : Int) := by
  unfold findV kidIx
  split <;> omega
theorem nd_ok : ∀ {h : Nat} {t : Tr.T h}, Tr.Ok h t → (nd h t).Ok
  | 0, _, ok => ok.1.ok
  | _ + 1, _, ok => ok.1.ok
theorem kidIx_lt {K : List KeyD} {t : KeyD} {q : Nat} (h : PosK K t q) (h0 : 0 < K.length) : kidIx K t q < K.length := by
  have hl := h.le
  unfold kidIx
  split
  · rename_i hf
    have := tB_iff.1 hf
    exact (List.getElem?_eq_some_iff.1 this).1
  · omega
theorem ln_pos : ∀ {h : Nat} {t : Tr.T h}, Tr.Ok h t → 0 < ln h t
  | 0, _, ok => ok.2
  | _ + 1, _, ok => ok.2.1
structure WayV where
  sg : Nat
  l : List (Nat × Nat)
  lf : Tr.T 0
  A : List EntD
  C : List EntD
theorem way_any {H : Nat} (t : Tr.T H) (k : KeyD) (tg : Nat) (n : Int) (w : World) (ok : Tr.Ok H t) (rt : Root H t) (ha : AscK (keysOf (ents H t))) (hH : H ≤ 15) (hB : Rd1 w (blk tg [.pointer (some ⟨(nd H t).g, 0, none⟩), .int .i64 n] 55)) (hF : Rd1 w (treeF H t)) :
    Calls Tryz.prog 57 [.pointer (some ⟨tg, 0, none⟩), k.val].toArray w (Ret (fun p : WayV => Pth t k 0 p.lf p.l p.A p.C) (fun p => .tuple #[.pointer (some ⟨p.sg, 0, none⟩), .pointer (some ⟨(nd 0 p.lf).g, 0, none⟩)]) (fun p => [blk p.sg (stC p.l) 180]) w) := by
  refine g_enter0 T [] [] [row tg 0 [.pointer (some ⟨(nd H t).g, 0, none⟩), .int .i64 n], treeF H t] Tryz.func57 rfl Tryz.ntmps57 rfl (Rds.cons hB.row (.cons hF .nil)).kn ?_
  (repeat (refine gG ?_; try intro _))
  rename_i g3
  refine g_mv rfl ?_; refine mv_call_rt (fun w hk => snew_any w) rfl rfl rfl rfl rfl (by kernel_rfl) (fun _ => rfl) (fun sg _ => ?_)
  (repeat (refine gG ?_; try intro _))
  refine gk_loop_sel (fun (q : AT × (List (Nat × Nat)) × (List EntD) × (List EntD)) => match q with | (a, l, A, C) => Pth t k a.h a.t l A C) (fun (q : AT × (List (Nat × Nat)) × (List EntD) × (List EntD)) => match q with | (a, l, A, C) => [(3, .pointer (some ⟨g3, 0, none⟩)), (6, .pointer (some ⟨sg, 0, none⟩)), (7, .pointer (some ⟨(nd a.h a.t).g, 0, none⟩))]) (fun (q : AT × (List (Nat × Nat)) × (List EntD) × (List EntD)) => match q with | (a, l, A, C) => [blk sg (stC l) 180, blk g3 [.int .u16 k.v, .int .u32 k.b, .int .u64 k.s] 29]) (fun (q : AT × (List (Nat × Nat)) × (List EntD) × (List EntD)) => match q with | (a, l, A, C) => [treeF a.h a.t, treeF H t]) (fun (q : AT × (List (Nat × Nat)) × (List EntD) × (List EntD)) => match q with | (a, l, A, C) => a.h) (⟨H, t⟩, [], [], []) rfl Pth.root (by repeat (first | exact trivial | refine ⟨rfl, ?_⟩)) sA sS ?_
  rintro ⟨a, l, A, C⟩ hI
  replace hI : Pth t k a.h a.t l A C := hI
  change GK _ _ [(3, .pointer (some ⟨g3, 0, none⟩)), (6, .pointer (some ⟨sg, 0, none⟩)), (7, .pointer (some ⟨(nd a.h a.t).g, 0, none⟩))] [blk sg (stC l) 180, blk g3 [.int .u16 k.v, .int .u32 k.b, .int .u64 k.s] 29] [treeF a.h a.t, treeF H t]
  obtain ⟨h, c⟩ := a
  have hok := hI.ok ok
  have hsz := pth_size hI rt
  have hll := hI.len
  dsimp only at hok hsz hll
  refine gk_tnd (t := c) mE ?_
  refine gk_nB (d := nd h c) mE ?_
  cases h with
  | zero =>
    rw [show (nd 0 c).leaf = true from hok.1.leaf]
    (repeat (refine gG ?_; try intro _))
    refine gk_ret hT rfl rfl (.tmp rfl (.tmp rfl .nil)) (fun w' hk => ?_)
    exact Ret.mk ⟨sg, l, c, A, C⟩ hI rfl hk sA
  | succ h =>
    rw [show (nd (h + 1) c).leaf = false from hok.1.leaf]
    (repeat (refine gG ?_; try intro _))
    have hkl : (nd (h + 1) c).Ks.length ≤ 6 := by rw [← ln_eq hok]; exact root_ln hsz
    refine g_mv rfl ?_; refine mv_call_rt (fun w hk => kid_any (nd (h + 1) c) k w (nd_ok hok) (by omega) (asc_node (h + 1) c hok (hI.asc ha)) (hk.rR mE)) rfl rfl rfl rfl rfl (by kernel_rfl) (fun _ => rfl) (fun q hq => ?_)
    rw [kidIx_max, keys_inner hok]
    rw [keys_inner hok] at hq
    have hq' : PosK ((c.2.map (ents h)).map fstK) k q := hq
    have hi0 : kidIx ((c.2.map (ents h)).map fstK) k q < c.2.length := by
      have h1 : 0 < ((c.2.map (ents h)).map fstK).length := by rw [List.length_map, List.length_map]; exact hok.2.1
      have h2 := kidIx_lt hq' h1
      rw [List.length_map, List.length_map] at h2
      exact h2
    obtain ⟨kd, hkd⟩ : ∃ kd, c.2[kidIx ((c.2.map (ents h)).map fstK) k q]? = some kd := ⟨c.2[kidIx ((c.2.map (ents h)).map fstK) k q], List.getElem?_eq_getElem hi0⟩
    have hP := Pth.down q hI hq' hkd
    change G _ _ _ _ ((25, .int .i64 ((kidIx ((c.2.map (ents h)).map fstK) k q : Nat) : Int)) :: _) _ _
    obtain ⟨i0, hi⟩ : ∃ i0, i0 = kidIx ((c.2.map (ents h)).map fstK) k q := ⟨_, rfl⟩
    rw [← hi] at hP hi0 hkd ⊢
    (repeat (refine gG ?_; try intro _))
    refine g_mv rfl ?_; refine mv_call_w (fun w hk => spush_any sg l ((nd (h + 1) c).g, i0) w (by omega) (hk.pO (blk sg (stC l) 180) mE)) rfl rfl rfl rfl rfl (by kernel_rfl) (by intro _; first | ((repeat (first | with_reducible exact Upd.here _ | with_reducible apply Upd.there)); done) | ((repeat (first | exact Upd.here _ | apply Upd.there)); done) | fail) (fun ψ hψ => by first | (cases hψ; done) | (obtain rfl := List.mem_singleton.1 hψ; exact mE)) (fun _ => rfl) (fun _ => rfl) (fun s hs => ?_)
    (repeat (refine gG ?_; try intro _))
    refine g_lessR (sl (nd (h + 1) c).C.A 1 PE (nd (h + 1) c).Cs) (nodeF (nd (h + 1) c)) mE (fun w h => h _ fs_C) (nodeF_S fs_C) ?_
    have hCs : (nd (h + 1) c).Cs = (c.2.map (nd h)).map NodeD.g := hok.1.Cs
    have hCn : (nd (h + 1) c).C.n = c.2.length := by rw [(nd_ok hok).C.n, hCs, List.length_map, List.length_map]
    refine g_elem (enc := PE) (L := (nd (h + 1) c).Cs) i0 mE (by rw [hCs, List.length_map, List.length_map]; exact hi0) (by decide) (fun b0 o0 y0 eA hy0 => ?_)
    obtain rfl : (nd h kd).g = y0 := by
      rw [hCs, List.getElem?_map, List.getElem?_map, hkd] at hy0
      exact Option.some.inj hy0
    refine g_say 34 (.slice (some ⟨b0, o0, none⟩) (nd (h + 1) c).C.n (nd (h + 1) c).C.c) rfl (by rw [← eA]; rfl) ?_
    (repeat (refine gG ?_; try intro _))
    refine gk_tkid (t := c) (c := kd) mE (List.mem_of_getElem? hkd) ?_
    refine gk_again_sel rfl (⟨h, kd⟩, _, _, _) hP (by dsimp only; omega) (by repeat (first | exact trivial | refine ⟨rfl, ?_⟩)) sA sS
theorem way_nil (k : KeyD) (tg : Nat) (n : Int) (w : World) (hB : Rd1 w (blk tg [.pointer none, .int .i64 n] 55)) :
    Calls Tryz.prog 57 [.pointer (some ⟨tg, 0, none⟩), k.val].toArray w (Ret (fun _ : Nat => True) (fun g => .tuple #[.pointer (some ⟨g, 0, none⟩), .pointer none]) (fun g => [blk g (stC []) 180]) w) := by
  refine g_enter0 T [] [] [row tg 0 [.pointer none, .int .i64 n]] Tryz.func57 rfl Tryz.ntmps57 rfl (Rds.cons hB.row .nil).kn ?_
  (repeat (refine gG ?_; try intro _))
  rename_i g3
  refine g_mv rfl ?_; refine mv_call_rt (fun w hk => snew_any w) rfl rfl rfl rfl rfl (by kernel_rfl) (fun _ => rfl) (fun sg _ => ?_)
  (repeat (refine gG ?_; try intro _))
  refine gk_loop_sel (fun (u : Unit) => True) (fun (u : Unit) => [(3, .pointer (some ⟨g3, 0, none⟩)), (6, .pointer (some ⟨sg, 0, none⟩)), (7, .pointer none)]) (fun (u : Unit) => [blk sg (stC []) 180]) (fun (u : Unit) => []) (fun (u : Unit) => 0) () rfl trivial (by repeat (first | exact trivial | refine ⟨rfl, ?_⟩)) sA sS ?_
  rintro u hI
  replace hI : True := hI
  change GK _ _ [(3, .pointer (some ⟨g3, 0, none⟩)), (6, .pointer (some ⟨sg, 0, none⟩)), (7, .pointer none)] [blk sg (stC []) 180] []
  (repeat (refine gG ?_; try intro _))
  refine gk_ret hT rfl rfl (.tmp rfl (.tmp rfl .nil)) (fun w' hk => ?_)
  exact Ret.mk sg trivial rfl hk sA
end Go.Proofs.YtaghmffgoomebaaGreat.Tw
