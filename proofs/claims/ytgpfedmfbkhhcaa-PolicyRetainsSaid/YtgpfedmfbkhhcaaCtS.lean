/- Two catalogs that say the same. -/
import Derived.Test.YtgpfedmfbkhhcaaCtE
namespace Go.Proofs.Ytgpfedmfbkhhcaa.Ct
open Go.RowKit Mem Gx
set_option linter.unusedVariables false
set_option linter.unusedSimpArgs false
set_option maxRecDepth 100000
set_option maxHeartbeats 400000
theorem true_of {p : Prop} {P : Program} {fid : FuncId} {args : Array Value} {w : World} (hp : p) (h : Calls P fid args w fun e w' => e = .returned (.bool (tB p)) ∧ Below w.heap.size w w') : Calls P fid args w fun e w' => e = .returned (.bool true) ∧ Below w.heap.size w w' := by
  rw [tB_true hp] at h
  exact h
theorem map_at {α β : Type} {f : α → β} {L L2 : List α} {k : Nat} {x y : α} (h : L.map f = L2.map f) (hx : L[k]? = some x) (hy : L2[k]? = some y) : f x = f y := by
  have := congrArg (fun l => l[k]?) h
  simp only [List.getElem?_map, hx, hy] at this
  exact Option.some.inj this
theorem map_len {α β : Type} {f : α → β} {L L2 : List α} (h : L.map f = L2.map f) : L.length = L2.length := by
  have := congrArg List.length h
  simpa using this
theorem ok_max {s : SlV} {m : Nat} (h : s.Ok m) : s.n ≤ 9223372036854775807 := by
  have h1 := h.c
  have h2 := h.mx
  unfold maxLen at h2
  omega
set_option maxHeartbeats 4000000 in
theorem same_any (c d : CatD) (w : World) (hc : c.Ok) (hd : d.Ok) (hp : c.p = d.p) (h : Rd1 w (catF c)) (h2 : Rd1 w (catF d)) :
    Calls Try.prog 24 [c.val, d.val].toArray w fun e w' => e = .returned (.bool true) ∧ Below w.heap.size w w' := by
  obtain ⟨nv, ng, nb, fl, ⟨vA, vm, vc⟩, V, ⟨gA, gm, gc⟩, G, ⟨bA, bm, bc⟩, B, ⟨kA, km, kd⟩, K, ⟨tA, tm, tc⟩, M⟩ := c
  obtain ⟨nv2, ng2, nb2, fl2, ⟨vA2, vm2, vc2⟩, V2, ⟨gA2, gm2, gc2⟩, G2, ⟨bA2, bm2, bc2⟩, B2, ⟨kA2, km2, kd2⟩, K2, ⟨tA2, tm2, tc2⟩, M2⟩ := d
  simp only [CatD.p, CatP.mk.injEq] at hp
  obtain ⟨rfl, rfl, rfl, rfl, hV, hG, hB, rfl, rfl⟩ := hp
  have hv1 : vm = V.length := hc.v.n
  have hv2 : vm2 = V2.length := hd.v.n
  have hg1 : gm = G.length := hc.g.n
  have hg2 : gm2 = G2.length := hd.g.n
  have hb1 : bm = B.length := hc.b.n
  have hb2 : bm2 = B2.length := hd.b.n
  have hvl := map_len hV
  have hgl := map_len hG
  have hbl := map_len hB
  have hxv : vm ≤ 9223372036854775807 := ok_max hc.v
  have hxg : gm ≤ 9223372036854775807 := ok_max hc.g
  have hxb : bm ≤ 9223372036854775807 := ok_max hc.b
  dsimp only [CatD.val]
  refine g_enter0 T [] [] [catF (⟨nv, ng, nb, fl, ⟨vA, vm, vc⟩, V, ⟨gA, gm, gc⟩, G, ⟨bA, bm, bc⟩, B, ⟨kA, km, kd⟩, K, ⟨tA, tm, tc⟩, M⟩ : CatD), catF (⟨nv, ng, nb, fl, ⟨vA2, vm2, vc2⟩, V2, ⟨gA2, gm2, gc2⟩, G2, ⟨bA2, bm2, bc2⟩, B2, ⟨kA2, km2, kd2⟩, K, ⟨tA2, tm2, tc2⟩, M⟩ : CatD)] Try.func24 rfl Try.ntmps24 rfl (Rds.cons h (Rds.cons h2 .nil)).kn ?_
  refine gk_der [catF (⟨nv, ng, nb, fl, ⟨vA, vm, vc⟩, V, ⟨gA, gm, gc⟩, G, ⟨bA, bm, bc⟩, B, ⟨kA, km, kd⟩, K, ⟨tA, tm, tc⟩, M⟩ : CatD)] (φ := sl vA 3 VE V) d_v sS ?_
  refine gk_der [catF (⟨nv, ng, nb, fl, ⟨vA, vm, vc⟩, V, ⟨gA, gm, gc⟩, G, ⟨bA, bm, bc⟩, B, ⟨kA, km, kd⟩, K, ⟨tA, tm, tc⟩, M⟩ : CatD)] (φ := allF V VolD.f) d_V sS ?_
  refine gk_der [catF (⟨nv, ng, nb, fl, ⟨vA2, vm2, vc2⟩, V2, ⟨gA2, gm2, gc2⟩, G2, ⟨bA2, bm2, bc2⟩, B2, ⟨kA2, km2, kd2⟩, K, ⟨tA2, tm2, tc2⟩, M⟩ : CatD)] (φ := sl vA2 3 VE V2) d_v sS ?_
  refine gk_der [catF (⟨nv, ng, nb, fl, ⟨vA2, vm2, vc2⟩, V2, ⟨gA2, gm2, gc2⟩, G2, ⟨bA2, bm2, bc2⟩, B2, ⟨kA2, km2, kd2⟩, K, ⟨tA2, tm2, tc2⟩, M⟩ : CatD)] (φ := allF V2 VolD.f) d_V sS ?_
  refine gk_der [catF (⟨nv, ng, nb, fl, ⟨vA, vm, vc⟩, V, ⟨gA, gm, gc⟩, G, ⟨bA, bm, bc⟩, B, ⟨kA, km, kd⟩, K, ⟨tA, tm, tc⟩, M⟩ : CatD)] (φ := sl gA 2 GE G) d_g sS ?_
  refine gk_der [catF (⟨nv, ng, nb, fl, ⟨vA, vm, vc⟩, V, ⟨gA, gm, gc⟩, G, ⟨bA, bm, bc⟩, B, ⟨kA, km, kd⟩, K, ⟨tA, tm, tc⟩, M⟩ : CatD)] (φ := allF G GrpD.f) d_G sS ?_
  refine gk_der [catF (⟨nv, ng, nb, fl, ⟨vA2, vm2, vc2⟩, V2, ⟨gA2, gm2, gc2⟩, G2, ⟨bA2, bm2, bc2⟩, B2, ⟨kA2, km2, kd2⟩, K, ⟨tA2, tm2, tc2⟩, M⟩ : CatD)] (φ := sl gA2 2 GE G2) d_g sS ?_
  refine gk_der [catF (⟨nv, ng, nb, fl, ⟨vA2, vm2, vc2⟩, V2, ⟨gA2, gm2, gc2⟩, G2, ⟨bA2, bm2, bc2⟩, B2, ⟨kA2, km2, kd2⟩, K, ⟨tA2, tm2, tc2⟩, M⟩ : CatD)] (φ := allF G2 GrpD.f) d_G sS ?_
  refine gk_der [catF (⟨nv, ng, nb, fl, ⟨vA, vm, vc⟩, V, ⟨gA, gm, gc⟩, G, ⟨bA, bm, bc⟩, B, ⟨kA, km, kd⟩, K, ⟨tA, tm, tc⟩, M⟩ : CatD)] (φ := sl bA 3 BE B) d_b sS ?_
  refine gk_der [catF (⟨nv, ng, nb, fl, ⟨vA, vm, vc⟩, V, ⟨gA, gm, gc⟩, G, ⟨bA, bm, bc⟩, B, ⟨kA, km, kd⟩, K, ⟨tA, tm, tc⟩, M⟩ : CatD)] (φ := allF B BokD.f) d_B sS ?_
  refine gk_der [catF (⟨nv, ng, nb, fl, ⟨vA2, vm2, vc2⟩, V2, ⟨gA2, gm2, gc2⟩, G2, ⟨bA2, bm2, bc2⟩, B2, ⟨kA2, km2, kd2⟩, K, ⟨tA2, tm2, tc2⟩, M⟩ : CatD)] (φ := sl bA2 3 BE B2) d_b sS ?_
  refine gk_der [catF (⟨nv, ng, nb, fl, ⟨vA2, vm2, vc2⟩, V2, ⟨gA2, gm2, gc2⟩, G2, ⟨bA2, bm2, bc2⟩, B2, ⟨kA2, km2, kd2⟩, K, ⟨tA2, tm2, tc2⟩, M⟩ : CatD)] (φ := allF B2 BokD.f) d_B sS ?_
  refine gk_der [catF (⟨nv, ng, nb, fl, ⟨vA, vm, vc⟩, V, ⟨gA, gm, gc⟩, G, ⟨bA, bm, bc⟩, B, ⟨kA, km, kd⟩, K, ⟨tA, tm, tc⟩, M⟩ : CatD)] (φ := sl kA 1 (IE .u64) K) d_k sS ?_
  refine gk_der [catF (⟨nv, ng, nb, fl, ⟨vA, vm, vc⟩, V, ⟨gA, gm, gc⟩, G, ⟨bA, bm, bc⟩, B, ⟨kA, km, kd⟩, K, ⟨tA, tm, tc⟩, M⟩ : CatD)] (φ := sl tA 2 ME M) d_t sS ?_
  refine gk_der [catF (⟨nv, ng, nb, fl, ⟨vA2, vm2, vc2⟩, V2, ⟨gA2, gm2, gc2⟩, G2, ⟨bA2, bm2, bc2⟩, B2, ⟨kA2, km2, kd2⟩, K, ⟨tA2, tm2, tc2⟩, M⟩ : CatD)] (φ := sl kA2 1 (IE .u64) K) d_k sS ?_
  refine gk_der [catF (⟨nv, ng, nb, fl, ⟨vA2, vm2, vc2⟩, V2, ⟨gA2, gm2, gc2⟩, G2, ⟨bA2, bm2, bc2⟩, B2, ⟨kA2, km2, kd2⟩, K, ⟨tA2, tm2, tc2⟩, M⟩ : CatD)] (φ := sl tA2 2 ME M) d_t sS ?_
  (repeat' (first | (refine gG ?_; try intro _) | (refine g_mv rfl ?_; first | refine mv_call_bel (fun w hk => true_of rfl (equal_U kA kA2 km kd km2 kd2 K K w hc.k.n hd.k.n (ok_max hc.k) (hk.pR (sl kA 1 (IE .u64) K) mE) (hk.pR (sl kA2 1 (IE .u64) K) mE))) rfl rfl rfl rfl rfl (by kernel_rfl) ?_ | refine mv_call_bel (fun w hk => true_of rfl (equal_M tA tA2 tm tc tm2 tc2 M M w hc.t.n hd.t.n (ok_max hc.t) (hk.pR (sl tA 2 ME M) mE) (hk.pR (sl tA2 2 ME M) mE))) rfl rfl rfl rfl rfl (by kernel_rfl) ?_) | ((first | refine g_split rfl rfl tE (fun _ => ?_) (fun _ => ?_) | refine gk_cond rfl rfl tE (fun _ => ?_) (fun _ => ?_)) <;> (try first | (exfalso; omega; done) | (rename_i hx; exact absurd rfl hx) | (rename_i hx; cases hx; done)))))
  rename_i g2 g3 _ _ _ _ _ _ _
  refine gk_loop_sel (fun (q : Nat × Nat) => match q with | (k, u) => (k ≤ vm)) (fun (q : Nat × Nat) => match q with | (k, u) => [(2, .pointer (some ⟨g2, 0, none⟩)), (3, .pointer (some ⟨g3, 0, none⟩)), (5, .int .i64 k)]) (fun (q : Nat × Nat) => match q with | (k, u) => [blk g2 [.int .i64 nv, .int .i64 ng, .int .i64 nb, .int .u64 fl, .slice vA vm vc, .slice gA gm gc, .slice bA bm bc, .slice kA km kd, .slice tA tm tc] 67, blk g3 [.int .i64 nv, .int .i64 ng, .int .i64 nb, .int .u64 fl, .slice vA2 vm2 vc2, .slice gA2 gm2 gc2, .slice bA2 bm2 bc2, .slice kA2 km2 kd2, .slice tA2 tm2 tc2] 67]) (fun (q : Nat × Nat) => match q with | (k, u) => [sl vA 3 VE V, sl vA2 3 VE V2, sl gA 2 GE G, sl gA2 2 GE G2, sl bA 3 BE B, sl bA2 3 BE B2, allF V VolD.f, allF V2 VolD.f, allF G GrpD.f, allF G2 GrpD.f, allF B BokD.f, allF B2 BokD.f]) (fun (q : Nat × Nat) => match q with | (k, u) => vm - k) (0, 0) rfl (Nat.zero_le _) (by repeat (first | exact trivial | refine ⟨rfl, ?_⟩)) sA sS ?_
  rintro ⟨k, u⟩ hI
  replace hI : (k ≤ vm) := hI
  change GK _ _ [(2, .pointer (some ⟨g2, 0, none⟩)), (3, .pointer (some ⟨g3, 0, none⟩)), (5, .int .i64 k)] [blk g2 [.int .i64 nv, .int .i64 ng, .int .i64 nb, .int .u64 fl, .slice vA vm vc, .slice gA gm gc, .slice bA bm bc, .slice kA km kd, .slice tA tm tc] 67, blk g3 [.int .i64 nv, .int .i64 ng, .int .i64 nb, .int .u64 fl, .slice vA2 vm2 vc2, .slice gA2 gm2 gc2, .slice bA2 bm2 bc2, .slice kA2 km2 kd2, .slice tA2 tm2 tc2] 67] [sl vA 3 VE V, sl vA2 3 VE V2, sl gA 2 GE G, sl gA2 2 GE G2, sl bA 3 BE B, sl bA2 3 BE B2, allF V VolD.f, allF V2 VolD.f, allF G GrpD.f, allF G2 GrpD.f, allF B BokD.f, allF B2 BokD.f]
  have hk1 : k ≤ vm := hI
  by_cases hlt : k < vm
  · obtain ⟨x, hx⟩ : ∃ x, V[k]? = some x := ⟨V[k], List.getElem?_eq_getElem (by omega)⟩
    obtain ⟨y, hy⟩ : ∃ y, V2[k]? = some y := ⟨V2[k], List.getElem?_eq_getElem (by omega)⟩
    have hxm := List.mem_of_getElem? hx
    have hym := List.mem_of_getElem? hy
    have hxs := hc.V x hxm
    have hys := hd.V y hym
    have hxy := map_at hV hx hy
    obtain ⟨xi, xq, xs, xL⟩ := x
    obtain ⟨yi, yq, ys, yL⟩ := y
    obtain ⟨rfl, rfl, rfl⟩ : xi = yi ∧ xq = yq ∧ xL = yL := by simpa [VolD.d] using hxy
    refine gk_allR (l := V) (F := VolD.f) (x := (⟨xi, xq, xs, xL⟩ : VolD)) mE hxm ?_
    refine gk_allR (l := V2) (F := VolD.f) (x := (⟨xi, xq, ys, xL⟩ : VolD)) mE hym ?_
    refine gk_elem (enc := VE) (L := V) k mE (by omega) (by decide) (fun b o z eA hz => ?_)
    obtain rfl : (⟨xi, xq, xs, xL⟩ : VolD) = z := by rw [hx] at hz; exact Option.some.inj hz
    refine gk_elem (enc := VE) (L := V2) k mE (by omega) (by decide) (fun b2 o2 z eA2 hz2 => ?_)
    obtain rfl : (⟨xi, xq, ys, xL⟩ : VolD) = z := by rw [hy] at hz2; exact Option.some.inj hz2
    subst eA
    subst eA2
    (repeat (refine gG ?_; try intro _))
    refine gk_cond rfl rfl (tells_tB _) (fun _ => ?_) (fun h => absurd (by omega) h)
    refine gk_any [0, 1, 2, 3] (Cut _ (fun _ : Unit => [(2, .pointer (some ⟨g2, 0, none⟩)), (3, .pointer (some ⟨g3, 0, none⟩)), (5, .int .i64 k), (127, .bool false)]) (fun _ => [blk g2 [.int .i64 nv, .int .i64 ng, .int .i64 nb, .int .u64 fl, .slice (some ⟨b, o, none⟩) vm vc, .slice gA gm gc, .slice bA bm bc, .slice kA km kd, .slice tA tm tc] 67, blk g3 [.int .i64 nv, .int .i64 ng, .int .i64 nb, .int .u64 fl, .slice (some ⟨b2, o2, none⟩) vm2 vc2, .slice gA2 gm2 gc2, .slice bA2 bm2 bc2, .slice kA2 km2 kd2, .slice tA2 tm2 tc2] 67]) (fun _ => [sl (some ⟨b, o, none⟩) 3 VE V, sl (some ⟨b2, o2, none⟩) 3 VE V2, sl gA 2 GE G, sl gA2 2 GE G2, sl bA 3 BE B, sl bA2 3 BE B2, allF V VolD.f, allF V2 VolD.f, allF G GrpD.f, allF G2 GrpD.f, allF B BokD.f, allF B2 BokD.f])) rfl rfl (by kernel_rfl) ?_ (cut_k fun _ => ?_)
    · skip
      refine gb_take 0 rfl (by decide +kernel) rfl rfl (ys_ev (nw := true) hT rfl sI) sF ?_
      refine gb_take 1 rfl (by decide +kernel) rfl rfl (by first | exact ys_blk hT rfl rfl mE rfl rfl | exact ys_row hT rfl rfl mE rfl rfl | exact ys_row0 hT rfl rfl mE rfl rfl) sF ?_
      refine gb_take 2 rfl (by decide +kernel) rfl rfl (ys_ev (nw := true) hT rfl sI) sF ?_
      refine gb_take 3 rfl (by decide +kernel) rfl rfl (ys_ev (nw := true) hT rfl sI) sF ?_
      refine gb_take 4 rfl (by decide +kernel) rfl rfl (ys_ev (nw := true) hT rfl sI) sF ?_
      refine gb_take 5 rfl (by decide +kernel) rfl rfl (by first | exact ys_blk hT rfl rfl mE rfl rfl | exact ys_row hT rfl rfl mE rfl rfl | exact ys_row0 hT rfl rfl mE rfl rfl) sF ?_
      refine gb_take 6 rfl (by decide +kernel) rfl rfl (ys_ev (nw := true) hT rfl sI) sF ?_
      refine gb_take 7 rfl (by decide +kernel) rfl rfl (by first | exact ys_blk hT rfl rfl mE rfl rfl | exact ys_row hT rfl rfl mE rfl rfl | exact ys_row0 hT rfl rfl mE rfl rfl) sF ?_
      refine gb_take 8 rfl (by decide +kernel) rfl rfl (ys_ev (nw := true) hT rfl sI) sF ?_
      refine gb_take 9 rfl (by decide +kernel) rfl rfl (ys_ev (nw := true) hT rfl sI) sF ?_
      refine gb_take 10 rfl (by decide +kernel) rfl rfl (ys_ev (nw := true) hT rfl sI) sF ?_
      refine gb_take 11 rfl (by decide +kernel) rfl rfl (by first | exact ys_blk hT rfl rfl mE rfl rfl | exact ys_row hT rfl rfl mE rfl rfl | exact ys_row0 hT rfl rfl mE rfl rfl) sF ?_
      refine gb_take 12 rfl (by decide +kernel) rfl rfl (ys_ev (nw := true) hT rfl sI) sF ?_
      try (refine gb_say 96 (.bool false) rfl (congrArg Value.bool (tB_false (fun h => h rfl))) ?_)
      refine gb_take 13 rfl (by decide +kernel) rfl rfl (ys_ev (nw := true) hT rfl sI) sF ?_
      first | refine gb_take 14 rfl (by decide +kernel) rfl rfl (ys_ev (nw := true) hT rfl sI) sF ?_ | refine gb_skip 14 rfl (by decide +kernel) rfl rfl sF ?_
      first | refine gb_take 15 rfl (by decide +kernel) rfl rfl (by first | exact ys_blk hT rfl rfl mE rfl rfl | exact ys_row hT rfl rfl mE rfl rfl | exact ys_row0 hT rfl rfl mE rfl rfl) sF ?_ | refine gb_skip 15 rfl (by decide +kernel) rfl rfl sF ?_
      first | refine gb_take 16 rfl (by decide +kernel) rfl rfl (ys_ev (nw := true) hT rfl sI) sF ?_ | refine gb_skip 16 rfl (by decide +kernel) rfl rfl sF ?_
      first | refine gb_take 17 rfl (by decide +kernel) rfl rfl (ys_ev (nw := true) hT rfl sI) sF ?_ | refine gb_skip 17 rfl (by decide +kernel) rfl rfl sF ?_
      first | refine gb_take 18 rfl (by decide +kernel) rfl rfl (ys_ev (nw := true) hT rfl sI) sF ?_ | refine gb_skip 18 rfl (by decide +kernel) rfl rfl sF ?_
      first | refine gb_take 19 rfl (by decide +kernel) rfl rfl (by first | exact ys_blk hT rfl rfl mE rfl rfl | exact ys_row hT rfl rfl mE rfl rfl | exact ys_row0 hT rfl rfl mE rfl rfl) sF ?_ | refine gb_skip 19 rfl (by decide +kernel) rfl rfl sF ?_
      first | refine gb_take 20 rfl (by decide +kernel) rfl rfl (ys_ev (nw := true) hT rfl sI) sF ?_ | refine gb_skip 20 rfl (by decide +kernel) rfl rfl sF ?_
      first | refine gb_take 21 rfl (by decide +kernel) rfl rfl (by first | exact ys_blk hT rfl rfl mE rfl rfl | exact ys_row hT rfl rfl mE rfl rfl | exact ys_row0 hT rfl rfl mE rfl rfl) sF ?_ | refine gb_skip 21 rfl (by decide +kernel) rfl rfl sF ?_
      first | refine gb_take 22 rfl (by decide +kernel) rfl rfl (ys_ev (nw := true) hT rfl sI) sF ?_ | refine gb_skip 22 rfl (by decide +kernel) rfl rfl sF ?_
      first | refine gb_take 23 rfl (by decide +kernel) rfl rfl (ys_ev (nw := true) hT rfl sI) sF ?_ | refine gb_skip 23 rfl (by decide +kernel) rfl rfl sF ?_
      first | refine gb_take 24 rfl (by decide +kernel) rfl rfl (ys_ev (nw := true) hT rfl sI) sF ?_ | refine gb_skip 24 rfl (by decide +kernel) rfl rfl sF ?_
      first | refine gb_take 25 rfl (by decide +kernel) rfl rfl (by first | exact ys_blk hT rfl rfl mE rfl rfl | exact ys_row hT rfl rfl mE rfl rfl | exact ys_row0 hT rfl rfl mE rfl rfl) sF ?_ | refine gb_skip 25 rfl (by decide +kernel) rfl rfl sF ?_
      first | refine gb_take 26 rfl (by decide +kernel) rfl rfl (ys_ev (nw := true) hT rfl sI) sF ?_ | refine gb_skip 26 rfl (by decide +kernel) rfl rfl sF ?_
      try (refine gb_say 110 (.bool false) rfl (congrArg Value.bool (tB_false (fun h => h rfl))) ?_)
      refine gb_take 27 rfl (by decide +kernel) rfl rfl (ys_ev (nw := true) hT rfl sI) sF ?_
      refine gb_take 28 rfl (by decide +kernel) rfl rfl (ys_ev (nw := true) hT rfl sI) sF ?_
      first | refine gb_take 29 rfl (by decide +kernel) rfl rfl (ys_ev (nw := true) hT rfl sI) sF ?_ | refine gb_skip 29 rfl (by decide +kernel) rfl rfl sF ?_
      first | refine gb_take 30 rfl (by decide +kernel) rfl rfl (by first | exact ys_blk hT rfl rfl mE rfl rfl | exact ys_row hT rfl rfl mE rfl rfl | exact ys_row0 hT rfl rfl mE rfl rfl) sF ?_ | refine gb_skip 30 rfl (by decide +kernel) rfl rfl sF ?_
      first | refine gb_take 31 rfl (by decide +kernel) rfl rfl (ys_ev (nw := true) hT rfl sI) sF ?_ | refine gb_skip 31 rfl (by decide +kernel) rfl rfl sF ?_
      first | refine gb_take 32 rfl (by decide +kernel) rfl rfl (ys_ev (nw := true) hT rfl sI) sF ?_ | refine gb_skip 32 rfl (by decide +kernel) rfl rfl sF ?_
      first | refine gb_take 33 rfl (by decide +kernel) rfl rfl (ys_ev (nw := true) hT rfl sI) sF ?_ | refine gb_skip 33 rfl (by decide +kernel) rfl rfl sF ?_
      first | refine gb_take 34 rfl (by decide +kernel) rfl rfl (by first | exact ys_blk hT rfl rfl mE rfl rfl | exact ys_row hT rfl rfl mE rfl rfl | exact ys_row0 hT rfl rfl mE rfl rfl) sF ?_ | refine gb_skip 34 rfl (by decide +kernel) rfl rfl sF ?_
      first | refine gb_take 35 rfl (by decide +kernel) rfl rfl (ys_ev (nw := true) hT rfl sI) sF ?_ | refine gb_skip 35 rfl (by decide +kernel) rfl rfl sF ?_
      first | refine gb_take 36 rfl (by decide +kernel) rfl rfl (by first | exact ys_blk hT rfl rfl mE rfl rfl | exact ys_row hT rfl rfl mE rfl rfl | exact ys_row0 hT rfl rfl mE rfl rfl) sF ?_ | refine gb_skip 36 rfl (by decide +kernel) rfl rfl sF ?_
      first | refine gb_take 37 rfl (by decide +kernel) rfl rfl (ys_ev (nw := true) hT rfl sI) sF ?_ | refine gb_skip 37 rfl (by decide +kernel) rfl rfl sF ?_
      first | refine gb_take 38 rfl (by decide +kernel) rfl rfl (ys_ev (nw := true) hT rfl sI) sF ?_ | refine gb_skip 38 rfl (by decide +kernel) rfl rfl sF ?_
      first | refine gb_take 39 rfl (by decide +kernel) rfl rfl (ys_ev (nw := true) hT rfl sI) sF ?_ | refine gb_skip 39 rfl (by decide +kernel) rfl rfl sF ?_
      first | refine gb_take 40 rfl (by decide +kernel) rfl rfl (by first | exact ys_blk hT rfl rfl mE rfl rfl | exact ys_row hT rfl rfl mE rfl rfl | exact ys_row0 hT rfl rfl mE rfl rfl) sF ?_ | refine gb_skip 40 rfl (by decide +kernel) rfl rfl sF ?_
      first | refine gb_skip 41 rfl (by decide +kernel) rfl rfl sF ?_ | (refine gb_only 41 (by decide +kernel) rfl rfl ?_; (refine mv_call_bel (fun w hk => true_of rfl (equal_M xs.A ys.A xs.n xs.c ys.n ys.c xL xL w hxs.n hys.n (ok_max hxs) (hk.pR (sl xs.A 2 ME xL) mE) (hk.pR (sl ys.A 2 ME xL) mE))) rfl rfl rfl rfl rfl (by kernel_rfl) ?_); refine ⟨sF, ?_⟩)
      first | refine gb_take 42 rfl (by decide +kernel) rfl rfl (ys_ev (nw := true) hT rfl sI) sF ?_ | refine gb_skip 42 rfl (by decide +kernel) rfl rfl sF ?_
      refine gb_take 43 rfl (by decide +kernel) rfl rfl (ys_ev (nw := true) hT rfl sI) sF ?_
      refine gb_nil (by decide +kernel) ?_
      exact ⟨(), (by repeat (first | exact trivial | refine ⟨rfl, ?_⟩)), sA, sS⟩
    · (repeat (refine gG ?_; try intro _))
      refine gk_again_sel rfl (k + 1, u) (by omega) (by dsimp only; omega) (by repeat (first | exact trivial | refine ⟨rfl, ?_⟩)) sA sS
  · (repeat (refine gG ?_; try intro _))
    refine gk_cond rfl rfl (tells_tB _) (fun h => absurd h (by omega)) (fun _ => ?_)
    (repeat (refine gG ?_; try intro _))
    refine gk_loop_sel (fun (q : Nat × Nat) => match q with | (k, u) => (k ≤ gm)) (fun (q : Nat × Nat) => match q with | (k, u) => [(2, .pointer (some ⟨g2, 0, none⟩)), (3, .pointer (some ⟨g3, 0, none⟩)), (6, .int .i64 k)]) (fun (q : Nat × Nat) => match q with | (k, u) => [blk g2 [.int .i64 nv, .int .i64 ng, .int .i64 nb, .int .u64 fl, .slice vA vm vc, .slice gA gm gc, .slice bA bm bc, .slice kA km kd, .slice tA tm tc] 67, blk g3 [.int .i64 nv, .int .i64 ng, .int .i64 nb, .int .u64 fl, .slice vA2 vm2 vc2, .slice gA2 gm2 gc2, .slice bA2 bm2 bc2, .slice kA2 km2 kd2, .slice tA2 tm2 tc2] 67]) (fun (q : Nat × Nat) => match q with | (k, u) => [sl vA 3 VE V, sl vA2 3 VE V2, sl gA 2 GE G, sl gA2 2 GE G2, sl bA 3 BE B, sl bA2 3 BE B2, allF V VolD.f, allF V2 VolD.f, allF G GrpD.f, allF G2 GrpD.f, allF B BokD.f, allF B2 BokD.f]) (fun (q : Nat × Nat) => match q with | (k, u) => gm - k) (0, 0) rfl (Nat.zero_le _) (by repeat (first | exact trivial | refine ⟨rfl, ?_⟩)) sA sS ?_
    rintro ⟨k, u⟩ hI
    replace hI : (k ≤ gm) := hI
    change GK _ _ [(2, .pointer (some ⟨g2, 0, none⟩)), (3, .pointer (some ⟨g3, 0, none⟩)), (6, .int .i64 k)] [blk g2 [.int .i64 nv, .int .i64 ng, .int .i64 nb, .int .u64 fl, .slice vA vm vc, .slice gA gm gc, .slice bA bm bc, .slice kA km kd, .slice tA tm tc] 67, blk g3 [.int .i64 nv, .int .i64 ng, .int .i64 nb, .int .u64 fl, .slice vA2 vm2 vc2, .slice gA2 gm2 gc2, .slice bA2 bm2 bc2, .slice kA2 km2 kd2, .slice tA2 tm2 tc2] 67] [sl vA 3 VE V, sl vA2 3 VE V2, sl gA 2 GE G, sl gA2 2 GE G2, sl bA 3 BE B, sl bA2 3 BE B2, allF V VolD.f, allF V2 VolD.f, allF G GrpD.f, allF G2 GrpD.f, allF B BokD.f, allF B2 BokD.f]
    have hk1 : k ≤ gm := hI
    by_cases hlt : k < gm
    · obtain ⟨x, hx⟩ : ∃ x, G[k]? = some x := ⟨G[k], List.getElem?_eq_getElem (by omega)⟩
      obtain ⟨y, hy⟩ : ∃ y, G2[k]? = some y := ⟨G2[k], List.getElem?_eq_getElem (by omega)⟩
      have hxm := List.mem_of_getElem? hx
      have hym := List.mem_of_getElem? hy
      have hxs := hc.G x hxm
      have hys := hd.G y hym
      have hxy := map_at hG hx hy
      obtain ⟨xi, xs, xL⟩ := x
      obtain ⟨yi, ys, yL⟩ := y
      obtain ⟨rfl, rfl⟩ : xi = yi ∧ xL = yL := by simpa [GrpD.d] using hxy
      refine gk_allR (l := G) (F := GrpD.f) (x := (⟨xi, xs, xL⟩ : GrpD)) mE hxm ?_
      refine gk_allR (l := G2) (F := GrpD.f) (x := (⟨xi, ys, xL⟩ : GrpD)) mE hym ?_
      refine gk_elem (enc := GE) (L := G) k mE (by omega) (by decide) (fun b o z eA hz => ?_)
      obtain rfl : (⟨xi, xs, xL⟩ : GrpD) = z := by rw [hx] at hz; exact Option.some.inj hz
      refine gk_elem (enc := GE) (L := G2) k mE (by omega) (by decide) (fun b2 o2 z eA2 hz2 => ?_)
      obtain rfl : (⟨xi, ys, xL⟩ : GrpD) = z := by rw [hy] at hz2; exact Option.some.inj hz2
      subst eA
      subst eA2
      (repeat (refine gG ?_; try intro _))
      refine gk_cond rfl rfl (tells_tB _) (fun _ => ?_) (fun h => absurd (by omega) h)
      refine gk_any [0, 1, 2, 3] (Cut _ (fun _ : Unit => [(2, .pointer (some ⟨g2, 0, none⟩)), (3, .pointer (some ⟨g3, 0, none⟩)), (6, .int .i64 k), (163, .bool false)]) (fun _ => [blk g2 [.int .i64 nv, .int .i64 ng, .int .i64 nb, .int .u64 fl, .slice vA vm vc, .slice (some ⟨b, o, none⟩) gm gc, .slice bA bm bc, .slice kA km kd, .slice tA tm tc] 67, blk g3 [.int .i64 nv, .int .i64 ng, .int .i64 nb, .int .u64 fl, .slice vA2 vm2 vc2, .slice (some ⟨b2, o2, none⟩) gm2 gc2, .slice bA2 bm2 bc2, .slice kA2 km2 kd2, .slice tA2 tm2 tc2] 67]) (fun _ => [sl vA 3 VE V, sl vA2 3 VE V2, sl (some ⟨b, o, none⟩) 2 GE G, sl (some ⟨b2, o2, none⟩) 2 GE G2, sl bA 3 BE B, sl bA2 3 BE B2, allF V VolD.f, allF V2 VolD.f, allF G GrpD.f, allF G2 GrpD.f, allF B BokD.f, allF B2 BokD.f])) rfl rfl (by kernel_rfl) ?_ (cut_k fun _ => ?_)
      · skip
        refine gb_take 0 rfl (by decide +kernel) rfl rfl (ys_ev (nw := true) hT rfl sI) sF ?_
        refine gb_take 1 rfl (by decide +kernel) rfl rfl (by first | exact ys_blk hT rfl rfl mE rfl rfl | exact ys_row hT rfl rfl mE rfl rfl | exact ys_row0 hT rfl rfl mE rfl rfl) sF ?_
        refine gb_take 2 rfl (by decide +kernel) rfl rfl (ys_ev (nw := true) hT rfl sI) sF ?_
        refine gb_take 3 rfl (by decide +kernel) rfl rfl (ys_ev (nw := true) hT rfl sI) sF ?_
        refine gb_take 4 rfl (by decide +kernel) rfl rfl (ys_ev (nw := true) hT rfl sI) sF ?_
        refine gb_take 5 rfl (by decide +kernel) rfl rfl (by first | exact ys_blk hT rfl rfl mE rfl rfl | exact ys_row hT rfl rfl mE rfl rfl | exact ys_row0 hT rfl rfl mE rfl rfl) sF ?_
        refine gb_take 6 rfl (by decide +kernel) rfl rfl (ys_ev (nw := true) hT rfl sI) sF ?_
        refine gb_take 7 rfl (by decide +kernel) rfl rfl (by first | exact ys_blk hT rfl rfl mE rfl rfl | exact ys_row hT rfl rfl mE rfl rfl | exact ys_row0 hT rfl rfl mE rfl rfl) sF ?_
        refine gb_take 8 rfl (by decide +kernel) rfl rfl (ys_ev (nw := true) hT rfl sI) sF ?_
        refine gb_take 9 rfl (by decide +kernel) rfl rfl (ys_ev (nw := true) hT rfl sI) sF ?_
        refine gb_take 10 rfl (by decide +kernel) rfl rfl (ys_ev (nw := true) hT rfl sI) sF ?_
        refine gb_take 11 rfl (by decide +kernel) rfl rfl (by first | exact ys_blk hT rfl rfl mE rfl rfl | exact ys_row hT rfl rfl mE rfl rfl | exact ys_row0 hT rfl rfl mE rfl rfl) sF ?_
        refine gb_take 12 rfl (by decide +kernel) rfl rfl (ys_ev (nw := true) hT rfl sI) sF ?_
        try (refine gb_say 147 (.bool false) rfl (congrArg Value.bool (tB_false (fun h => h rfl))) ?_)
        refine gb_take 13 rfl (by decide +kernel) rfl rfl (ys_ev (nw := true) hT rfl sI) sF ?_
        first | refine gb_take 14 rfl (by decide +kernel) rfl rfl (ys_ev (nw := true) hT rfl sI) sF ?_ | refine gb_skip 14 rfl (by decide +kernel) rfl rfl sF ?_
        first | refine gb_take 15 rfl (by decide +kernel) rfl rfl (by first | exact ys_blk hT rfl rfl mE rfl rfl | exact ys_row hT rfl rfl mE rfl rfl | exact ys_row0 hT rfl rfl mE rfl rfl) sF ?_ | refine gb_skip 15 rfl (by decide +kernel) rfl rfl sF ?_
        first | refine gb_take 16 rfl (by decide +kernel) rfl rfl (ys_ev (nw := true) hT rfl sI) sF ?_ | refine gb_skip 16 rfl (by decide +kernel) rfl rfl sF ?_
        first | refine gb_take 17 rfl (by decide +kernel) rfl rfl (ys_ev (nw := true) hT rfl sI) sF ?_ | refine gb_skip 17 rfl (by decide +kernel) rfl rfl sF ?_
        first | refine gb_take 18 rfl (by decide +kernel) rfl rfl (ys_ev (nw := true) hT rfl sI) sF ?_ | refine gb_skip 18 rfl (by decide +kernel) rfl rfl sF ?_
        first | refine gb_take 19 rfl (by decide +kernel) rfl rfl (by first | exact ys_blk hT rfl rfl mE rfl rfl | exact ys_row hT rfl rfl mE rfl rfl | exact ys_row0 hT rfl rfl mE rfl rfl) sF ?_ | refine gb_skip 19 rfl (by decide +kernel) rfl rfl sF ?_
        first | refine gb_take 20 rfl (by decide +kernel) rfl rfl (ys_ev (nw := true) hT rfl sI) sF ?_ | refine gb_skip 20 rfl (by decide +kernel) rfl rfl sF ?_
        first | refine gb_take 21 rfl (by decide +kernel) rfl rfl (by first | exact ys_blk hT rfl rfl mE rfl rfl | exact ys_row hT rfl rfl mE rfl rfl | exact ys_row0 hT rfl rfl mE rfl rfl) sF ?_ | refine gb_skip 21 rfl (by decide +kernel) rfl rfl sF ?_
        first | refine gb_take 22 rfl (by decide +kernel) rfl rfl (ys_ev (nw := true) hT rfl sI) sF ?_ | refine gb_skip 22 rfl (by decide +kernel) rfl rfl sF ?_
        first | refine gb_take 23 rfl (by decide +kernel) rfl rfl (ys_ev (nw := true) hT rfl sI) sF ?_ | refine gb_skip 23 rfl (by decide +kernel) rfl rfl sF ?_
        first | refine gb_take 24 rfl (by decide +kernel) rfl rfl (ys_ev (nw := true) hT rfl sI) sF ?_ | refine gb_skip 24 rfl (by decide +kernel) rfl rfl sF ?_
        first | refine gb_take 25 rfl (by decide +kernel) rfl rfl (by first | exact ys_blk hT rfl rfl mE rfl rfl | exact ys_row hT rfl rfl mE rfl rfl | exact ys_row0 hT rfl rfl mE rfl rfl) sF ?_ | refine gb_skip 25 rfl (by decide +kernel) rfl rfl sF ?_
        first | refine gb_skip 26 rfl (by decide +kernel) rfl rfl sF ?_ | (refine gb_only 26 (by decide +kernel) rfl rfl ?_; (refine mv_call_bel (fun w hk => true_of rfl (equal_I xs.A ys.A xs.n xs.c ys.n ys.c xL xL w hxs.n hys.n (ok_max hxs) (hk.pR (sl xs.A 1 (IE .i64) xL) mE) (hk.pR (sl ys.A 1 (IE .i64) xL) mE))) rfl rfl rfl rfl rfl (by kernel_rfl) ?_); refine ⟨sF, ?_⟩)
        first | refine gb_take 27 rfl (by decide +kernel) rfl rfl (ys_ev (nw := true) hT rfl sI) sF ?_ | refine gb_skip 27 rfl (by decide +kernel) rfl rfl sF ?_
        refine gb_take 28 rfl (by decide +kernel) rfl rfl (ys_ev (nw := true) hT rfl sI) sF ?_
        refine gb_nil (by decide +kernel) ?_
        exact ⟨(), (by repeat (first | exact trivial | refine ⟨rfl, ?_⟩)), sA, sS⟩
      · (repeat (refine gG ?_; try intro _))
        refine gk_again_sel rfl (k + 1, u) (by omega) (by dsimp only; omega) (by repeat (first | exact trivial | refine ⟨rfl, ?_⟩)) sA sS
    · (repeat (refine gG ?_; try intro _))
      refine gk_cond rfl rfl (tells_tB _) (fun h => absurd h (by omega)) (fun _ => ?_)
      (repeat (refine gG ?_; try intro _))
      refine gk_loop_sel (fun (q : Nat × Nat) => match q with | (k, u) => (k ≤ bm)) (fun (q : Nat × Nat) => match q with | (k, u) => [(2, .pointer (some ⟨g2, 0, none⟩)), (3, .pointer (some ⟨g3, 0, none⟩)), (7, .int .i64 k)]) (fun (q : Nat × Nat) => match q with | (k, u) => [blk g2 [.int .i64 nv, .int .i64 ng, .int .i64 nb, .int .u64 fl, .slice vA vm vc, .slice gA gm gc, .slice bA bm bc, .slice kA km kd, .slice tA tm tc] 67, blk g3 [.int .i64 nv, .int .i64 ng, .int .i64 nb, .int .u64 fl, .slice vA2 vm2 vc2, .slice gA2 gm2 gc2, .slice bA2 bm2 bc2, .slice kA2 km2 kd2, .slice tA2 tm2 tc2] 67]) (fun (q : Nat × Nat) => match q with | (k, u) => [sl vA 3 VE V, sl vA2 3 VE V2, sl gA 2 GE G, sl gA2 2 GE G2, sl bA 3 BE B, sl bA2 3 BE B2, allF V VolD.f, allF V2 VolD.f, allF G GrpD.f, allF G2 GrpD.f, allF B BokD.f, allF B2 BokD.f]) (fun (q : Nat × Nat) => match q with | (k, u) => bm - k) (0, 0) rfl (Nat.zero_le _) (by repeat (first | exact trivial | refine ⟨rfl, ?_⟩)) sA sS ?_
      rintro ⟨k, u⟩ hI
      replace hI : (k ≤ bm) := hI
      change GK _ _ [(2, .pointer (some ⟨g2, 0, none⟩)), (3, .pointer (some ⟨g3, 0, none⟩)), (7, .int .i64 k)] [blk g2 [.int .i64 nv, .int .i64 ng, .int .i64 nb, .int .u64 fl, .slice vA vm vc, .slice gA gm gc, .slice bA bm bc, .slice kA km kd, .slice tA tm tc] 67, blk g3 [.int .i64 nv, .int .i64 ng, .int .i64 nb, .int .u64 fl, .slice vA2 vm2 vc2, .slice gA2 gm2 gc2, .slice bA2 bm2 bc2, .slice kA2 km2 kd2, .slice tA2 tm2 tc2] 67] [sl vA 3 VE V, sl vA2 3 VE V2, sl gA 2 GE G, sl gA2 2 GE G2, sl bA 3 BE B, sl bA2 3 BE B2, allF V VolD.f, allF V2 VolD.f, allF G GrpD.f, allF G2 GrpD.f, allF B BokD.f, allF B2 BokD.f]
      have hk1 : k ≤ bm := hI
      by_cases hlt : k < bm
      · obtain ⟨x, hx⟩ : ∃ x, B[k]? = some x := ⟨B[k], List.getElem?_eq_getElem (by omega)⟩
        obtain ⟨y, hy⟩ : ∃ y, B2[k]? = some y := ⟨B2[k], List.getElem?_eq_getElem (by omega)⟩
        have hxm := List.mem_of_getElem? hx
        have hym := List.mem_of_getElem? hy
        have hxs := hc.B x hxm
        have hys := hd.B y hym
        have hxy := map_at hB hx hy
        obtain ⟨xi, xq, xs, xL⟩ := x
        obtain ⟨yi, yq, ys, yL⟩ := y
        obtain ⟨rfl, rfl, rfl⟩ : xi = yi ∧ xq = yq ∧ xL = yL := by simpa [BokD.d] using hxy
        refine gk_allR (l := B) (F := BokD.f) (x := (⟨xi, xq, xs, xL⟩ : BokD)) mE hxm ?_
        refine gk_allR (l := B2) (F := BokD.f) (x := (⟨xi, xq, ys, xL⟩ : BokD)) mE hym ?_
        refine gk_elem (enc := BE) (L := B) k mE (by omega) (by decide) (fun b o z eA hz => ?_)
        obtain rfl : (⟨xi, xq, xs, xL⟩ : BokD) = z := by rw [hx] at hz; exact Option.some.inj hz
        refine gk_elem (enc := BE) (L := B2) k mE (by omega) (by decide) (fun b2 o2 z eA2 hz2 => ?_)
        obtain rfl : (⟨xi, xq, ys, xL⟩ : BokD) = z := by rw [hy] at hz2; exact Option.some.inj hz2
        subst eA
        subst eA2
        (repeat (refine gG ?_; try intro _))
        refine gk_cond rfl rfl (tells_tB _) (fun _ => ?_) (fun h => absurd (by omega) h)
        refine gk_any [0, 1, 2, 3] (Cut _ (fun _ : Unit => [(2, .pointer (some ⟨g2, 0, none⟩)), (3, .pointer (some ⟨g3, 0, none⟩)), (7, .int .i64 k), (214, .bool false)]) (fun _ => [blk g2 [.int .i64 nv, .int .i64 ng, .int .i64 nb, .int .u64 fl, .slice vA vm vc, .slice gA gm gc, .slice (some ⟨b, o, none⟩) bm bc, .slice kA km kd, .slice tA tm tc] 67, blk g3 [.int .i64 nv, .int .i64 ng, .int .i64 nb, .int .u64 fl, .slice vA2 vm2 vc2, .slice gA2 gm2 gc2, .slice (some ⟨b2, o2, none⟩) bm2 bc2, .slice kA2 km2 kd2, .slice tA2 tm2 tc2] 67]) (fun _ => [sl vA 3 VE V, sl vA2 3 VE V2, sl gA 2 GE G, sl gA2 2 GE G2, sl (some ⟨b, o, none⟩) 3 BE B, sl (some ⟨b2, o2, none⟩) 3 BE B2, allF V VolD.f, allF V2 VolD.f, allF G GrpD.f, allF G2 GrpD.f, allF B BokD.f, allF B2 BokD.f])) rfl rfl (by kernel_rfl) ?_ (cut_k fun _ => ?_)
        · skip
          refine gb_take 0 rfl (by decide +kernel) rfl rfl (ys_ev (nw := true) hT rfl sI) sF ?_
          refine gb_take 1 rfl (by decide +kernel) rfl rfl (by first | exact ys_blk hT rfl rfl mE rfl rfl | exact ys_row hT rfl rfl mE rfl rfl | exact ys_row0 hT rfl rfl mE rfl rfl) sF ?_
          refine gb_take 2 rfl (by decide +kernel) rfl rfl (ys_ev (nw := true) hT rfl sI) sF ?_
          refine gb_take 3 rfl (by decide +kernel) rfl rfl (ys_ev (nw := true) hT rfl sI) sF ?_
          refine gb_take 4 rfl (by decide +kernel) rfl rfl (ys_ev (nw := true) hT rfl sI) sF ?_
          refine gb_take 5 rfl (by decide +kernel) rfl rfl (by first | exact ys_blk hT rfl rfl mE rfl rfl | exact ys_row hT rfl rfl mE rfl rfl | exact ys_row0 hT rfl rfl mE rfl rfl) sF ?_
          refine gb_take 6 rfl (by decide +kernel) rfl rfl (ys_ev (nw := true) hT rfl sI) sF ?_
          refine gb_take 7 rfl (by decide +kernel) rfl rfl (by first | exact ys_blk hT rfl rfl mE rfl rfl | exact ys_row hT rfl rfl mE rfl rfl | exact ys_row0 hT rfl rfl mE rfl rfl) sF ?_
          refine gb_take 8 rfl (by decide +kernel) rfl rfl (ys_ev (nw := true) hT rfl sI) sF ?_
          refine gb_take 9 rfl (by decide +kernel) rfl rfl (ys_ev (nw := true) hT rfl sI) sF ?_
          refine gb_take 10 rfl (by decide +kernel) rfl rfl (ys_ev (nw := true) hT rfl sI) sF ?_
          refine gb_take 11 rfl (by decide +kernel) rfl rfl (by first | exact ys_blk hT rfl rfl mE rfl rfl | exact ys_row hT rfl rfl mE rfl rfl | exact ys_row0 hT rfl rfl mE rfl rfl) sF ?_
          refine gb_take 12 rfl (by decide +kernel) rfl rfl (ys_ev (nw := true) hT rfl sI) sF ?_
          try (refine gb_say 183 (.bool false) rfl (congrArg Value.bool (tB_false (fun h => h rfl))) ?_)
          refine gb_take 13 rfl (by decide +kernel) rfl rfl (ys_ev (nw := true) hT rfl sI) sF ?_
          first | refine gb_take 14 rfl (by decide +kernel) rfl rfl (ys_ev (nw := true) hT rfl sI) sF ?_ | refine gb_skip 14 rfl (by decide +kernel) rfl rfl sF ?_
          first | refine gb_take 15 rfl (by decide +kernel) rfl rfl (by first | exact ys_blk hT rfl rfl mE rfl rfl | exact ys_row hT rfl rfl mE rfl rfl | exact ys_row0 hT rfl rfl mE rfl rfl) sF ?_ | refine gb_skip 15 rfl (by decide +kernel) rfl rfl sF ?_
          first | refine gb_take 16 rfl (by decide +kernel) rfl rfl (ys_ev (nw := true) hT rfl sI) sF ?_ | refine gb_skip 16 rfl (by decide +kernel) rfl rfl sF ?_
          first | refine gb_take 17 rfl (by decide +kernel) rfl rfl (ys_ev (nw := true) hT rfl sI) sF ?_ | refine gb_skip 17 rfl (by decide +kernel) rfl rfl sF ?_
          first | refine gb_take 18 rfl (by decide +kernel) rfl rfl (ys_ev (nw := true) hT rfl sI) sF ?_ | refine gb_skip 18 rfl (by decide +kernel) rfl rfl sF ?_
          first | refine gb_take 19 rfl (by decide +kernel) rfl rfl (by first | exact ys_blk hT rfl rfl mE rfl rfl | exact ys_row hT rfl rfl mE rfl rfl | exact ys_row0 hT rfl rfl mE rfl rfl) sF ?_ | refine gb_skip 19 rfl (by decide +kernel) rfl rfl sF ?_
          first | refine gb_take 20 rfl (by decide +kernel) rfl rfl (ys_ev (nw := true) hT rfl sI) sF ?_ | refine gb_skip 20 rfl (by decide +kernel) rfl rfl sF ?_
          first | refine gb_take 21 rfl (by decide +kernel) rfl rfl (by first | exact ys_blk hT rfl rfl mE rfl rfl | exact ys_row hT rfl rfl mE rfl rfl | exact ys_row0 hT rfl rfl mE rfl rfl) sF ?_ | refine gb_skip 21 rfl (by decide +kernel) rfl rfl sF ?_
          first | refine gb_take 22 rfl (by decide +kernel) rfl rfl (ys_ev (nw := true) hT rfl sI) sF ?_ | refine gb_skip 22 rfl (by decide +kernel) rfl rfl sF ?_
          first | refine gb_take 23 rfl (by decide +kernel) rfl rfl (ys_ev (nw := true) hT rfl sI) sF ?_ | refine gb_skip 23 rfl (by decide +kernel) rfl rfl sF ?_
          first | refine gb_take 24 rfl (by decide +kernel) rfl rfl (ys_ev (nw := true) hT rfl sI) sF ?_ | refine gb_skip 24 rfl (by decide +kernel) rfl rfl sF ?_
          first | refine gb_take 25 rfl (by decide +kernel) rfl rfl (by first | exact ys_blk hT rfl rfl mE rfl rfl | exact ys_row hT rfl rfl mE rfl rfl | exact ys_row0 hT rfl rfl mE rfl rfl) sF ?_ | refine gb_skip 25 rfl (by decide +kernel) rfl rfl sF ?_
          first | refine gb_take 26 rfl (by decide +kernel) rfl rfl (ys_ev (nw := true) hT rfl sI) sF ?_ | refine gb_skip 26 rfl (by decide +kernel) rfl rfl sF ?_
          try (refine gb_say 197 (.bool false) rfl (congrArg Value.bool (tB_false (fun h => h rfl))) ?_)
          refine gb_take 27 rfl (by decide +kernel) rfl rfl (ys_ev (nw := true) hT rfl sI) sF ?_
          refine gb_take 28 rfl (by decide +kernel) rfl rfl (ys_ev (nw := true) hT rfl sI) sF ?_
          first | refine gb_take 29 rfl (by decide +kernel) rfl rfl (ys_ev (nw := true) hT rfl sI) sF ?_ | refine gb_skip 29 rfl (by decide +kernel) rfl rfl sF ?_
          first | refine gb_take 30 rfl (by decide +kernel) rfl rfl (by first | exact ys_blk hT rfl rfl mE rfl rfl | exact ys_row hT rfl rfl mE rfl rfl | exact ys_row0 hT rfl rfl mE rfl rfl) sF ?_ | refine gb_skip 30 rfl (by decide +kernel) rfl rfl sF ?_
          first | refine gb_take 31 rfl (by decide +kernel) rfl rfl (ys_ev (nw := true) hT rfl sI) sF ?_ | refine gb_skip 31 rfl (by decide +kernel) rfl rfl sF ?_
          first | refine gb_take 32 rfl (by decide +kernel) rfl rfl (ys_ev (nw := true) hT rfl sI) sF ?_ | refine gb_skip 32 rfl (by decide +kernel) rfl rfl sF ?_
          first | refine gb_take 33 rfl (by decide +kernel) rfl rfl (ys_ev (nw := true) hT rfl sI) sF ?_ | refine gb_skip 33 rfl (by decide +kernel) rfl rfl sF ?_
          first | refine gb_take 34 rfl (by decide +kernel) rfl rfl (by first | exact ys_blk hT rfl rfl mE rfl rfl | exact ys_row hT rfl rfl mE rfl rfl | exact ys_row0 hT rfl rfl mE rfl rfl) sF ?_ | refine gb_skip 34 rfl (by decide +kernel) rfl rfl sF ?_
          first | refine gb_take 35 rfl (by decide +kernel) rfl rfl (ys_ev (nw := true) hT rfl sI) sF ?_ | refine gb_skip 35 rfl (by decide +kernel) rfl rfl sF ?_
          first | refine gb_take 36 rfl (by decide +kernel) rfl rfl (by first | exact ys_blk hT rfl rfl mE rfl rfl | exact ys_row hT rfl rfl mE rfl rfl | exact ys_row0 hT rfl rfl mE rfl rfl) sF ?_ | refine gb_skip 36 rfl (by decide +kernel) rfl rfl sF ?_
          first | refine gb_take 37 rfl (by decide +kernel) rfl rfl (ys_ev (nw := true) hT rfl sI) sF ?_ | refine gb_skip 37 rfl (by decide +kernel) rfl rfl sF ?_
          first | refine gb_take 38 rfl (by decide +kernel) rfl rfl (ys_ev (nw := true) hT rfl sI) sF ?_ | refine gb_skip 38 rfl (by decide +kernel) rfl rfl sF ?_
          first | refine gb_take 39 rfl (by decide +kernel) rfl rfl (ys_ev (nw := true) hT rfl sI) sF ?_ | refine gb_skip 39 rfl (by decide +kernel) rfl rfl sF ?_
          first | refine gb_take 40 rfl (by decide +kernel) rfl rfl (by first | exact ys_blk hT rfl rfl mE rfl rfl | exact ys_row hT rfl rfl mE rfl rfl | exact ys_row0 hT rfl rfl mE rfl rfl) sF ?_ | refine gb_skip 40 rfl (by decide +kernel) rfl rfl sF ?_
          first | refine gb_skip 41 rfl (by decide +kernel) rfl rfl sF ?_ | (refine gb_only 41 (by decide +kernel) rfl rfl ?_; (refine mv_call_bel (fun w hk => true_of rfl (equal_I xs.A ys.A xs.n xs.c ys.n ys.c xL xL w hxs.n hys.n (ok_max hxs) (hk.pR (sl xs.A 1 (IE .i64) xL) mE) (hk.pR (sl ys.A 1 (IE .i64) xL) mE))) rfl rfl rfl rfl rfl (by kernel_rfl) ?_); refine ⟨sF, ?_⟩)
          first | refine gb_take 42 rfl (by decide +kernel) rfl rfl (ys_ev (nw := true) hT rfl sI) sF ?_ | refine gb_skip 42 rfl (by decide +kernel) rfl rfl sF ?_
          refine gb_take 43 rfl (by decide +kernel) rfl rfl (ys_ev (nw := true) hT rfl sI) sF ?_
          refine gb_nil (by decide +kernel) ?_
          exact ⟨(), (by repeat (first | exact trivial | refine ⟨rfl, ?_⟩)), sA, sS⟩
        · (repeat (refine gG ?_; try intro _))
          refine gk_again_sel rfl (k + 1, u) (by omega) (by dsimp only; omega) (by repeat (first | exact trivial | refine ⟨rfl, ?_⟩)) sA sS
      · (repeat (refine gG ?_; try intro _))
        refine gk_cond rfl rfl (tells_tB _) (fun h => absurd h (by omega)) (fun _ => ?_)
        (repeat (refine gG ?_; try intro _))
        refine gk_ret hT rfl rfl (.tmp rfl .nil) (fun w' hk => ?_)
        exact ⟨rfl, hk.toBelow⟩
end Go.Proofs.Ytgpfedmfbkhhcaa.Ct

