/- What a consolidation leaves: facts of catalogs. What a consolidation leaves: the program's. What a consolidation leaves: the document's. -/
import Derived.Test.YtgpfedmfbkhhcaaPo5
import Derived.Test.YtgpfedmfbkhhcaaPo7
import Derived.Test.YtgpfedmfbkhhcaaPoA
namespace Go.Proofs.Ytgpfedmfbkhhcaa.Po
open Go.RowKit Mem Gx Ct Dd Hp
set_option linter.unusedVariables false
set_option linter.unusedSimpArgs false
set_option maxRecDepth 100000
set_option maxHeartbeats 1000000
/-- Numbers of a catalog in their bounds. -/
structure CatB (c : CatD) : Prop where
  f0 : 0 ≤ c.fl
  f9 : c.fl ≤ 18446744073709551615
  t : ∀ m, m ∈ c.T → 0 ≤ m.s ∧ m.s ≤ 18446744073709551615
/-- Few of all. -/
structure CatF (c : CatD) : Prop where
  V : c.V.length ≤ 20
  B : c.B.length ≤ 20
  K : c.K.length ≤ 100
  T : c.T.length ≤ 100
  L : ∀ x, x ∈ c.V → x.L.length ≤ 40 ∧ 1 ≤ x.id
  M : ∀ x, x ∈ c.B → x.L.length ≤ 30
theorem atT_mem {T : List MarkD} {u s : Int} (h : atT T u = some s) : ∃ m, m ∈ T ∧ m.s = s := by
  unfold atT at h
  rw [Option.map_eq_some_iff] at h
  obtain ⟨m, hm, rfl⟩ := h
  exact ⟨m, (List.mem_filter.1 (List.mem_of_getLast? hm)).1, rfl⟩
theorem floorP_bd {c : CatD} (h : CatB c) (now window : Int) : 0 ≤ floorP c.T c.fl now window ∧ floorP c.T c.fl now window ≤ 18446744073709551615 ∧ c.fl ≤ floorP c.T c.fl now window := by
  have h0 := h.f0
  have h9 := h.f9
  unfold floorP
  split
  · omega
  · split
    · omega
    · rename_i s hs
      obtain ⟨m, hm, rfl⟩ := atT_mem hs
      have := h.t m hm
      omega
/-- A volume, behind. -/
def volG (K : List Int) (B : List BokD) (fl : Int) (z : VolD) : Int × Int × List MarkD := (z.id, z.q, skeepP (ofP K (B.map BokD.d) z.id) fl z.L)
/-- Within the loop. -/
structure RtI (w : World) (V : List VolD) (K : List Int) (B : List BokD) (fl : Int) (k : Nat) (Q : List VolD) : Prop where
  le : k ≤ V.length
  eq : Q.map VolD.d = (V.take k).map (volG K B fl)
  ok : ∀ x, x ∈ Q → x.s.Ok x.L.length
  nn : ∀ x, x ∈ Q → ∀ y, y ∈ x.L → 0 ≤ y.n
  new : New w [] (allF Q VolD.f)
theorem RtI.len {w : World} {V : List VolD} {K : List Int} {B : List BokD} {fl : Int} {k : Nat} {Q : List VolD} (h : RtI w V K B fl k Q) : Q.length = k := by
  have := congrArg List.length h.eq
  rw [List.length_map, List.length_map, List.length_take, Nat.min_eq_left h.le] at this
  exact this
theorem RtI.nil {w : World} {V : List VolD} {K : List Int} {B : List BokD} {fl : Int} : RtI w V K B fl 0 [] := ⟨Nat.zero_le _, rfl, fun x h => (by cases h), fun x h => (by cases h), New.all fun x h => by cases h⟩
theorem RtI.step {w : World} {V : List VolD} {K : List Int} {B : List BokD} {fl : Int} {k : Nat} {Q : List VolD} (h : RtI w V K B fl k Q) {z : VolD} (hz : V[k]? = some z) (hn : ∀ y, y ∈ z.L → 0 ≤ y.n) {q : SlV} (hq : q.Ok (skeepP (ofP K (B.map BokD.d) z.id) fl z.L).length) (hw : New w [] (sl q.A 2 ME (skeepP (ofP K (B.map BokD.d) z.id) fl z.L))) : RtI w V K B fl (k + 1) (Q ++ [⟨z.id, z.q, q, skeepP (ofP K (B.map BokD.d) z.id) fl z.L⟩]) := by
  have hl := (List.getElem?_eq_some_iff.1 hz).1
  refine ⟨hl, by rw [List.map_append, h.eq, take_snoc hz, List.map_append]; rfl, fun x hx => ?_, fun x hx y hy => ?_, New.all fun x hx => ?_⟩
  · rcases List.mem_append.1 hx with hx | hx
    · exact h.ok x hx
    · obtain rfl := List.mem_singleton.1 hx; exact hq
  · rcases List.mem_append.1 hx with hx | hx
    · exact h.nn x hx y hy
    · obtain rfl := List.mem_singleton.1 hx; exact hn y (skeep_mem _ hy)
  · rcases List.mem_append.1 hx with hx | hx
    · exact fun b hb => h.new b ⟨x, hx, hb⟩
    · obtain rfl := List.mem_singleton.1 hx; exact hw
theorem der_snocV {Q : List VolD} {x : VolD} : Der [allF Q VolD.f, x.f] (allF (Q ++ [x]) VolD.f) := .all fun y hy => by
  rcases List.mem_append.1 hy with h | h
  · exact Der.elem (L := Q) (.mem (.head _)) h
  · obtain rfl := List.mem_singleton.1 h
    exact .mem (.tail _ (.head _))
theorem retS_cast {P : Program} {fid : FuncId} {args : Array Value} {w : World} {L L' : List MarkD} (e : L' = L) (h : Calls P fid args w (RetS (fun q : SlV => q.Ok L.length) (fun q => q.v) (fun q => [sl q.A 2 ME L]) [] w)) : Calls P fid args w (RetS (fun q : SlV => q.Ok L'.length) (fun q => q.v) (fun q => [sl q.A 2 ME L']) [] w) := by subst e; exact h
theorem New.mono {w : World} {RA : List Fact} {φ : Fact} (h : New w [] φ) : New w RA φ := fun b hb => by
  rcases h b hb with h1 | ⟨ψ, h1, _⟩
  · exact .inl h1
  · cases h1
theorem der_nilV {l : List Fact} : Der l (allF ([] : List VolD) VolD.f) := .all fun x hx => by cases hx
theorem oneV : ∀ (x : VolD) (j : Nat), (VE x j).oneCell' = true := by intro x j; rcases j with _ | _ | j <;> rfl
theorem retain_p {c c' : CatD} {now window ev : Int} (h1 : c'.nv = c.nv) (h2 : c'.ng = c.ng) (h3 : c'.nb = c.nb) (h4 : c'.fl = floorP c.T c.fl now window) (h5 : c'.V.map VolD.d = c.V.map (volG (keptP c.K (floorP c.T c.fl now window) c.fl ev) c.B (floorP c.T c.fl now window)))
    (h6 : c'.G = c.G) (h7 : c'.B = c.B) (h8 : c'.K = keptP c.K (floorP c.T c.fl now window) c.fl ev) (h9 : c'.T = tkeepP c.T (ofP (keptP c.K (floorP c.T c.fl now window) c.fl ev) (c.B.map BokD.d) 0) (floorP c.T c.fl now window)) : c'.p = retainP c.p now window ev := by
  unfold CatD.p retainP
  dsimp only
  rw [h1, h2, h3, h4, h5, h6, h7, h8, h9, List.map_map]
  rfl
end Go.Proofs.Ytgpfedmfbkhhcaa.Po
namespace Go.Proofs.Ytgpfedmfbkhhcaa.Po
open Go.RowKit Mem Gx Ct Dd Hp
set_option linter.unusedVariables false
set_option linter.unusedSimpArgs false
set_option maxRecDepth 100000
set_option maxHeartbeats 4000000
theorem pret_any (c : CatD) (now window ev : Int) (w : World) (hc : c.Ok) (hB : CatB c) (hF : CatF c) (hr : RiseN c.T) (hn0 : 0 ≤ now) (hn9 : now ≤ 18446744073709551615) (hw0 : 0 ≤ window) (he0 : 0 ≤ ev) (h : Rd1 w (catF c)) :
    Calls Try.prog 25 [c.val, .int .u64 now, .int .u64 window, .int .u64 ev].toArray w (RetS (fun c' : CatD => c'.Ok ∧ c'.p = retainP c.p now window ev) (fun c' => c'.val) (fun c' => [catF c']) [catF c] w) := by
  have hfb := floorP_bd hB now window
  have hfv := hB.f0
  have hF1 := hF.V
  have hF2 := hF.B
  have hF3 := hF.K
  have hF4 := hF.T
  have hF5 := hF.L
  have hF6 := hF.M
  have hfl := fun w (h : Rd1 w (catF c)) => pfloor_any c now window w hc (by omega) hr hn0 hn9 hw0 h
  have hkp := fun w (h : Rd1 w (catF c)) => pkept_any c (floorP c.T c.fl now window) ev w hc (by omega) hfb.1 hfb.2.1 he0 h
  have hrp := fun c' h1 h2 h3 h4 h5 h6 h7 h8 h9 => retain_p (c := c) (c' := c') (now := now) (window := window) (ev := ev) h1 h2 h3 h4 h5 h6 h7 h8 h9
  have hkl := keptP_len c.K (floorP c.T c.fl now window) c.fl ev
  obtain ⟨F, hF0⟩ : ∃ F, F = floorP c.T c.fl now window := ⟨_, rfl⟩
  rw [← hF0] at hfb hfl hkp hkl
  obtain ⟨KK, hKK⟩ : ∃ KK, KK = keptP c.K F c.fl ev := ⟨_, rfl⟩
  rw [← hKK] at hkp hkl
  have hof := ofP_len KK c.B
  obtain ⟨TT, hTT⟩ : ∃ TT, TT = tkeepP c.T (ofP KK (c.B.map BokD.d) 0) F := ⟨_, rfl⟩
  rw [← hF0, ← hKK, ← hTT] at hrp
  have hTl : TT.length ≤ c.T.length := by rw [hTT]; exact tkeep_len
  have hcv := hc.v
  have hcg := hc.g
  have hcb := hc.b
  have hck := hc.k
  have hct := hc.t
  have hcV := hc.V
  have hcG := hc.G
  have hcB := hc.B
  have hcm := hc.m
  have hc1 := hc.nv
  have hc2 := hc.ng
  have hc3 := hc.nb
  obtain ⟨nv, ng, nb, fl, ⟨vA, vm, vc⟩, V, ⟨gA, gm, gc⟩, G, ⟨bA, bm, bc⟩, B, ⟨kA, km, kd⟩, K, ⟨tA, tm, tc⟩, M⟩ := c
  dsimp only [CatD.val] at hfl hkp ⊢
  dsimp only at hfb hfv hF1 hF2 hF3 hF4 hF5 hF6 hkl hof hTT hTl hcv hcg hcb hck hct hcV hcG hcB hcm hc1 hc2 hc3 hrp
  have hvn : vm = V.length := hcv.n
  have htn : tm = M.length := hct.n
  refine g_enter0 T [] [] [catF (⟨nv, ng, nb, fl, ⟨vA, vm, vc⟩, V, ⟨gA, gm, gc⟩, G, ⟨bA, bm, bc⟩, B, ⟨kA, km, kd⟩, K, ⟨tA, tm, tc⟩, M⟩ : CatD)] Try.func25 rfl Try.ntmps25 rfl (Rds.cons h .nil).kn ?_
  refine gk_der [catF (⟨nv, ng, nb, fl, ⟨vA, vm, vc⟩, V, ⟨gA, gm, gc⟩, G, ⟨bA, bm, bc⟩, B, ⟨kA, km, kd⟩, K, ⟨tA, tm, tc⟩, M⟩ : CatD)] (φ := sl vA 3 VE V) d_v sS ?_
  refine gk_der [catF (⟨nv, ng, nb, fl, ⟨vA, vm, vc⟩, V, ⟨gA, gm, gc⟩, G, ⟨bA, bm, bc⟩, B, ⟨kA, km, kd⟩, K, ⟨tA, tm, tc⟩, M⟩ : CatD)] (φ := allF V VolD.f) d_V sS ?_
  refine gk_der [catF (⟨nv, ng, nb, fl, ⟨vA, vm, vc⟩, V, ⟨gA, gm, gc⟩, G, ⟨bA, bm, bc⟩, B, ⟨kA, km, kd⟩, K, ⟨tA, tm, tc⟩, M⟩ : CatD)] (φ := sl bA 3 BE B) d_b sS ?_
  refine gk_der [catF (⟨nv, ng, nb, fl, ⟨vA, vm, vc⟩, V, ⟨gA, gm, gc⟩, G, ⟨bA, bm, bc⟩, B, ⟨kA, km, kd⟩, K, ⟨tA, tm, tc⟩, M⟩ : CatD)] (φ := allF B BokD.f) d_B sS ?_
  refine gk_der [catF (⟨nv, ng, nb, fl, ⟨vA, vm, vc⟩, V, ⟨gA, gm, gc⟩, G, ⟨bA, bm, bc⟩, B, ⟨kA, km, kd⟩, K, ⟨tA, tm, tc⟩, M⟩ : CatD)] (φ := sl tA 2 ME M) d_t sS ?_
  (repeat (refine gG ?_; try intro _))
  rename_i g4 g8 g9
  refine g_mv rfl ?_; refine mv_call_bel (fun w hk => hfl w (hk.rR (φ := catF (⟨nv, ng, nb, fl, ⟨vA, vm, vc⟩, V, ⟨gA, gm, gc⟩, G, ⟨bA, bm, bc⟩, B, ⟨kA, km, kd⟩, K, ⟨tA, tm, tc⟩, M⟩ : CatD)) mE)) rfl rfl rfl rfl rfl (by kernel_rfl) ?_
  (repeat (refine gG ?_; try intro _))
  refine g_mv rfl ?_; refine mv_call_rs (fun w hk => hkp w (hk.rR (φ := catF (⟨nv, ng, nb, fl, ⟨vA, vm, vc⟩, V, ⟨gA, gm, gc⟩, G, ⟨bA, bm, bc⟩, B, ⟨kA, km, kd⟩, K, ⟨tA, tm, tc⟩, M⟩ : CatD)) mE)) rfl rfl rfl rfl rfl (by kernel_rfl) sS (fun _ => rfl) (fun kq hkq hkn => ?_)
  (repeat (refine gG ?_; try intro _))
  refine gk_sel (f' := [(4, .pointer (some ⟨g4, 0, none⟩)), (8, .pointer (some ⟨g8, 0, none⟩)), (9, .pointer (some ⟨g9, 0, none⟩))]) (O' := [blk g9 [.int .i64 nv, .int .i64 ng, .int .i64 nb, .int .u64 F, .slice vA vm vc, .slice gA gm gc, .slice bA bm bc, .slice kq.A kq.n kq.c, .slice tA tm tc] 67, blk g4 [.int .i64 nv, .int .i64 ng, .int .i64 nb, .int .u64 fl, .slice vA vm vc, .slice gA gm gc, .slice bA bm bc, .slice kA km kd, .slice tA tm tc] 67, blk g8 [.int .i64 0, .int .i64 0, .int .i64 0, .int .u64 0, .slice none 0 0, .slice none 0 0, .slice none 0 0, .slice none 0 0, .slice none 0 0] 67]) (R' := [sl kq.A 1 (IE .u64) KK, sl tA 2 ME M, sl vA 3 VE V, allF V VolD.f, sl bA 3 BE B, allF B BokD.f, catF (⟨nv, ng, nb, fl, ⟨vA, vm, vc⟩, V, ⟨gA, gm, gc⟩, G, ⟨bA, bm, bc⟩, B, ⟨kA, km, kd⟩, K, ⟨tA, tm, tc⟩, M⟩ : CatD)]) (by repeat (first | exact trivial | refine ⟨rfl, ?_⟩)) sA sS ?_
  have hKb : ∀ q : SlV, New w [] (sl q.A 1 (IE .u64) (ofP KK (B.map BokD.d) 0)) → True := fun _ _ => trivial
  refine gk_any [1, 2, 3, 4, 5, 6, 7, 8, 9] (Cut _ (fun tq : {q : SlV // q.Ok TT.length ∧ New w [] (sl q.A 2 ME TT)} => [(4, .pointer (some ⟨g4, 0, none⟩)), (8, .pointer (some ⟨g8, 0, none⟩)), (9, .pointer (some ⟨g9, 0, none⟩))]) (fun tq => [blk g9 [.int .i64 nv, .int .i64 ng, .int .i64 nb, .int .u64 F, .slice vA vm vc, .slice gA gm gc, .slice bA bm bc, .slice kq.A kq.n kq.c, .slice tq.1.A tq.1.n tq.1.c] 67, blk g4 [.int .i64 nv, .int .i64 ng, .int .i64 nb, .int .u64 fl, .slice vA vm vc, .slice gA gm gc, .slice bA bm bc, .slice kA km kd, .slice tA tm tc] 67, blk g8 [.int .i64 0, .int .i64 0, .int .i64 0, .int .u64 0, .slice none 0 0, .slice none 0 0, .slice none 0 0, .slice none 0 0, .slice none 0 0] 67]) (fun tq => [sl tq.1.A 2 ME TT, sl kq.A 1 (IE .u64) KK, sl tA 2 ME M, sl vA 3 VE V, allF V VolD.f, sl bA 3 BE B, allF B BokD.f, catF (⟨nv, ng, nb, fl, ⟨vA, vm, vc⟩, V, ⟨gA, gm, gc⟩, G, ⟨bA, bm, bc⟩, B, ⟨kA, km, kd⟩, K, ⟨tA, tm, tc⟩, M⟩ : CatD)])) rfl rfl (by kernel_rfl) ?_ (cut_k fun tq => ?_)
  · skip
    refine gb_take 0 rfl (by decide +kernel) rfl rfl (ys_ev (nw := true) hT rfl sI) sF ?_
    refine gb_take 1 rfl (by decide +kernel) rfl rfl (by first | exact ys_blk hT rfl rfl mE rfl rfl | exact ys_row hT rfl rfl mE rfl rfl | exact ys_row0 hT rfl rfl mE rfl rfl) sF ?_
    refine gb_take 4 rfl (by decide +kernel) rfl rfl (ys_ev (nw := true) hT rfl sI) sF ?_
    refine gb_all (by decide +kernel) ?_
    refine gball_not (by decide +kernel) ?_
    refine gball_not (by decide +kernel) ?_
    refine gball_yes rfl rfl ?_ ?_
    · refine mv_yd rfl (yd_load_blk hT rfl rfl mE rfl rfl) ?_
      refine ⟨sF, ?_⟩
      refine gb_all (by decide +kernel) ?_
      refine gball_not (by decide +kernel) ?_
      refine gball_not (by decide +kernel) ?_
      refine gball_not (by decide +kernel) ?_
      refine gball_yes rfl rfl ?_ ?_
      · refine mv_call_rs (fun w hk => pall_any (⟨nv, ng, nb, F, ⟨vA, vm, vc⟩, [], ⟨gA, gm, gc⟩, [], ⟨bA, bm, bc⟩, B, kq, KK, ⟨tA, tm, tc⟩, []⟩ : CatD) w hkq hcb (by dsimp only; omega) (by dsimp only; omega) (hk.rR (φ := sl kq.A 1 (IE .u64) KK) mE) (hk.rR (φ := sl bA 3 BE B) mE)) rfl rfl rfl rfl rfl (by kernel_rfl) sS (fun _ => rfl) (fun pq hpq hpn => ?_)
        refine ⟨sF, ?_⟩
        refine gb_only 5 (by decide +kernel) rfl rfl ?_
        refine mv_yd rfl (yd_load_blk hT rfl rfl mE rfl rfl) ?_
        refine ⟨sF, ?_⟩
        refine gb_only 6 (by decide +kernel) rfl rfl ?_
        refine mv_call_rs (fun w hk => retS_cast hTT (tkeep_any tA tm tc M pq.A pq.n pq.c (ofP KK (B.map BokD.d) 0) F w htn (by omega) hpq.n (by have h1 := hpq.n; have h2 := hof 0; dsimp only at h1; omega) (hk.rR (φ := sl tA 2 ME M) mE) (hk.rR (φ := sl pq.A 1 (IE .u64) (ofP KK (B.map BokD.d) 0)) mE))) rfl rfl rfl rfl rfl (by kernel_rfl) sS (fun _ => rfl) (fun tq htq htqn => ?_)
        refine ⟨sF, ?_⟩
        refine gb_take 7 rfl (by decide +kernel) rfl rfl (ys_ev (nw := true) hT rfl sI) sF ?_
        refine gb_only 8 (by decide +kernel) rfl rfl ?_
        first | (refine mv_box rfl rfl rfl rfl ?_; intro _) | (refine mv_alloc rfl hT rfl rfl ?_; intro _) | refine mv_store hT rfl rfl rfl rfl rfl rfl sO rfl ?_ | (refine mv_buildSlice rfl hT rfl rfl rfl rfl rfl rfl rfl rfl ?_; intro _)
        refine ⟨sF, ?_⟩
        refine gb_nil (by decide +kernel) ?_
        exact ⟨⟨tq, htq, htqn _ (.head _)⟩, (by repeat (first | exact trivial | refine ⟨rfl, ?_⟩)), sA, sS⟩
      refine gball_not (by decide +kernel) ?_
      refine gball_yes rfl rfl ?_ ?_
      · refine mv_yd rfl (yd_load_blk hT rfl rfl mE rfl rfl) ?_
        refine ⟨sF, ?_⟩
        refine gb_only 3 (by decide +kernel) rfl rfl ?_
        refine mv_call_rs (fun w hk => pall_any (⟨nv, ng, nb, F, ⟨vA, vm, vc⟩, [], ⟨gA, gm, gc⟩, [], ⟨bA, bm, bc⟩, B, kq, KK, ⟨tA, tm, tc⟩, []⟩ : CatD) w hkq hcb (by dsimp only; omega) (by dsimp only; omega) (hk.rR (φ := sl kq.A 1 (IE .u64) KK) mE) (hk.rR (φ := sl bA 3 BE B) mE)) rfl rfl rfl rfl rfl (by kernel_rfl) sS (fun _ => rfl) (fun pq hpq hpn => ?_)
        refine ⟨sF, ?_⟩
        refine gb_only 6 (by decide +kernel) rfl rfl ?_
        refine mv_call_rs (fun w hk => retS_cast hTT (tkeep_any tA tm tc M pq.A pq.n pq.c (ofP KK (B.map BokD.d) 0) F w htn (by omega) hpq.n (by have h1 := hpq.n; have h2 := hof 0; dsimp only at h1; omega) (hk.rR (φ := sl tA 2 ME M) mE) (hk.rR (φ := sl pq.A 1 (IE .u64) (ofP KK (B.map BokD.d) 0)) mE))) rfl rfl rfl rfl rfl (by kernel_rfl) sS (fun _ => rfl) (fun tq htq htqn => ?_)
        refine ⟨sF, ?_⟩
        refine gb_take 7 rfl (by decide +kernel) rfl rfl (ys_ev (nw := true) hT rfl sI) sF ?_
        refine gb_only 8 (by decide +kernel) rfl rfl ?_
        first | (refine mv_box rfl rfl rfl rfl ?_; intro _) | (refine mv_alloc rfl hT rfl rfl ?_; intro _) | refine mv_store hT rfl rfl rfl rfl rfl rfl sO rfl ?_ | (refine mv_buildSlice rfl hT rfl rfl rfl rfl rfl rfl rfl rfl ?_; intro _)
        refine ⟨sF, ?_⟩
        refine gb_nil (by decide +kernel) ?_
        exact ⟨⟨tq, htq, htqn _ (.head _)⟩, (by repeat (first | exact trivial | refine ⟨rfl, ?_⟩)), sA, sS⟩
      refine gball_not (by decide +kernel) ?_
      refine gball_not (by decide +kernel) ?_
      refine gball_not (by decide +kernel) ?_
      exact gball_end (by decide +kernel)
    refine gball_not (by decide +kernel) ?_
    refine gball_not (by decide +kernel) ?_
    refine gball_yes rfl rfl ?_ ?_
    · refine mv_yd rfl (yd_load_blk hT rfl rfl mE rfl rfl) ?_
      refine ⟨sF, ?_⟩
      refine gb_only 2 (by decide +kernel) rfl rfl ?_
      refine mv_yd rfl (yd_load_blk hT rfl rfl mE rfl rfl) ?_
      refine ⟨sF, ?_⟩
      refine gb_only 3 (by decide +kernel) rfl rfl ?_
      refine mv_call_rs (fun w hk => pall_any (⟨nv, ng, nb, F, ⟨vA, vm, vc⟩, [], ⟨gA, gm, gc⟩, [], ⟨bA, bm, bc⟩, B, kq, KK, ⟨tA, tm, tc⟩, []⟩ : CatD) w hkq hcb (by dsimp only; omega) (by dsimp only; omega) (hk.rR (φ := sl kq.A 1 (IE .u64) KK) mE) (hk.rR (φ := sl bA 3 BE B) mE)) rfl rfl rfl rfl rfl (by kernel_rfl) sS (fun _ => rfl) (fun pq hpq hpn => ?_)
      refine ⟨sF, ?_⟩
      refine gb_only 6 (by decide +kernel) rfl rfl ?_
      refine mv_call_rs (fun w hk => retS_cast hTT (tkeep_any tA tm tc M pq.A pq.n pq.c (ofP KK (B.map BokD.d) 0) F w htn (by omega) hpq.n (by have h1 := hpq.n; have h2 := hof 0; dsimp only at h1; omega) (hk.rR (φ := sl tA 2 ME M) mE) (hk.rR (φ := sl pq.A 1 (IE .u64) (ofP KK (B.map BokD.d) 0)) mE))) rfl rfl rfl rfl rfl (by kernel_rfl) sS (fun _ => rfl) (fun tq htq htqn => ?_)
      refine ⟨sF, ?_⟩
      refine gb_take 7 rfl (by decide +kernel) rfl rfl (ys_ev (nw := true) hT rfl sI) sF ?_
      refine gb_only 8 (by decide +kernel) rfl rfl ?_
      first | (refine mv_box rfl rfl rfl rfl ?_; intro _) | (refine mv_alloc rfl hT rfl rfl ?_; intro _) | refine mv_store hT rfl rfl rfl rfl rfl rfl sO rfl ?_ | (refine mv_buildSlice rfl hT rfl rfl rfl rfl rfl rfl rfl rfl ?_; intro _)
      refine ⟨sF, ?_⟩
      refine gb_nil (by decide +kernel) ?_
      exact ⟨⟨tq, htq, htqn _ (.head _)⟩, (by repeat (first | exact trivial | refine ⟨rfl, ?_⟩)), sA, sS⟩
    refine gball_not (by decide +kernel) ?_
    refine gball_not (by decide +kernel) ?_
    refine gball_not (by decide +kernel) ?_
    exact gball_end (by decide +kernel)
  obtain ⟨tq, htq, htqn⟩ := tq
  dsimp only
  (repeat (refine gG ?_; try intro _))
  refine gk_own 0 99 3 VE ?_
  refine gk_der [] (φ := allF ([] : List VolD) VolD.f) der_nilV sS ?_
  refine gk_loop_sel (fun (q : Nat × (Option Addr) × Nat × (List VolD)) => match q with | (k, rA, rc, Q) => (RtI w V KK B F k Q)) (fun (q : Nat × (Option Addr) × Nat × (List VolD)) => match q with | (k, rA, rc, Q) => [(4, .pointer (some ⟨g4, 0, none⟩)), (8, .pointer (some ⟨g8, 0, none⟩)), (9, .pointer (some ⟨g9, 0, none⟩)), (34, .slice vA vm vc), (35, .int .i64 (vm : Int)), (36, .int .i64 (k : Int))]) (fun (q : Nat × (Option Addr) × Nat × (List VolD)) => match q with | (k, rA, rc, Q) => [blk g9 [.int .i64 nv, .int .i64 ng, .int .i64 nb, .int .u64 F, .slice rA Q.length rc, .slice gA gm gc, .slice bA bm bc, .slice kq.A kq.n kq.c, .slice tq.A tq.n tq.c] 67, blk g4 [.int .i64 nv, .int .i64 ng, .int .i64 nb, .int .u64 fl, .slice vA vm vc, .slice gA gm gc, .slice bA bm bc, .slice kA km kd, .slice tA tm tc] 67, blk g8 [.int .i64 0, .int .i64 0, .int .i64 0, .int .u64 0, .slice none 0 0, .slice none 0 0, .slice none 0 0, .slice none 0 0, .slice none 0 0] 67, own 0 99 3 (.slice rA Q.length rc) VE Q]) (fun (q : Nat × (Option Addr) × Nat × (List VolD)) => match q with | (k, rA, rc, Q) => [allF Q VolD.f, sl tq.A 2 ME TT, sl kq.A 1 (IE .u64) KK, sl vA 3 VE V, allF V VolD.f, sl bA 3 BE B, allF B BokD.f, catF (⟨nv, ng, nb, fl, ⟨vA, vm, vc⟩, V, ⟨gA, gm, gc⟩, G, ⟨bA, bm, bc⟩, B, ⟨kA, km, kd⟩, K, ⟨tA, tm, tc⟩, M⟩ : CatD)]) (fun (q : Nat × (Option Addr) × Nat × (List VolD)) => match q with | (k, rA, rc, Q) => vm - k) (0, none, 0, []) rfl .nil (by repeat (first | exact trivial | refine ⟨rfl, ?_⟩)) sA sS ?_
  rintro ⟨k, rA, rc, Q⟩ hI
  replace hI : (RtI w V KK B F k Q) := hI
  change GK _ _ [(4, .pointer (some ⟨g4, 0, none⟩)), (8, .pointer (some ⟨g8, 0, none⟩)), (9, .pointer (some ⟨g9, 0, none⟩)), (34, .slice vA vm vc), (35, .int .i64 (vm : Int)), (36, .int .i64 (k : Int))] [blk g9 [.int .i64 nv, .int .i64 ng, .int .i64 nb, .int .u64 F, .slice rA Q.length rc, .slice gA gm gc, .slice bA bm bc, .slice kq.A kq.n kq.c, .slice tq.A tq.n tq.c] 67, blk g4 [.int .i64 nv, .int .i64 ng, .int .i64 nb, .int .u64 fl, .slice vA vm vc, .slice gA gm gc, .slice bA bm bc, .slice kA km kd, .slice tA tm tc] 67, blk g8 [.int .i64 0, .int .i64 0, .int .i64 0, .int .u64 0, .slice none 0 0, .slice none 0 0, .slice none 0 0, .slice none 0 0, .slice none 0 0] 67, own 0 99 3 (.slice rA Q.length rc) VE Q] [allF Q VolD.f, sl tq.A 2 ME TT, sl kq.A 1 (IE .u64) KK, sl vA 3 VE V, allF V VolD.f, sl bA 3 BE B, allF B BokD.f, catF (⟨nv, ng, nb, fl, ⟨vA, vm, vc⟩, V, ⟨gA, gm, gc⟩, G, ⟨bA, bm, bc⟩, B, ⟨kA, km, kd⟩, K, ⟨tA, tm, tc⟩, M⟩ : CatD)]
  have hk1 := hI.le
  have hQl := hI.len
  by_cases hlt : k < vm
  · obtain ⟨z, hz⟩ : ∃ z, V[k]? = some z := ⟨V[k], List.getElem?_eq_getElem (by omega)⟩
    have hzm := List.mem_of_getElem? hz
    have hzn : z.s.n = z.L.length := (hcV z hzm).n
    have hz5 := hF5 z hzm
    have hoz := hof z.id
    have d1 : Der [allF V VolD.f] (sl z.s.A 2 ME z.L) := Der.elem (L := V) (F := VolD.f) (x := z) (.mem (.head _)) hzm
    refine gk_der [allF V VolD.f] d1 sS ?_
    refine gk_elem (A := vA) (enc := VE) (L := V) k mE (by omega) (by decide) (fun kb ko z' eA hz' => ?_)
    subst eA
    obtain rfl : z = z' := by rw [hz] at hz'; exact Option.some.inj hz'
    (repeat' (first | (refine gG ?_; try intro _) | ((first | refine g_split rfl rfl tE (fun _ => ?_) (fun _ => ?_) | refine gk_cond rfl rfl tE (fun _ => ?_) (fun _ => ?_)) <;> (try first | (exfalso; omega; done) | (rename_i hx; exact absurd rfl hx) | (rename_i hx; cases hx; done)))))
    rename_i g11
    refine gk_sel (f' := [(4, .pointer (some ⟨g4, 0, none⟩)), (8, .pointer (some ⟨g8, 0, none⟩)), (9, .pointer (some ⟨g9, 0, none⟩)), (34, .slice (some ⟨kb, ko, none⟩) vm vc), (35, .int .i64 (vm : Int)), (36, .int .i64 (k : Int)), (11, .pointer (some ⟨g11, 0, none⟩))]) (O' := [blk g11 [.int .i64 z.id, .int .u64 z.q, .slice z.s.A z.s.n z.s.c] 99, blk g9 [.int .i64 nv, .int .i64 ng, .int .i64 nb, .int .u64 F, .slice rA Q.length rc, .slice gA gm gc, .slice bA bm bc, .slice kq.A kq.n kq.c, .slice tq.A tq.n tq.c] 67, blk g4 [.int .i64 nv, .int .i64 ng, .int .i64 nb, .int .u64 fl, .slice (some ⟨kb, ko, none⟩) vm vc, .slice gA gm gc, .slice bA bm bc, .slice kA km kd, .slice tA tm tc] 67, blk g8 [.int .i64 0, .int .i64 0, .int .i64 0, .int .u64 0, .slice none 0 0, .slice none 0 0, .slice none 0 0, .slice none 0 0, .slice none 0 0] 67, own 0 99 3 (.slice rA Q.length rc) VE Q]) (R' := [sl z.s.A 2 ME z.L, allF Q VolD.f, sl tq.A 2 ME TT, sl kq.A 1 (IE .u64) KK, sl (some ⟨kb, ko, none⟩) 3 VE V, allF V VolD.f, sl bA 3 BE B, allF B BokD.f, catF (⟨nv, ng, nb, fl, ⟨(some ⟨kb, ko, none⟩), vm, vc⟩, V, ⟨gA, gm, gc⟩, G, ⟨bA, bm, bc⟩, B, ⟨kA, km, kd⟩, K, ⟨tA, tm, tc⟩, M⟩ : CatD)]) (by repeat (first | exact trivial | refine ⟨rfl, ?_⟩)) sA sS ?_
    refine gk_any [1, 2, 3, 4, 5, 6, 7, 8, 9, 10, 11, 12] (Cut _ (fun sq : {q : SlV // q.Ok (skeepP (ofP KK (B.map BokD.d) z.id) F z.L).length ∧ New w [] (sl q.A 2 ME (skeepP (ofP KK (B.map BokD.d) z.id) F z.L))} => [(4, .pointer (some ⟨g4, 0, none⟩)), (8, .pointer (some ⟨g8, 0, none⟩)), (9, .pointer (some ⟨g9, 0, none⟩)), (34, .slice (some ⟨kb, ko, none⟩) vm vc), (35, .int .i64 (vm : Int)), (36, .int .i64 (k : Int)), (11, .pointer (some ⟨g11, 0, none⟩))]) (fun sq => [blk g11 [.int .i64 z.id, .int .u64 z.q, .slice sq.1.A sq.1.n sq.1.c] 99, blk g9 [.int .i64 nv, .int .i64 ng, .int .i64 nb, .int .u64 F, .slice rA Q.length rc, .slice gA gm gc, .slice bA bm bc, .slice kq.A kq.n kq.c, .slice tq.A tq.n tq.c] 67, blk g4 [.int .i64 nv, .int .i64 ng, .int .i64 nb, .int .u64 fl, .slice (some ⟨kb, ko, none⟩) vm vc, .slice gA gm gc, .slice bA bm bc, .slice kA km kd, .slice tA tm tc] 67, blk g8 [.int .i64 0, .int .i64 0, .int .i64 0, .int .u64 0, .slice none 0 0, .slice none 0 0, .slice none 0 0, .slice none 0 0, .slice none 0 0] 67, own 0 99 3 (.slice rA Q.length rc) VE Q]) (fun sq => [sl sq.1.A 2 ME (skeepP (ofP KK (B.map BokD.d) z.id) F z.L), allF Q VolD.f, sl tq.A 2 ME TT, sl kq.A 1 (IE .u64) KK, sl (some ⟨kb, ko, none⟩) 3 VE V, allF V VolD.f, sl bA 3 BE B, allF B BokD.f, catF (⟨nv, ng, nb, fl, ⟨(some ⟨kb, ko, none⟩), vm, vc⟩, V, ⟨gA, gm, gc⟩, G, ⟨bA, bm, bc⟩, B, ⟨kA, km, kd⟩, K, ⟨tA, tm, tc⟩, M⟩ : CatD)])) rfl rfl (by kernel_rfl) ?_ (cut_k fun sq => ?_)
    · skip
      refine gb_take 0 rfl (by decide +kernel) rfl rfl (ys_ev (nw := true) hT rfl sI) sF ?_
      refine gb_take 2 rfl (by decide +kernel) rfl rfl (by first | exact ys_blk hT rfl rfl mE rfl rfl | exact ys_row hT rfl rfl mE rfl rfl | exact ys_row0 hT rfl rfl mE rfl rfl) sF ?_
      refine gb_take 3 rfl (by decide +kernel) rfl rfl (ys_ev (nw := true) hT rfl sI) sF ?_
      refine gb_take 6 rfl (by decide +kernel) rfl rfl (ys_ev (nw := true) hT rfl sI) sF ?_
      refine gb_take 7 rfl (by decide +kernel) rfl rfl (by first | exact ys_blk hT rfl rfl mE rfl rfl | exact ys_row hT rfl rfl mE rfl rfl | exact ys_row0 hT rfl rfl mE rfl rfl) sF ?_
      refine gb_all (by decide +kernel) ?_
      refine gball_not (by decide +kernel) ?_
      refine gball_yes rfl rfl ?_ ?_
      · refine mv_yd rfl (yd_load_blk hT rfl rfl mE rfl rfl) ?_
        refine ⟨sF, ?_⟩
        refine gb_only 4 (by decide +kernel) rfl rfl ?_
        refine mv_yd rfl (yd_load_blk hT rfl rfl mE rfl rfl) ?_
        refine ⟨sF, ?_⟩
        refine gb_only 5 (by decide +kernel) rfl rfl ?_
        refine mv_call_rs (fun w hk => pof_any (⟨nv, ng, nb, F, ⟨rA, Q.length, rc⟩, [], ⟨gA, gm, gc⟩, [], ⟨bA, bm, bc⟩, B, kq, KK, tq, []⟩ : CatD) z.id w hz5.2 hkq hcb hcB (by dsimp only; omega) (by dsimp only; omega) (fun b hb => Nat.le_trans (hF6 b hb) (by decide)) (hk.rR (φ := sl kq.A 1 (IE .u64) KK) mE) (hk.rR (φ := sl bA 3 BE B) mE) (hk.rR (φ := allF B BokD.f) mE)) rfl rfl rfl rfl rfl (by kernel_rfl) sS (fun _ => rfl) (fun pq hpq hpn => ?_)
        refine ⟨sF, ?_⟩
        refine gb_only 8 (by decide +kernel) rfl rfl ?_
        refine mv_call_rs (fun w hk => skeep_any z.s.A z.s.n z.s.c z.L pq.A pq.n pq.c (ofP KK (B.map BokD.d) z.id) F w hzn (by omega) hpq.n (by have h1 := hpq.n; dsimp only at h1; omega) (hk.rR (φ := sl z.s.A 2 ME z.L) mE) (hk.rR (φ := sl pq.A 1 (IE .u64) (ofP KK (B.map BokD.d) z.id)) mE)) rfl rfl rfl rfl rfl (by kernel_rfl) sS (fun _ => rfl) (fun sq hsq hsqn => ?_)
        refine ⟨sF, ?_⟩
        refine gb_take 9 rfl (by decide +kernel) rfl rfl (ys_ev (nw := true) hT rfl sI) sF ?_
        refine gb_only 10 (by decide +kernel) rfl rfl ?_
        first | (refine mv_box rfl rfl rfl rfl ?_; intro _) | (refine mv_alloc rfl hT rfl rfl ?_; intro _) | refine mv_store hT rfl rfl rfl rfl rfl rfl sO rfl ?_ | (refine mv_buildSlice rfl hT rfl rfl rfl rfl rfl rfl rfl rfl ?_; intro _)
        refine ⟨sF, ?_⟩
        refine gb_nil (by decide +kernel) ?_
        exact ⟨⟨sq, hsq, hsqn _ (.head _)⟩, (by repeat (first | exact trivial | refine ⟨rfl, ?_⟩)), sA, sS⟩
      refine gball_not (by decide +kernel) ?_
      refine gball_not (by decide +kernel) ?_
      refine gball_yes rfl rfl ?_ ?_
      · refine mv_yd rfl (yd_load_blk hT rfl rfl mE rfl rfl) ?_
        refine ⟨sF, ?_⟩
        refine gb_all (by decide +kernel) ?_
        refine gball_not (by decide +kernel) ?_
        refine gball_yes rfl rfl ?_ ?_
        · refine mv_yd rfl (yd_load_blk hT rfl rfl mE rfl rfl) ?_
          refine ⟨sF, ?_⟩
          refine gb_only 5 (by decide +kernel) rfl rfl ?_
          refine mv_call_rs (fun w hk => pof_any (⟨nv, ng, nb, F, ⟨rA, Q.length, rc⟩, [], ⟨gA, gm, gc⟩, [], ⟨bA, bm, bc⟩, B, kq, KK, tq, []⟩ : CatD) z.id w hz5.2 hkq hcb hcB (by dsimp only; omega) (by dsimp only; omega) (fun b hb => Nat.le_trans (hF6 b hb) (by decide)) (hk.rR (φ := sl kq.A 1 (IE .u64) KK) mE) (hk.rR (φ := sl bA 3 BE B) mE) (hk.rR (φ := allF B BokD.f) mE)) rfl rfl rfl rfl rfl (by kernel_rfl) sS (fun _ => rfl) (fun pq hpq hpn => ?_)
          refine ⟨sF, ?_⟩
          refine gb_only 8 (by decide +kernel) rfl rfl ?_
          refine mv_call_rs (fun w hk => skeep_any z.s.A z.s.n z.s.c z.L pq.A pq.n pq.c (ofP KK (B.map BokD.d) z.id) F w hzn (by omega) hpq.n (by have h1 := hpq.n; dsimp only at h1; omega) (hk.rR (φ := sl z.s.A 2 ME z.L) mE) (hk.rR (φ := sl pq.A 1 (IE .u64) (ofP KK (B.map BokD.d) z.id)) mE)) rfl rfl rfl rfl rfl (by kernel_rfl) sS (fun _ => rfl) (fun sq hsq hsqn => ?_)
          refine ⟨sF, ?_⟩
          refine gb_take 9 rfl (by decide +kernel) rfl rfl (ys_ev (nw := true) hT rfl sI) sF ?_
          refine gb_only 10 (by decide +kernel) rfl rfl ?_
          first | (refine mv_box rfl rfl rfl rfl ?_; intro _) | (refine mv_alloc rfl hT rfl rfl ?_; intro _) | refine mv_store hT rfl rfl rfl rfl rfl rfl sO rfl ?_ | (refine mv_buildSlice rfl hT rfl rfl rfl rfl rfl rfl rfl rfl ?_; intro _)
          refine ⟨sF, ?_⟩
          refine gb_nil (by decide +kernel) ?_
          exact ⟨⟨sq, hsq, hsqn _ (.head _)⟩, (by repeat (first | exact trivial | refine ⟨rfl, ?_⟩)), sA, sS⟩
        refine gball_not (by decide +kernel) ?_
        refine gball_not (by decide +kernel) ?_
        refine gball_not (by decide +kernel) ?_
        refine gball_yes rfl rfl ?_ ?_
        · refine mv_call_rs (fun w hk => pof_any (⟨nv, ng, nb, F, ⟨rA, Q.length, rc⟩, [], ⟨gA, gm, gc⟩, [], ⟨bA, bm, bc⟩, B, kq, KK, tq, []⟩ : CatD) z.id w hz5.2 hkq hcb hcB (by dsimp only; omega) (by dsimp only; omega) (fun b hb => Nat.le_trans (hF6 b hb) (by decide)) (hk.rR (φ := sl kq.A 1 (IE .u64) KK) mE) (hk.rR (φ := sl bA 3 BE B) mE) (hk.rR (φ := allF B BokD.f) mE)) rfl rfl rfl rfl rfl (by kernel_rfl) sS (fun _ => rfl) (fun pq hpq hpn => ?_)
          refine ⟨sF, ?_⟩
          refine gb_only 1 (by decide +kernel) rfl rfl ?_
          refine mv_yd rfl (yd_load_blk hT rfl rfl mE rfl rfl) ?_
          refine ⟨sF, ?_⟩
          refine gb_only 8 (by decide +kernel) rfl rfl ?_
          refine mv_call_rs (fun w hk => skeep_any z.s.A z.s.n z.s.c z.L pq.A pq.n pq.c (ofP KK (B.map BokD.d) z.id) F w hzn (by omega) hpq.n (by have h1 := hpq.n; dsimp only at h1; omega) (hk.rR (φ := sl z.s.A 2 ME z.L) mE) (hk.rR (φ := sl pq.A 1 (IE .u64) (ofP KK (B.map BokD.d) z.id)) mE)) rfl rfl rfl rfl rfl (by kernel_rfl) sS (fun _ => rfl) (fun sq hsq hsqn => ?_)
          refine ⟨sF, ?_⟩
          refine gb_take 9 rfl (by decide +kernel) rfl rfl (ys_ev (nw := true) hT rfl sI) sF ?_
          refine gb_only 10 (by decide +kernel) rfl rfl ?_
          first | (refine mv_box rfl rfl rfl rfl ?_; intro _) | (refine mv_alloc rfl hT rfl rfl ?_; intro _) | refine mv_store hT rfl rfl rfl rfl rfl rfl sO rfl ?_ | (refine mv_buildSlice rfl hT rfl rfl rfl rfl rfl rfl rfl rfl ?_; intro _)
          refine ⟨sF, ?_⟩
          refine gb_nil (by decide +kernel) ?_
          exact ⟨⟨sq, hsq, hsqn _ (.head _)⟩, (by repeat (first | exact trivial | refine ⟨rfl, ?_⟩)), sA, sS⟩
        refine gball_not (by decide +kernel) ?_
        refine gball_not (by decide +kernel) ?_
        refine gball_not (by decide +kernel) ?_
        refine gball_not (by decide +kernel) ?_
        refine gball_not (by decide +kernel) ?_
        exact gball_end (by decide +kernel)
      refine gball_not (by decide +kernel) ?_
      refine gball_not (by decide +kernel) ?_
      refine gball_not (by decide +kernel) ?_
      refine gball_not (by decide +kernel) ?_
      refine gball_not (by decide +kernel) ?_
      refine gball_not (by decide +kernel) ?_
      exact gball_end (by decide +kernel)
    · obtain ⟨sq, hsq, hsqn⟩ := sq
      dsimp only
      have hst := hI.step hz (hcm z hzm) hsq hsqn
      (repeat (refine gG ?_; try intro _))
      refine g_mv rfl (mv_append (L := Q) rfl [(⟨z.id, z.q, sq, (skeepP (ofP KK (B.map BokD.d) z.id) F z.L)⟩ : VolD)] rfl rfl rfl rfl elt_V (by intro _; first | ((repeat (first | with_reducible exact Upd.here _ | with_reducible apply Upd.there)); done) | ((repeat (first | exact Upd.here _ | apply Upd.there)); done) | fail) (src_blk mE rfl) rfl oneV (by simp only [maxLen, List.length_append, List.length_cons, List.length_nil]; omega) (by simp only [List.length_append, List.length_cons, List.length_nil]; omega) (Nat.zero_le _) (fun v2 => ?_))
      refine g_ownv v2 mE (fun A2 c2 hv2 _ _ _ => ?_)
      subst hv2
      (repeat (refine gG ?_; try intro _))
      refine gk_der [allF Q VolD.f, sl sq.A 2 ME (skeepP (ofP KK (B.map BokD.d) z.id) F z.L)] (φ := allF (Q ++ [(⟨z.id, z.q, sq, (skeepP (ofP KK (B.map BokD.d) z.id) F z.L)⟩ : VolD)]) VolD.f) (der_snocV (Q := Q) (x := (⟨z.id, z.q, sq, (skeepP (ofP KK (B.map BokD.d) z.id) F z.L)⟩ : VolD))) sS ?_
      refine gk_say 36 (.int .i64 ((k + 1 : Nat) : Int)) rfl (by first | (congr 1; done) | (congr 1; omega)) ?_
      refine gk_again_sel rfl (k + 1, A2, c2, Q ++ [(⟨z.id, z.q, sq, (skeepP (ofP KK (B.map BokD.d) z.id) F z.L)⟩ : VolD)]) hst (by dsimp only; omega) (by repeat (first | exact trivial | refine ⟨rfl, ?_⟩)) sA sS
  · have hkk : k = V.length := by omega
    have hQe := hI.eq
    rw [hkk, List.take_length] at hQe
    (repeat' (first | (refine gG ?_; try intro _) | ((first | refine g_split rfl rfl tE (fun _ => ?_) (fun _ => ?_) | refine gk_cond rfl rfl tE (fun _ => ?_) (fun _ => ?_)) <;> (try first | (exfalso; omega; done) | (rename_i hx; exact absurd rfl hx) | (rename_i hx; cases hx; done)))))
    refine gk_freeze (.slice rA Q.length rc) (by intro _; first | ((repeat (first | with_reducible exact Upd.here _ | with_reducible apply Upd.there)); done) | ((repeat (first | exact Upd.here _ | apply Upd.there)); done) | fail) (fun V4 d4 hv hV1 hV2 hV3 => ?_)
    injection hv with e1 e2 e3
    subst e1
    subst e3
    refine gk_ret hT rfl rfl (.cell (cs := [.int .i64 nv, .int .i64 ng, .int .i64 nb, .int .u64 F, .slice rA Q.length rc, .slice gA gm gc, .slice bA bm bc, .slice kq.A kq.n kq.c, .slice tq.A tq.n tq.c]) (g := g8) (Tg := 67) rfl mE rfl rfl .nil) (fun w' hk => ?_)
    exact RetS.mk (⟨nv, ng, nb, F, ⟨rA, Q.length, rc⟩, Q, ⟨gA, gm, gc⟩, G, ⟨bA, bm, bc⟩, B, kq, KK, tq, TT⟩ : CatD) ⟨⟨⟨rfl, hV1, hV2, hV3⟩, hcg, hcb, hkq, htq, hI.ok, hcG, hcB, hI.nn, hc1, hc2, hc3⟩, hrp (⟨nv, ng, nb, F, ⟨rA, Q.length, rc⟩, Q, ⟨gA, gm, gc⟩, G, ⟨bA, bm, bc⟩, B, kq, KK, tq, TT⟩ : CatD) rfl rfl rfl rfl hQe rfl rfl rfl rfl⟩ rfl hk (.cons (catF_rs (RS1.own hk mE) (RS1.rd hk mE (New.mono hI.new)) (part_rs hk mE d_g) (part_rs hk mE d_G) (part_rs hk mE d_b) (part_rs hk mE d_B) (RS1.rd hk mE (New.mono (fun b hb => hkn _ (.head _) b hb))) (RS1.rd hk mE (New.mono htqn))) .nil)
end Go.Proofs.Ytgpfedmfbkhhcaa.Po
namespace Go.Proofs.Ytgpfedmfbkhhcaa.Po
open Go.RowKit Mem Gx Ct Dd Hp
set_option linter.unusedVariables false
set_option linter.unusedSimpArgs false
set_option maxRecDepth 100000
set_option maxHeartbeats 4000000
theorem rret_any (c : CatD) (now window ev : Int) (w : World) (hc : c.Ok) (hB : CatB c) (hF : CatF c) (hr : RiseN c.T) (hn0 : 0 ≤ now) (hn9 : now ≤ 18446744073709551615) (hw0 : 0 ≤ window) (he0 : 0 ≤ ev) (h : Rd1 w (catF c)) :
    Calls Try.prog 26 [c.val, .int .u64 now, .int .u64 window, .int .u64 ev].toArray w (RetS (fun c' : CatD => c'.Ok ∧ c'.p = retainP c.p now window ev) (fun c' => c'.val) (fun c' => [catF c']) [catF c] w) := by
  have hfb := floorP_bd hB now window
  have hfv := hB.f0
  have hF1 := hF.V
  have hF2 := hF.B
  have hF3 := hF.K
  have hF4 := hF.T
  have hF5 := hF.L
  have hF6 := hF.M
  have hfl := fun w (h : Rd1 w (catF c)) => rfloor_any c now window w hc (by omega) hn0 hn9 hw0 h
  have hkp := fun w (h : Rd1 w (catF c)) => rkept_any c (floorP c.T c.fl now window) ev w hc (by omega) hfv hfb.1 hfb.2.1 he0 h
  have hrp := fun c' h1 h2 h3 h4 h5 h6 h7 h8 h9 => retain_p (c := c) (c' := c') (now := now) (window := window) (ev := ev) h1 h2 h3 h4 h5 h6 h7 h8 h9
  have hkl := keptP_len c.K (floorP c.T c.fl now window) c.fl ev
  obtain ⟨F, hF0⟩ : ∃ F, F = floorP c.T c.fl now window := ⟨_, rfl⟩
  rw [← hF0] at hfb hfl hkp hkl
  obtain ⟨KK, hKK⟩ : ∃ KK, KK = keptP c.K F c.fl ev := ⟨_, rfl⟩
  rw [← hKK] at hkp hkl
  have hof := ofP_len KK c.B
  obtain ⟨TT, hTT⟩ : ∃ TT, TT = tkeepP c.T (ofP KK (c.B.map BokD.d) 0) F := ⟨_, rfl⟩
  rw [← hF0, ← hKK, ← hTT] at hrp
  have hTl : TT.length ≤ c.T.length := by rw [hTT]; exact tkeep_len
  have hcv := hc.v
  have hcg := hc.g
  have hcb := hc.b
  have hck := hc.k
  have hct := hc.t
  have hcV := hc.V
  have hcG := hc.G
  have hcB := hc.B
  have hcm := hc.m
  have hc1 := hc.nv
  have hc2 := hc.ng
  have hc3 := hc.nb
  obtain ⟨nv, ng, nb, fl, ⟨vA, vm, vc⟩, V, ⟨gA, gm, gc⟩, G, ⟨bA, bm, bc⟩, B, ⟨kA, km, kd⟩, K, ⟨tA, tm, tc⟩, M⟩ := c
  dsimp only [CatD.val] at hfl hkp ⊢
  dsimp only at hfb hfv hF1 hF2 hF3 hF4 hF5 hF6 hkl hof hTT hTl hcv hcg hcb hck hct hcV hcG hcB hcm hc1 hc2 hc3 hrp
  have hvn : vm = V.length := hcv.n
  have htn : tm = M.length := hct.n
  refine g_enter0 T [] [] [catF (⟨nv, ng, nb, fl, ⟨vA, vm, vc⟩, V, ⟨gA, gm, gc⟩, G, ⟨bA, bm, bc⟩, B, ⟨kA, km, kd⟩, K, ⟨tA, tm, tc⟩, M⟩ : CatD)] Try.func26 rfl Try.ntmps26 rfl (Rds.cons h .nil).kn ?_
  refine gk_der [catF (⟨nv, ng, nb, fl, ⟨vA, vm, vc⟩, V, ⟨gA, gm, gc⟩, G, ⟨bA, bm, bc⟩, B, ⟨kA, km, kd⟩, K, ⟨tA, tm, tc⟩, M⟩ : CatD)] (φ := sl vA 3 VE V) d_v sS ?_
  refine gk_der [catF (⟨nv, ng, nb, fl, ⟨vA, vm, vc⟩, V, ⟨gA, gm, gc⟩, G, ⟨bA, bm, bc⟩, B, ⟨kA, km, kd⟩, K, ⟨tA, tm, tc⟩, M⟩ : CatD)] (φ := allF V VolD.f) d_V sS ?_
  refine gk_der [catF (⟨nv, ng, nb, fl, ⟨vA, vm, vc⟩, V, ⟨gA, gm, gc⟩, G, ⟨bA, bm, bc⟩, B, ⟨kA, km, kd⟩, K, ⟨tA, tm, tc⟩, M⟩ : CatD)] (φ := sl bA 3 BE B) d_b sS ?_
  refine gk_der [catF (⟨nv, ng, nb, fl, ⟨vA, vm, vc⟩, V, ⟨gA, gm, gc⟩, G, ⟨bA, bm, bc⟩, B, ⟨kA, km, kd⟩, K, ⟨tA, tm, tc⟩, M⟩ : CatD)] (φ := allF B BokD.f) d_B sS ?_
  refine gk_der [catF (⟨nv, ng, nb, fl, ⟨vA, vm, vc⟩, V, ⟨gA, gm, gc⟩, G, ⟨bA, bm, bc⟩, B, ⟨kA, km, kd⟩, K, ⟨tA, tm, tc⟩, M⟩ : CatD)] (φ := sl tA 2 ME M) d_t sS ?_
  (repeat (refine gG ?_; try intro _))
  rename_i g4 g8 g9
  refine g_mv rfl ?_; refine mv_call_bel (fun w hk => hfl w (hk.rR (φ := catF (⟨nv, ng, nb, fl, ⟨vA, vm, vc⟩, V, ⟨gA, gm, gc⟩, G, ⟨bA, bm, bc⟩, B, ⟨kA, km, kd⟩, K, ⟨tA, tm, tc⟩, M⟩ : CatD)) mE)) rfl rfl rfl rfl rfl (by kernel_rfl) ?_
  (repeat (refine gG ?_; try intro _))
  refine g_mv rfl ?_; refine mv_call_rs (fun w hk => hkp w (hk.rR (φ := catF (⟨nv, ng, nb, fl, ⟨vA, vm, vc⟩, V, ⟨gA, gm, gc⟩, G, ⟨bA, bm, bc⟩, B, ⟨kA, km, kd⟩, K, ⟨tA, tm, tc⟩, M⟩ : CatD)) mE)) rfl rfl rfl rfl rfl (by kernel_rfl) sS (fun _ => rfl) (fun kq hkq hkn => ?_)
  (repeat (refine gG ?_; try intro _))
  refine gk_sel (f' := [(4, .pointer (some ⟨g4, 0, none⟩)), (8, .pointer (some ⟨g8, 0, none⟩)), (9, .pointer (some ⟨g9, 0, none⟩))]) (O' := [blk g9 [.int .i64 nv, .int .i64 ng, .int .i64 nb, .int .u64 F, .slice vA vm vc, .slice gA gm gc, .slice bA bm bc, .slice kq.A kq.n kq.c, .slice tA tm tc] 67, blk g4 [.int .i64 nv, .int .i64 ng, .int .i64 nb, .int .u64 fl, .slice vA vm vc, .slice gA gm gc, .slice bA bm bc, .slice kA km kd, .slice tA tm tc] 67, blk g8 [.int .i64 0, .int .i64 0, .int .i64 0, .int .u64 0, .slice none 0 0, .slice none 0 0, .slice none 0 0, .slice none 0 0, .slice none 0 0] 67]) (R' := [sl kq.A 1 (IE .u64) KK, sl tA 2 ME M, sl vA 3 VE V, allF V VolD.f, sl bA 3 BE B, allF B BokD.f, catF (⟨nv, ng, nb, fl, ⟨vA, vm, vc⟩, V, ⟨gA, gm, gc⟩, G, ⟨bA, bm, bc⟩, B, ⟨kA, km, kd⟩, K, ⟨tA, tm, tc⟩, M⟩ : CatD)]) (by repeat (first | exact trivial | refine ⟨rfl, ?_⟩)) sA sS ?_
  have hKb : ∀ q : SlV, New w [] (sl q.A 1 (IE .u64) (ofP KK (B.map BokD.d) 0)) → True := fun _ _ => trivial
  refine gk_any [1, 2, 3, 4, 5, 6, 7, 8, 9] (Cut _ (fun tq : {q : SlV // q.Ok TT.length ∧ New w [] (sl q.A 2 ME TT)} => [(4, .pointer (some ⟨g4, 0, none⟩)), (8, .pointer (some ⟨g8, 0, none⟩)), (9, .pointer (some ⟨g9, 0, none⟩))]) (fun tq => [blk g9 [.int .i64 nv, .int .i64 ng, .int .i64 nb, .int .u64 F, .slice vA vm vc, .slice gA gm gc, .slice bA bm bc, .slice kq.A kq.n kq.c, .slice tq.1.A tq.1.n tq.1.c] 67, blk g4 [.int .i64 nv, .int .i64 ng, .int .i64 nb, .int .u64 fl, .slice vA vm vc, .slice gA gm gc, .slice bA bm bc, .slice kA km kd, .slice tA tm tc] 67, blk g8 [.int .i64 0, .int .i64 0, .int .i64 0, .int .u64 0, .slice none 0 0, .slice none 0 0, .slice none 0 0, .slice none 0 0, .slice none 0 0] 67]) (fun tq => [sl tq.1.A 2 ME TT, sl kq.A 1 (IE .u64) KK, sl tA 2 ME M, sl vA 3 VE V, allF V VolD.f, sl bA 3 BE B, allF B BokD.f, catF (⟨nv, ng, nb, fl, ⟨vA, vm, vc⟩, V, ⟨gA, gm, gc⟩, G, ⟨bA, bm, bc⟩, B, ⟨kA, km, kd⟩, K, ⟨tA, tm, tc⟩, M⟩ : CatD)])) rfl rfl (by kernel_rfl) ?_ (cut_k fun tq => ?_)
  · skip
    refine gb_take 0 rfl (by decide +kernel) rfl rfl (ys_ev (nw := true) hT rfl sI) sF ?_
    refine gb_take 1 rfl (by decide +kernel) rfl rfl (by first | exact ys_blk hT rfl rfl mE rfl rfl | exact ys_row hT rfl rfl mE rfl rfl | exact ys_row0 hT rfl rfl mE rfl rfl) sF ?_
    refine gb_take 4 rfl (by decide +kernel) rfl rfl (ys_ev (nw := true) hT rfl sI) sF ?_
    refine gb_all (by decide +kernel) ?_
    refine gball_not (by decide +kernel) ?_
    refine gball_not (by decide +kernel) ?_
    refine gball_yes rfl rfl ?_ ?_
    · refine mv_yd rfl (yd_load_blk hT rfl rfl mE rfl rfl) ?_
      refine ⟨sF, ?_⟩
      refine gb_all (by decide +kernel) ?_
      refine gball_not (by decide +kernel) ?_
      refine gball_not (by decide +kernel) ?_
      refine gball_not (by decide +kernel) ?_
      refine gball_yes rfl rfl ?_ ?_
      · refine mv_call_rs (fun w hk => rof_any (⟨nv, ng, nb, F, ⟨vA, vm, vc⟩, [], ⟨gA, gm, gc⟩, [], ⟨bA, bm, bc⟩, B, kq, KK, ⟨tA, tm, tc⟩, []⟩ : CatD) 0 w hkq hcb hcB (by dsimp only; omega) (by dsimp only; omega) (fun b hb => Nat.le_trans (hF6 b hb) (by decide)) (hk.rR (φ := sl kq.A 1 (IE .u64) KK) mE) (hk.rR (φ := sl bA 3 BE B) mE) (hk.rR (φ := allF B BokD.f) mE)) rfl rfl rfl rfl rfl (by kernel_rfl) sS (fun _ => rfl) (fun pq hpq hpn => ?_)
        refine ⟨sF, ?_⟩
        refine gb_only 5 (by decide +kernel) rfl rfl ?_
        refine mv_yd rfl (yd_load_blk hT rfl rfl mE rfl rfl) ?_
        refine ⟨sF, ?_⟩
        refine gb_only 6 (by decide +kernel) rfl rfl ?_
        refine mv_call_rs (fun w hk => retS_cast hTT (rtkeep_any tA tm tc M pq.A pq.n pq.c (ofP KK (B.map BokD.d) 0) F w htn (by omega) hpq.n (by have h1 := hpq.n; have h2 := hof 0; dsimp only at h1; omega) (hk.rR (φ := sl tA 2 ME M) mE) (hk.rR (φ := sl pq.A 1 (IE .u64) (ofP KK (B.map BokD.d) 0)) mE))) rfl rfl rfl rfl rfl (by kernel_rfl) sS (fun _ => rfl) (fun tq htq htqn => ?_)
        refine ⟨sF, ?_⟩
        refine gb_take 7 rfl (by decide +kernel) rfl rfl (ys_ev (nw := true) hT rfl sI) sF ?_
        refine gb_only 8 (by decide +kernel) rfl rfl ?_
        first | (refine mv_box rfl rfl rfl rfl ?_; intro _) | (refine mv_alloc rfl hT rfl rfl ?_; intro _) | refine mv_store hT rfl rfl rfl rfl rfl rfl sO rfl ?_ | (refine mv_buildSlice rfl hT rfl rfl rfl rfl rfl rfl rfl rfl ?_; intro _)
        refine ⟨sF, ?_⟩
        refine gb_nil (by decide +kernel) ?_
        exact ⟨⟨tq, htq, htqn _ (.head _)⟩, (by repeat (first | exact trivial | refine ⟨rfl, ?_⟩)), sA, sS⟩
      refine gball_not (by decide +kernel) ?_
      refine gball_yes rfl rfl ?_ ?_
      · refine mv_yd rfl (yd_load_blk hT rfl rfl mE rfl rfl) ?_
        refine ⟨sF, ?_⟩
        refine gb_only 3 (by decide +kernel) rfl rfl ?_
        refine mv_call_rs (fun w hk => rof_any (⟨nv, ng, nb, F, ⟨vA, vm, vc⟩, [], ⟨gA, gm, gc⟩, [], ⟨bA, bm, bc⟩, B, kq, KK, ⟨tA, tm, tc⟩, []⟩ : CatD) 0 w hkq hcb hcB (by dsimp only; omega) (by dsimp only; omega) (fun b hb => Nat.le_trans (hF6 b hb) (by decide)) (hk.rR (φ := sl kq.A 1 (IE .u64) KK) mE) (hk.rR (φ := sl bA 3 BE B) mE) (hk.rR (φ := allF B BokD.f) mE)) rfl rfl rfl rfl rfl (by kernel_rfl) sS (fun _ => rfl) (fun pq hpq hpn => ?_)
        refine ⟨sF, ?_⟩
        refine gb_only 6 (by decide +kernel) rfl rfl ?_
        refine mv_call_rs (fun w hk => retS_cast hTT (rtkeep_any tA tm tc M pq.A pq.n pq.c (ofP KK (B.map BokD.d) 0) F w htn (by omega) hpq.n (by have h1 := hpq.n; have h2 := hof 0; dsimp only at h1; omega) (hk.rR (φ := sl tA 2 ME M) mE) (hk.rR (φ := sl pq.A 1 (IE .u64) (ofP KK (B.map BokD.d) 0)) mE))) rfl rfl rfl rfl rfl (by kernel_rfl) sS (fun _ => rfl) (fun tq htq htqn => ?_)
        refine ⟨sF, ?_⟩
        refine gb_take 7 rfl (by decide +kernel) rfl rfl (ys_ev (nw := true) hT rfl sI) sF ?_
        refine gb_only 8 (by decide +kernel) rfl rfl ?_
        first | (refine mv_box rfl rfl rfl rfl ?_; intro _) | (refine mv_alloc rfl hT rfl rfl ?_; intro _) | refine mv_store hT rfl rfl rfl rfl rfl rfl sO rfl ?_ | (refine mv_buildSlice rfl hT rfl rfl rfl rfl rfl rfl rfl rfl ?_; intro _)
        refine ⟨sF, ?_⟩
        refine gb_nil (by decide +kernel) ?_
        exact ⟨⟨tq, htq, htqn _ (.head _)⟩, (by repeat (first | exact trivial | refine ⟨rfl, ?_⟩)), sA, sS⟩
      refine gball_not (by decide +kernel) ?_
      refine gball_not (by decide +kernel) ?_
      refine gball_not (by decide +kernel) ?_
      exact gball_end (by decide +kernel)
    refine gball_not (by decide +kernel) ?_
    refine gball_not (by decide +kernel) ?_
    refine gball_yes rfl rfl ?_ ?_
    · refine mv_yd rfl (yd_load_blk hT rfl rfl mE rfl rfl) ?_
      refine ⟨sF, ?_⟩
      refine gb_only 2 (by decide +kernel) rfl rfl ?_
      refine mv_yd rfl (yd_load_blk hT rfl rfl mE rfl rfl) ?_
      refine ⟨sF, ?_⟩
      refine gb_only 3 (by decide +kernel) rfl rfl ?_
      refine mv_call_rs (fun w hk => rof_any (⟨nv, ng, nb, F, ⟨vA, vm, vc⟩, [], ⟨gA, gm, gc⟩, [], ⟨bA, bm, bc⟩, B, kq, KK, ⟨tA, tm, tc⟩, []⟩ : CatD) 0 w hkq hcb hcB (by dsimp only; omega) (by dsimp only; omega) (fun b hb => Nat.le_trans (hF6 b hb) (by decide)) (hk.rR (φ := sl kq.A 1 (IE .u64) KK) mE) (hk.rR (φ := sl bA 3 BE B) mE) (hk.rR (φ := allF B BokD.f) mE)) rfl rfl rfl rfl rfl (by kernel_rfl) sS (fun _ => rfl) (fun pq hpq hpn => ?_)
      refine ⟨sF, ?_⟩
      refine gb_only 6 (by decide +kernel) rfl rfl ?_
      refine mv_call_rs (fun w hk => retS_cast hTT (rtkeep_any tA tm tc M pq.A pq.n pq.c (ofP KK (B.map BokD.d) 0) F w htn (by omega) hpq.n (by have h1 := hpq.n; have h2 := hof 0; dsimp only at h1; omega) (hk.rR (φ := sl tA 2 ME M) mE) (hk.rR (φ := sl pq.A 1 (IE .u64) (ofP KK (B.map BokD.d) 0)) mE))) rfl rfl rfl rfl rfl (by kernel_rfl) sS (fun _ => rfl) (fun tq htq htqn => ?_)
      refine ⟨sF, ?_⟩
      refine gb_take 7 rfl (by decide +kernel) rfl rfl (ys_ev (nw := true) hT rfl sI) sF ?_
      refine gb_only 8 (by decide +kernel) rfl rfl ?_
      first | (refine mv_box rfl rfl rfl rfl ?_; intro _) | (refine mv_alloc rfl hT rfl rfl ?_; intro _) | refine mv_store hT rfl rfl rfl rfl rfl rfl sO rfl ?_ | (refine mv_buildSlice rfl hT rfl rfl rfl rfl rfl rfl rfl rfl ?_; intro _)
      refine ⟨sF, ?_⟩
      refine gb_nil (by decide +kernel) ?_
      exact ⟨⟨tq, htq, htqn _ (.head _)⟩, (by repeat (first | exact trivial | refine ⟨rfl, ?_⟩)), sA, sS⟩
    refine gball_not (by decide +kernel) ?_
    refine gball_not (by decide +kernel) ?_
    refine gball_not (by decide +kernel) ?_
    exact gball_end (by decide +kernel)
  obtain ⟨tq, htq, htqn⟩ := tq
  dsimp only
  (repeat (refine gG ?_; try intro _))
  refine gk_own 0 99 3 VE ?_
  refine gk_der [] (φ := allF ([] : List VolD) VolD.f) der_nilV sS ?_
  refine gk_loop_sel (fun (q : Nat × (Option Addr) × Nat × (List VolD)) => match q with | (k, rA, rc, Q) => (RtI w V KK B F k Q)) (fun (q : Nat × (Option Addr) × Nat × (List VolD)) => match q with | (k, rA, rc, Q) => [(4, .pointer (some ⟨g4, 0, none⟩)), (8, .pointer (some ⟨g8, 0, none⟩)), (9, .pointer (some ⟨g9, 0, none⟩)), (10, .int .i64 (k : Int))]) (fun (q : Nat × (Option Addr) × Nat × (List VolD)) => match q with | (k, rA, rc, Q) => [blk g9 [.int .i64 nv, .int .i64 ng, .int .i64 nb, .int .u64 F, .slice rA Q.length rc, .slice gA gm gc, .slice bA bm bc, .slice kq.A kq.n kq.c, .slice tq.A tq.n tq.c] 67, blk g4 [.int .i64 nv, .int .i64 ng, .int .i64 nb, .int .u64 fl, .slice vA vm vc, .slice gA gm gc, .slice bA bm bc, .slice kA km kd, .slice tA tm tc] 67, blk g8 [.int .i64 0, .int .i64 0, .int .i64 0, .int .u64 0, .slice none 0 0, .slice none 0 0, .slice none 0 0, .slice none 0 0, .slice none 0 0] 67, own 0 99 3 (.slice rA Q.length rc) VE Q]) (fun (q : Nat × (Option Addr) × Nat × (List VolD)) => match q with | (k, rA, rc, Q) => [allF Q VolD.f, sl tq.A 2 ME TT, sl kq.A 1 (IE .u64) KK, sl vA 3 VE V, allF V VolD.f, sl bA 3 BE B, allF B BokD.f, catF (⟨nv, ng, nb, fl, ⟨vA, vm, vc⟩, V, ⟨gA, gm, gc⟩, G, ⟨bA, bm, bc⟩, B, ⟨kA, km, kd⟩, K, ⟨tA, tm, tc⟩, M⟩ : CatD)]) (fun (q : Nat × (Option Addr) × Nat × (List VolD)) => match q with | (k, rA, rc, Q) => vm - k) (0, none, 0, []) rfl .nil (by repeat (first | exact trivial | refine ⟨rfl, ?_⟩)) sA sS ?_
  rintro ⟨k, rA, rc, Q⟩ hI
  replace hI : (RtI w V KK B F k Q) := hI
  change GK _ _ [(4, .pointer (some ⟨g4, 0, none⟩)), (8, .pointer (some ⟨g8, 0, none⟩)), (9, .pointer (some ⟨g9, 0, none⟩)), (10, .int .i64 (k : Int))] [blk g9 [.int .i64 nv, .int .i64 ng, .int .i64 nb, .int .u64 F, .slice rA Q.length rc, .slice gA gm gc, .slice bA bm bc, .slice kq.A kq.n kq.c, .slice tq.A tq.n tq.c] 67, blk g4 [.int .i64 nv, .int .i64 ng, .int .i64 nb, .int .u64 fl, .slice vA vm vc, .slice gA gm gc, .slice bA bm bc, .slice kA km kd, .slice tA tm tc] 67, blk g8 [.int .i64 0, .int .i64 0, .int .i64 0, .int .u64 0, .slice none 0 0, .slice none 0 0, .slice none 0 0, .slice none 0 0, .slice none 0 0] 67, own 0 99 3 (.slice rA Q.length rc) VE Q] [allF Q VolD.f, sl tq.A 2 ME TT, sl kq.A 1 (IE .u64) KK, sl vA 3 VE V, allF V VolD.f, sl bA 3 BE B, allF B BokD.f, catF (⟨nv, ng, nb, fl, ⟨vA, vm, vc⟩, V, ⟨gA, gm, gc⟩, G, ⟨bA, bm, bc⟩, B, ⟨kA, km, kd⟩, K, ⟨tA, tm, tc⟩, M⟩ : CatD)]
  have hk1 := hI.le
  have hQl := hI.len
  by_cases hlt : k < vm
  · obtain ⟨z, hz⟩ : ∃ z, V[k]? = some z := ⟨V[k], List.getElem?_eq_getElem (by omega)⟩
    have hzm := List.mem_of_getElem? hz
    have hzn : z.s.n = z.L.length := (hcV z hzm).n
    have hz5 := hF5 z hzm
    have hoz := hof z.id
    have d1 : Der [allF V VolD.f] (sl z.s.A 2 ME z.L) := Der.elem (L := V) (F := VolD.f) (x := z) (.mem (.head _)) hzm
    refine gk_der [allF V VolD.f] d1 sS ?_
    refine gk_elem (A := vA) (enc := VE) (L := V) k mE (by omega) (by decide) (fun kb ko z' eA hz' => ?_)
    subst eA
    obtain rfl : z = z' := by rw [hz] at hz'; exact Option.some.inj hz'
    (repeat' (first | (refine gG ?_; try intro _) | ((first | refine g_split rfl rfl tE (fun _ => ?_) (fun _ => ?_) | refine gk_cond rfl rfl tE (fun _ => ?_) (fun _ => ?_)) <;> (try first | (exfalso; omega; done) | (rename_i hx; exact absurd rfl hx) | (rename_i hx; cases hx; done)))))
    rename_i g11
    refine gk_sel (f' := [(4, .pointer (some ⟨g4, 0, none⟩)), (8, .pointer (some ⟨g8, 0, none⟩)), (9, .pointer (some ⟨g9, 0, none⟩)), (10, .int .i64 (k : Int)), (11, .pointer (some ⟨g11, 0, none⟩))]) (O' := [blk g11 [.int .i64 z.id, .int .u64 z.q, .slice z.s.A z.s.n z.s.c] 99, blk g9 [.int .i64 nv, .int .i64 ng, .int .i64 nb, .int .u64 F, .slice rA Q.length rc, .slice gA gm gc, .slice bA bm bc, .slice kq.A kq.n kq.c, .slice tq.A tq.n tq.c] 67, blk g4 [.int .i64 nv, .int .i64 ng, .int .i64 nb, .int .u64 fl, .slice (some ⟨kb, ko, none⟩) vm vc, .slice gA gm gc, .slice bA bm bc, .slice kA km kd, .slice tA tm tc] 67, blk g8 [.int .i64 0, .int .i64 0, .int .i64 0, .int .u64 0, .slice none 0 0, .slice none 0 0, .slice none 0 0, .slice none 0 0, .slice none 0 0] 67, own 0 99 3 (.slice rA Q.length rc) VE Q]) (R' := [sl z.s.A 2 ME z.L, allF Q VolD.f, sl tq.A 2 ME TT, sl kq.A 1 (IE .u64) KK, sl (some ⟨kb, ko, none⟩) 3 VE V, allF V VolD.f, sl bA 3 BE B, allF B BokD.f, catF (⟨nv, ng, nb, fl, ⟨(some ⟨kb, ko, none⟩), vm, vc⟩, V, ⟨gA, gm, gc⟩, G, ⟨bA, bm, bc⟩, B, ⟨kA, km, kd⟩, K, ⟨tA, tm, tc⟩, M⟩ : CatD)]) (by repeat (first | exact trivial | refine ⟨rfl, ?_⟩)) sA sS ?_
    refine gk_any [1, 2, 3, 4, 5, 6, 7, 8, 9, 10, 11, 12] (Cut _ (fun sq : {q : SlV // q.Ok (skeepP (ofP KK (B.map BokD.d) z.id) F z.L).length ∧ New w [] (sl q.A 2 ME (skeepP (ofP KK (B.map BokD.d) z.id) F z.L))} => [(4, .pointer (some ⟨g4, 0, none⟩)), (8, .pointer (some ⟨g8, 0, none⟩)), (9, .pointer (some ⟨g9, 0, none⟩)), (10, .int .i64 (k : Int)), (11, .pointer (some ⟨g11, 0, none⟩))]) (fun sq => [blk g11 [.int .i64 z.id, .int .u64 z.q, .slice sq.1.A sq.1.n sq.1.c] 99, blk g9 [.int .i64 nv, .int .i64 ng, .int .i64 nb, .int .u64 F, .slice rA Q.length rc, .slice gA gm gc, .slice bA bm bc, .slice kq.A kq.n kq.c, .slice tq.A tq.n tq.c] 67, blk g4 [.int .i64 nv, .int .i64 ng, .int .i64 nb, .int .u64 fl, .slice (some ⟨kb, ko, none⟩) vm vc, .slice gA gm gc, .slice bA bm bc, .slice kA km kd, .slice tA tm tc] 67, blk g8 [.int .i64 0, .int .i64 0, .int .i64 0, .int .u64 0, .slice none 0 0, .slice none 0 0, .slice none 0 0, .slice none 0 0, .slice none 0 0] 67, own 0 99 3 (.slice rA Q.length rc) VE Q]) (fun sq => [sl sq.1.A 2 ME (skeepP (ofP KK (B.map BokD.d) z.id) F z.L), allF Q VolD.f, sl tq.A 2 ME TT, sl kq.A 1 (IE .u64) KK, sl (some ⟨kb, ko, none⟩) 3 VE V, allF V VolD.f, sl bA 3 BE B, allF B BokD.f, catF (⟨nv, ng, nb, fl, ⟨(some ⟨kb, ko, none⟩), vm, vc⟩, V, ⟨gA, gm, gc⟩, G, ⟨bA, bm, bc⟩, B, ⟨kA, km, kd⟩, K, ⟨tA, tm, tc⟩, M⟩ : CatD)])) rfl rfl (by kernel_rfl) ?_ (cut_k fun sq => ?_)
    · skip
      refine gb_take 0 rfl (by decide +kernel) rfl rfl (ys_ev (nw := true) hT rfl sI) sF ?_
      refine gb_take 2 rfl (by decide +kernel) rfl rfl (by first | exact ys_blk hT rfl rfl mE rfl rfl | exact ys_row hT rfl rfl mE rfl rfl | exact ys_row0 hT rfl rfl mE rfl rfl) sF ?_
      refine gb_take 3 rfl (by decide +kernel) rfl rfl (ys_ev (nw := true) hT rfl sI) sF ?_
      refine gb_take 6 rfl (by decide +kernel) rfl rfl (ys_ev (nw := true) hT rfl sI) sF ?_
      refine gb_take 7 rfl (by decide +kernel) rfl rfl (by first | exact ys_blk hT rfl rfl mE rfl rfl | exact ys_row hT rfl rfl mE rfl rfl | exact ys_row0 hT rfl rfl mE rfl rfl) sF ?_
      refine gb_all (by decide +kernel) ?_
      refine gball_not (by decide +kernel) ?_
      refine gball_yes rfl rfl ?_ ?_
      · refine mv_yd rfl (yd_load_blk hT rfl rfl mE rfl rfl) ?_
        refine ⟨sF, ?_⟩
        refine gb_only 4 (by decide +kernel) rfl rfl ?_
        refine mv_yd rfl (yd_load_blk hT rfl rfl mE rfl rfl) ?_
        refine ⟨sF, ?_⟩
        refine gb_only 5 (by decide +kernel) rfl rfl ?_
        refine mv_call_rs (fun w hk => rof_any (⟨nv, ng, nb, F, ⟨rA, Q.length, rc⟩, [], ⟨gA, gm, gc⟩, [], ⟨bA, bm, bc⟩, B, kq, KK, tq, []⟩ : CatD) z.id w hkq hcb hcB (by dsimp only; omega) (by dsimp only; omega) (fun b hb => Nat.le_trans (hF6 b hb) (by decide)) (hk.rR (φ := sl kq.A 1 (IE .u64) KK) mE) (hk.rR (φ := sl bA 3 BE B) mE) (hk.rR (φ := allF B BokD.f) mE)) rfl rfl rfl rfl rfl (by kernel_rfl) sS (fun _ => rfl) (fun pq hpq hpn => ?_)
        refine ⟨sF, ?_⟩
        refine gb_only 8 (by decide +kernel) rfl rfl ?_
        refine mv_call_rs (fun w hk => rskeep_any z.s.A z.s.n z.s.c z.L pq.A pq.n pq.c (ofP KK (B.map BokD.d) z.id) F w hzn (by omega) hpq.n (by have h1 := hpq.n; dsimp only at h1; omega) (hk.rR (φ := sl z.s.A 2 ME z.L) mE) (hk.rR (φ := sl pq.A 1 (IE .u64) (ofP KK (B.map BokD.d) z.id)) mE)) rfl rfl rfl rfl rfl (by kernel_rfl) sS (fun _ => rfl) (fun sq hsq hsqn => ?_)
        refine ⟨sF, ?_⟩
        refine gb_take 9 rfl (by decide +kernel) rfl rfl (ys_ev (nw := true) hT rfl sI) sF ?_
        refine gb_only 10 (by decide +kernel) rfl rfl ?_
        first | (refine mv_box rfl rfl rfl rfl ?_; intro _) | (refine mv_alloc rfl hT rfl rfl ?_; intro _) | refine mv_store hT rfl rfl rfl rfl rfl rfl sO rfl ?_ | (refine mv_buildSlice rfl hT rfl rfl rfl rfl rfl rfl rfl rfl ?_; intro _)
        refine ⟨sF, ?_⟩
        refine gb_nil (by decide +kernel) ?_
        exact ⟨⟨sq, hsq, hsqn _ (.head _)⟩, (by repeat (first | exact trivial | refine ⟨rfl, ?_⟩)), sA, sS⟩
      refine gball_not (by decide +kernel) ?_
      refine gball_not (by decide +kernel) ?_
      refine gball_yes rfl rfl ?_ ?_
      · refine mv_yd rfl (yd_load_blk hT rfl rfl mE rfl rfl) ?_
        refine ⟨sF, ?_⟩
        refine gb_all (by decide +kernel) ?_
        refine gball_not (by decide +kernel) ?_
        refine gball_yes rfl rfl ?_ ?_
        · refine mv_yd rfl (yd_load_blk hT rfl rfl mE rfl rfl) ?_
          refine ⟨sF, ?_⟩
          refine gb_only 5 (by decide +kernel) rfl rfl ?_
          refine mv_call_rs (fun w hk => rof_any (⟨nv, ng, nb, F, ⟨rA, Q.length, rc⟩, [], ⟨gA, gm, gc⟩, [], ⟨bA, bm, bc⟩, B, kq, KK, tq, []⟩ : CatD) z.id w hkq hcb hcB (by dsimp only; omega) (by dsimp only; omega) (fun b hb => Nat.le_trans (hF6 b hb) (by decide)) (hk.rR (φ := sl kq.A 1 (IE .u64) KK) mE) (hk.rR (φ := sl bA 3 BE B) mE) (hk.rR (φ := allF B BokD.f) mE)) rfl rfl rfl rfl rfl (by kernel_rfl) sS (fun _ => rfl) (fun pq hpq hpn => ?_)
          refine ⟨sF, ?_⟩
          refine gb_only 8 (by decide +kernel) rfl rfl ?_
          refine mv_call_rs (fun w hk => rskeep_any z.s.A z.s.n z.s.c z.L pq.A pq.n pq.c (ofP KK (B.map BokD.d) z.id) F w hzn (by omega) hpq.n (by have h1 := hpq.n; dsimp only at h1; omega) (hk.rR (φ := sl z.s.A 2 ME z.L) mE) (hk.rR (φ := sl pq.A 1 (IE .u64) (ofP KK (B.map BokD.d) z.id)) mE)) rfl rfl rfl rfl rfl (by kernel_rfl) sS (fun _ => rfl) (fun sq hsq hsqn => ?_)
          refine ⟨sF, ?_⟩
          refine gb_take 9 rfl (by decide +kernel) rfl rfl (ys_ev (nw := true) hT rfl sI) sF ?_
          refine gb_only 10 (by decide +kernel) rfl rfl ?_
          first | (refine mv_box rfl rfl rfl rfl ?_; intro _) | (refine mv_alloc rfl hT rfl rfl ?_; intro _) | refine mv_store hT rfl rfl rfl rfl rfl rfl sO rfl ?_ | (refine mv_buildSlice rfl hT rfl rfl rfl rfl rfl rfl rfl rfl ?_; intro _)
          refine ⟨sF, ?_⟩
          refine gb_nil (by decide +kernel) ?_
          exact ⟨⟨sq, hsq, hsqn _ (.head _)⟩, (by repeat (first | exact trivial | refine ⟨rfl, ?_⟩)), sA, sS⟩
        refine gball_not (by decide +kernel) ?_
        refine gball_not (by decide +kernel) ?_
        refine gball_not (by decide +kernel) ?_
        refine gball_yes rfl rfl ?_ ?_
        · refine mv_call_rs (fun w hk => rof_any (⟨nv, ng, nb, F, ⟨rA, Q.length, rc⟩, [], ⟨gA, gm, gc⟩, [], ⟨bA, bm, bc⟩, B, kq, KK, tq, []⟩ : CatD) z.id w hkq hcb hcB (by dsimp only; omega) (by dsimp only; omega) (fun b hb => Nat.le_trans (hF6 b hb) (by decide)) (hk.rR (φ := sl kq.A 1 (IE .u64) KK) mE) (hk.rR (φ := sl bA 3 BE B) mE) (hk.rR (φ := allF B BokD.f) mE)) rfl rfl rfl rfl rfl (by kernel_rfl) sS (fun _ => rfl) (fun pq hpq hpn => ?_)
          refine ⟨sF, ?_⟩
          refine gb_only 1 (by decide +kernel) rfl rfl ?_
          refine mv_yd rfl (yd_load_blk hT rfl rfl mE rfl rfl) ?_
          refine ⟨sF, ?_⟩
          refine gb_only 8 (by decide +kernel) rfl rfl ?_
          refine mv_call_rs (fun w hk => rskeep_any z.s.A z.s.n z.s.c z.L pq.A pq.n pq.c (ofP KK (B.map BokD.d) z.id) F w hzn (by omega) hpq.n (by have h1 := hpq.n; dsimp only at h1; omega) (hk.rR (φ := sl z.s.A 2 ME z.L) mE) (hk.rR (φ := sl pq.A 1 (IE .u64) (ofP KK (B.map BokD.d) z.id)) mE)) rfl rfl rfl rfl rfl (by kernel_rfl) sS (fun _ => rfl) (fun sq hsq hsqn => ?_)
          refine ⟨sF, ?_⟩
          refine gb_take 9 rfl (by decide +kernel) rfl rfl (ys_ev (nw := true) hT rfl sI) sF ?_
          refine gb_only 10 (by decide +kernel) rfl rfl ?_
          first | (refine mv_box rfl rfl rfl rfl ?_; intro _) | (refine mv_alloc rfl hT rfl rfl ?_; intro _) | refine mv_store hT rfl rfl rfl rfl rfl rfl sO rfl ?_ | (refine mv_buildSlice rfl hT rfl rfl rfl rfl rfl rfl rfl rfl ?_; intro _)
          refine ⟨sF, ?_⟩
          refine gb_nil (by decide +kernel) ?_
          exact ⟨⟨sq, hsq, hsqn _ (.head _)⟩, (by repeat (first | exact trivial | refine ⟨rfl, ?_⟩)), sA, sS⟩
        refine gball_not (by decide +kernel) ?_
        refine gball_not (by decide +kernel) ?_
        refine gball_not (by decide +kernel) ?_
        refine gball_not (by decide +kernel) ?_
        refine gball_not (by decide +kernel) ?_
        exact gball_end (by decide +kernel)
      refine gball_not (by decide +kernel) ?_
      refine gball_not (by decide +kernel) ?_
      refine gball_not (by decide +kernel) ?_
      refine gball_not (by decide +kernel) ?_
      refine gball_not (by decide +kernel) ?_
      refine gball_not (by decide +kernel) ?_
      exact gball_end (by decide +kernel)
    · obtain ⟨sq, hsq, hsqn⟩ := sq
      dsimp only
      have hst := hI.step hz (hcm z hzm) hsq hsqn
      (repeat (refine gG ?_; try intro _))
      refine g_mv rfl (mv_append (L := Q) rfl [(⟨z.id, z.q, sq, (skeepP (ofP KK (B.map BokD.d) z.id) F z.L)⟩ : VolD)] rfl rfl rfl rfl elt_V (by intro _; first | ((repeat (first | with_reducible exact Upd.here _ | with_reducible apply Upd.there)); done) | ((repeat (first | exact Upd.here _ | apply Upd.there)); done) | fail) (src_blk mE rfl) rfl oneV (by simp only [maxLen, List.length_append, List.length_cons, List.length_nil]; omega) (by simp only [List.length_append, List.length_cons, List.length_nil]; omega) (Nat.zero_le _) (fun v2 => ?_))
      refine g_ownv v2 mE (fun A2 c2 hv2 _ _ _ => ?_)
      subst hv2
      (repeat (refine gG ?_; try intro _))
      refine gk_der [allF Q VolD.f, sl sq.A 2 ME (skeepP (ofP KK (B.map BokD.d) z.id) F z.L)] (φ := allF (Q ++ [(⟨z.id, z.q, sq, (skeepP (ofP KK (B.map BokD.d) z.id) F z.L)⟩ : VolD)]) VolD.f) (der_snocV (Q := Q) (x := (⟨z.id, z.q, sq, (skeepP (ofP KK (B.map BokD.d) z.id) F z.L)⟩ : VolD))) sS ?_
      refine gk_say 10 (.int .i64 ((k + 1 : Nat) : Int)) rfl (by first | (congr 1; done) | (congr 1; omega)) ?_
      refine gk_again_sel rfl (k + 1, A2, c2, Q ++ [(⟨z.id, z.q, sq, (skeepP (ofP KK (B.map BokD.d) z.id) F z.L)⟩ : VolD)]) hst (by dsimp only; omega) (by repeat (first | exact trivial | refine ⟨rfl, ?_⟩)) sA sS
  · have hkk : k = V.length := by omega
    have hQe := hI.eq
    rw [hkk, List.take_length] at hQe
    (repeat' (first | (refine gG ?_; try intro _) | ((first | refine g_split rfl rfl tE (fun _ => ?_) (fun _ => ?_) | refine gk_cond rfl rfl tE (fun _ => ?_) (fun _ => ?_)) <;> (try first | (exfalso; omega; done) | (rename_i hx; exact absurd rfl hx) | (rename_i hx; cases hx; done)))))
    refine gk_freeze (.slice rA Q.length rc) (by intro _; first | ((repeat (first | with_reducible exact Upd.here _ | with_reducible apply Upd.there)); done) | ((repeat (first | exact Upd.here _ | apply Upd.there)); done) | fail) (fun V4 d4 hv hV1 hV2 hV3 => ?_)
    injection hv with e1 e2 e3
    subst e1
    subst e3
    refine gk_ret hT rfl rfl (.cell (cs := [.int .i64 nv, .int .i64 ng, .int .i64 nb, .int .u64 F, .slice rA Q.length rc, .slice gA gm gc, .slice bA bm bc, .slice kq.A kq.n kq.c, .slice tq.A tq.n tq.c]) (g := g8) (Tg := 67) rfl mE rfl rfl .nil) (fun w' hk => ?_)
    exact RetS.mk (⟨nv, ng, nb, F, ⟨rA, Q.length, rc⟩, Q, ⟨gA, gm, gc⟩, G, ⟨bA, bm, bc⟩, B, kq, KK, tq, TT⟩ : CatD) ⟨⟨⟨rfl, hV1, hV2, hV3⟩, hcg, hcb, hkq, htq, hI.ok, hcG, hcB, hI.nn, hc1, hc2, hc3⟩, hrp (⟨nv, ng, nb, F, ⟨rA, Q.length, rc⟩, Q, ⟨gA, gm, gc⟩, G, ⟨bA, bm, bc⟩, B, kq, KK, tq, TT⟩ : CatD) rfl rfl rfl rfl hQe rfl rfl rfl rfl⟩ rfl hk (.cons (catF_rs (RS1.own hk mE) (RS1.rd hk mE (New.mono hI.new)) (part_rs hk mE d_g) (part_rs hk mE d_G) (part_rs hk mE d_b) (part_rs hk mE d_B) (RS1.rd hk mE (New.mono (fun b hb => hkn _ (.head _) b hb))) (RS1.rd hk mE (New.mono htqn))) .nil)
end Go.Proofs.Ytgpfedmfbkhhcaa.Po

