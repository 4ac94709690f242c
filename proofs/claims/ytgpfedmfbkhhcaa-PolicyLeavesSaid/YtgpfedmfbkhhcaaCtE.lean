/- The reference's Find; Few, Fine. -/
import Derived.Test.YtgpfedmfbkhhcaaCtD
namespace Go.Proofs.Ytgpfedmfbkhhcaa.Ct
open Go.RowKit Mem Gx
set_option linter.unusedVariables false
set_option linter.unusedSimpArgs false
set_option maxRecDepth 100000
set_option maxHeartbeats 2000000
/-- A volume by its number; a volume of nothing. -/
def findV (L : List VolD) (id : Int) : VolD := match pos (L.map VolD.id) id with | some i => L.getD i default | none => default
theorem findV_at {L : List VolD} {id : Int} {i : Nat} {x : VolD} (hx : L[i]? = some x) (he : x.id = id) (hp : ∀ k, k < i → (L.map VolD.id)[k]? ≠ some id) : findV L id = x ∧ pos (L.map VolD.id) id = some i := by
  have h1 : pos (L.map VolD.id) id = some i := pos_at (by rw [List.getElem?_map, hx]; exact congrArg some he) hp
  refine ⟨?_, h1⟩
  unfold findV
  rw [h1]
  show L.getD i default = x
  rw [List.getD_eq_getElem?_getD, hx]
  rfl
theorem findV_no {L : List VolD} {id : Int} {n : Nat} (hn : L.length ≤ n) (hp : ∀ k, k < n → (L.map VolD.id)[k]? ≠ some id) : findV L id = default ∧ pos (L.map VolD.id) id = none := by
  have h1 : pos (L.map VolD.id) id = none := pos_none fun i hi => hp i (by rw [List.length_map] at hi; omega)
  refine ⟨?_, h1⟩
  unfold findV
  rw [h1]
theorem rfind_any (c : CatD) (id : Int) (w : World) (hc : c.Ok) (h : Rd1 w (catF c)) :
    Calls Try.prog 56 [c.val, .int .i64 id].toArray w fun e w' => e = .returned (.tuple #[(findV c.V id).val, .bool (pos (c.V.map VolD.id) id).isSome]) ∧ Below w.heap.size w w' := by
  obtain ⟨nv, ng, nb, fl, ⟨vA, vm, vc⟩, V, ⟨gA, gm, gc⟩, G, ⟨bA, bm, bc⟩, B, ⟨kA, km, kd⟩, K, ⟨tA, tm, tc⟩, M⟩ := c
  have hn : vm = V.length := hc.v.n
  have hcc : vm ≤ vc := hc.v.c
  have hmx : vc ≤ maxLen := hc.v.mx
  unfold maxLen at hmx
  dsimp only [CatD.val]
  refine g_enter0 T [] [] [catF (⟨nv, ng, nb, fl, ⟨vA, vm, vc⟩, V, ⟨gA, gm, gc⟩, G, ⟨bA, bm, bc⟩, B, ⟨kA, km, kd⟩, K, ⟨tA, tm, tc⟩, M⟩ : CatD)] Try.func56 rfl Try.ntmps56 rfl (Rds.cons h .nil).kn ?_
  refine gk_der [catF (⟨nv, ng, nb, fl, ⟨vA, vm, vc⟩, V, ⟨gA, gm, gc⟩, G, ⟨bA, bm, bc⟩, B, ⟨kA, km, kd⟩, K, ⟨tA, tm, tc⟩, M⟩ : CatD)] (φ := sl vA 3 VE V) d_v sS ?_
  (repeat (refine gG ?_; try intro _))
  rename_i g2 g4
  refine gk_loop_sel (fun (q : Nat × Nat) => match q with | (k, u) => (k ≤ vm ∧ ∀ i, i < k → (V.map VolD.id)[i]? ≠ some id)) (fun (q : Nat × Nat) => match q with | (k, u) => [(1, .int .i64 id), (2, .pointer (some ⟨g2, 0, none⟩)), (4, .pointer (some ⟨g4, 0, none⟩)), (5, .bool false), (6, .int .i64 k)]) (fun (q : Nat × Nat) => match q with | (k, u) => [blk g4 [.int .i64 0, .int .u64 0, .slice none 0 0] 99, blk g2 [.int .i64 nv, .int .i64 ng, .int .i64 nb, .int .u64 fl, .slice vA vm vc, .slice gA gm gc, .slice bA bm bc, .slice kA km kd, .slice tA tm tc] 67]) (fun (q : Nat × Nat) => match q with | (k, u) => [sl vA 3 VE V]) (fun (q : Nat × Nat) => match q with | (k, u) => vm - k) (0, 0) rfl ⟨Nat.zero_le _, fun i hi => absurd hi (Nat.not_lt_zero _)⟩ (by repeat (first | exact trivial | refine ⟨rfl, ?_⟩)) sA sS ?_
  rintro ⟨k, u⟩ hI
  replace hI : (k ≤ vm ∧ ∀ i, i < k → (V.map VolD.id)[i]? ≠ some id) := hI
  change GK _ _ [(1, .int .i64 id), (2, .pointer (some ⟨g2, 0, none⟩)), (4, .pointer (some ⟨g4, 0, none⟩)), (5, .bool false), (6, .int .i64 k)] [blk g4 [.int .i64 0, .int .u64 0, .slice none 0 0] 99, blk g2 [.int .i64 nv, .int .i64 ng, .int .i64 nb, .int .u64 fl, .slice vA vm vc, .slice gA gm gc, .slice bA bm bc, .slice kA km kd, .slice tA tm tc] 67] [sl vA 3 VE V]
  obtain ⟨hk1, hp⟩ := hI
  by_cases hlt : k < vm
  · obtain ⟨x, hx⟩ : ∃ x, V[k]? = some x := ⟨V[k], List.getElem?_eq_getElem (by omega)⟩
    refine gk_elem (enc := VE) (L := V) k mE (by omega) (by decide) (fun b o y eA hy => ?_)
    subst eA
    obtain rfl : x = y := by rw [hx] at hy; exact Option.some.inj hy
    (repeat (refine gG ?_; try intro _))
    refine gk_cond rfl rfl (tells_tB _) (fun _ => ?_) (fun h => absurd (by omega) h)
    (repeat (refine gG ?_; try intro _))
    refine gk_cond rfl rfl (tells_tB _) (fun he => ?_) (fun he => ?_)
    · (repeat (refine gG ?_; try intro _))
      refine gk_ret hT rfl rfl (.cell rfl mE rfl rfl (.tmp rfl .nil)) (fun w' hk => ?_)
      obtain ⟨e1, e2⟩ := findV_at hx he hp
      refine ⟨?_, hk.toBelow⟩
      show _ = Ending.returned (.tuple #[(findV V id).val, .bool (pos (V.map VolD.id) id).isSome])
      rw [e1, e2]
      rfl
    · (repeat (refine gG ?_; try intro _))
      refine gk_again_sel rfl (k + 1, u) ⟨by omega, fun i hi => by
        by_cases e : i = k
        · subst e; rw [List.getElem?_map, hx]; exact fun h => he (Option.some.inj h)
        · exact hp i (by omega)⟩ (by dsimp only; omega) (by repeat (first | exact trivial | refine ⟨rfl, ?_⟩)) sA sS
  · (repeat' (first | (refine gG ?_; try intro _) | ((first | refine g_split rfl rfl tE (fun _ => ?_) (fun _ => ?_) | refine gk_cond rfl rfl tE (fun _ => ?_) (fun _ => ?_)) <;> (try first | (exfalso; omega; done) | (rename_i hx; exact absurd rfl hx) | (rename_i hx; cases hx; done)))))
    refine gk_ret hT rfl rfl (.cell rfl mE rfl rfl (.tmp rfl .nil)) (fun w' hk => ?_)
    obtain ⟨e1, e2⟩ := findV_no (L := V) (id := id) (n := k) (by omega) hp
    refine ⟨?_, hk.toBelow⟩
    show _ = Ending.returned (.tuple #[(findV V id).val, .bool (pos (V.map VolD.id) id).isSome])
    rw [e1, e2]
    rfl
structure FewP (V : List VolD) (G : List GrpD) (B : List BokD) (K : List Int) (M : List MarkD) : Prop where
  v : V.length ≤ 20
  g : G.length ≤ 20
  b : B.length ≤ 20
  k : K.length ≤ 100
  t : M.length ≤ 100
  V : ∀ (i : Nat) (x : VolD), V[i]? = some x → x.L.length ≤ 40 ∧ 1 ≤ x.id
  G : ∀ (i : Nat) (x : GrpD), G[i]? = some x → x.L.length ≤ 30
  B : ∀ (i : Nat) (x : BokD), B[i]? = some x → x.L.length ≤ 30
theorem few_any (c : CatD) (w : World) (hc : c.Ok) (h : Rd1 w (catF c)) :
    Calls Try.prog 17 [c.val].toArray w fun e w' => e = .returned (.bool (tB (FewP c.V c.G c.B c.K c.T))) ∧ Below w.heap.size w w' := by
  obtain ⟨nv, ng, nb, fl, ⟨vA, vm, vc⟩, V, ⟨gA, gm, gc⟩, G, ⟨bA, bm, bc⟩, B, ⟨kA, km, kd⟩, K, ⟨tA, tm, tc⟩, M⟩ := c
  have hn : vm = V.length := hc.v.n
  have hn2 : gm = G.length := hc.g.n
  have hn3 : bm = B.length := hc.b.n
  have hn4 : km = K.length := hc.k.n
  have hn5 : tm = M.length := hc.t.n
  dsimp only [CatD.val]
  refine g_enter0 T [] [] [catF (⟨nv, ng, nb, fl, ⟨vA, vm, vc⟩, V, ⟨gA, gm, gc⟩, G, ⟨bA, bm, bc⟩, B, ⟨kA, km, kd⟩, K, ⟨tA, tm, tc⟩, M⟩ : CatD)] Try.func17 rfl Try.ntmps17 rfl (Rds.cons h .nil).kn ?_
  refine gk_der [catF (⟨nv, ng, nb, fl, ⟨vA, vm, vc⟩, V, ⟨gA, gm, gc⟩, G, ⟨bA, bm, bc⟩, B, ⟨kA, km, kd⟩, K, ⟨tA, tm, tc⟩, M⟩ : CatD)] (φ := sl vA 3 VE V) d_v sS ?_
  refine gk_der [catF (⟨nv, ng, nb, fl, ⟨vA, vm, vc⟩, V, ⟨gA, gm, gc⟩, G, ⟨bA, bm, bc⟩, B, ⟨kA, km, kd⟩, K, ⟨tA, tm, tc⟩, M⟩ : CatD)] (φ := sl gA 2 GE G) d_g sS ?_
  refine gk_der [catF (⟨nv, ng, nb, fl, ⟨vA, vm, vc⟩, V, ⟨gA, gm, gc⟩, G, ⟨bA, bm, bc⟩, B, ⟨kA, km, kd⟩, K, ⟨tA, tm, tc⟩, M⟩ : CatD)] (φ := sl bA 3 BE B) d_b sS ?_
  by_cases hs : vm ≤ 20 ∧ gm ≤ 20 ∧ bm ≤ 20 ∧ km ≤ 100 ∧ tm ≤ 100
  · obtain ⟨z1, z2, z3, z4, z5⟩ := hs
    (repeat' (first | (refine gG ?_; try intro _) | ((first | refine g_split rfl rfl tE (fun _ => ?_) (fun _ => ?_) | refine gk_cond rfl rfl tE (fun _ => ?_) (fun _ => ?_)) <;> (try first | (exfalso; omega; done) | (rename_i hx; exact absurd rfl hx) | (rename_i hx; cases hx; done)))))
    rename_i g1 _ _ _ _ _
    refine gk_loop_sel (fun (q : Nat × Nat) => match q with | (k, u) => (k ≤ vm ∧ ∀ (i : Nat) (x : VolD), i < k → V[i]? = some x → x.L.length ≤ 40 ∧ 1 ≤ x.id)) (fun (q : Nat × Nat) => match q with | (k, u) => [(1, .pointer (some ⟨g1, 0, none⟩)), (3, .int .i64 k)]) (fun (q : Nat × Nat) => match q with | (k, u) => [blk g1 [.int .i64 nv, .int .i64 ng, .int .i64 nb, .int .u64 fl, .slice vA vm vc, .slice gA gm gc, .slice bA bm bc, .slice kA km kd, .slice tA tm tc] 67]) (fun (q : Nat × Nat) => match q with | (k, u) => [sl vA 3 VE V, sl gA 2 GE G, sl bA 3 BE B]) (fun (q : Nat × Nat) => match q with | (k, u) => vm - k) (0, 0) rfl ⟨Nat.zero_le _, fun i x hi => absurd hi (Nat.not_lt_zero _)⟩ (by repeat (first | exact trivial | refine ⟨rfl, ?_⟩)) sA sS ?_
    rintro ⟨k, u⟩ hI
    replace hI : (k ≤ vm ∧ ∀ (i : Nat) (x : VolD), i < k → V[i]? = some x → x.L.length ≤ 40 ∧ 1 ≤ x.id) := hI
    change GK _ _ [(1, .pointer (some ⟨g1, 0, none⟩)), (3, .int .i64 k)] [blk g1 [.int .i64 nv, .int .i64 ng, .int .i64 nb, .int .u64 fl, .slice vA vm vc, .slice gA gm gc, .slice bA bm bc, .slice kA km kd, .slice tA tm tc] 67] [sl vA 3 VE V, sl gA 2 GE G, sl bA 3 BE B]
    obtain ⟨hk1, hp⟩ := hI
    by_cases hlt : k < vm
    · obtain ⟨x, hx⟩ : ∃ x, V[k]? = some x := ⟨V[k], List.getElem?_eq_getElem (by omega)⟩
      have hxs : x.s.n = x.L.length := (hc.V x (List.mem_of_getElem? hx)).n
      refine gk_elem (enc := VE) (L := V) k mE (by omega) (by decide) (fun b o y eA hy => ?_)
      subst eA
      obtain rfl : x = y := by rw [hx] at hy; exact Option.some.inj hy
      by_cases hq : x.L.length ≤ 40 ∧ 1 ≤ x.id
      · obtain ⟨q1, q2⟩ := hq
        (repeat' (first | (refine gG ?_; try intro _) | ((first | refine g_split rfl rfl tE (fun _ => ?_) (fun _ => ?_) | refine gk_cond rfl rfl tE (fun _ => ?_) (fun _ => ?_)) <;> (try first | (exfalso; omega; done) | (rename_i hx; exact absurd rfl hx) | (rename_i hx; cases hx; done)))))
        refine gk_again_sel rfl (k + 1, u) ⟨by omega, fun i y hi hz => by
          by_cases e : i = k
          · subst e; rw [hx] at hz; obtain rfl := Option.some.inj hz; exact ⟨q1, q2⟩
          · exact hp i y (by omega) hz⟩ (by dsimp only; omega) (by repeat (first | exact trivial | refine ⟨rfl, ?_⟩)) sA sS
      · (repeat' (first | (refine gG ?_; try intro _) | ((first | refine g_split rfl rfl tE (fun _ => ?_) (fun _ => ?_) | refine gk_cond rfl rfl tE (fun _ => ?_) (fun _ => ?_)) <;> (try first | (exfalso; omega; done) | (rename_i hx; exact absurd rfl hx) | (rename_i hx; cases hx; done)))))
        all_goals refine gk_ret hT rfl rfl (.tmp rfl .nil) (fun w' hk => ?_)
        all_goals exact ⟨ret_bool (by rw [tB_false (fun h => hq (h.V k x hx))]), hk.toBelow⟩
    · (repeat' (first | (refine gG ?_; try intro _) | ((first | refine g_split rfl rfl tE (fun _ => ?_) (fun _ => ?_) | refine gk_cond rfl rfl tE (fun _ => ?_) (fun _ => ?_)) <;> (try first | (exfalso; omega; done) | (rename_i hx; exact absurd rfl hx) | (rename_i hx; cases hx; done)))))
      refine gk_loop_sel (fun (q : Nat × Nat) => match q with | (j, u) => (j ≤ gm ∧ ∀ (i : Nat) (x : GrpD), i < j → G[i]? = some x → x.L.length ≤ 30)) (fun (q : Nat × Nat) => match q with | (j, u) => [(1, .pointer (some ⟨g1, 0, none⟩)), (4, .int .i64 j)]) (fun (q : Nat × Nat) => match q with | (j, u) => [blk g1 [.int .i64 nv, .int .i64 ng, .int .i64 nb, .int .u64 fl, .slice vA vm vc, .slice gA gm gc, .slice bA bm bc, .slice kA km kd, .slice tA tm tc] 67]) (fun (q : Nat × Nat) => match q with | (j, u) => [sl vA 3 VE V, sl gA 2 GE G, sl bA 3 BE B]) (fun (q : Nat × Nat) => match q with | (j, u) => gm - j) (0, 0) rfl ⟨Nat.zero_le _, fun i x hi => absurd hi (Nat.not_lt_zero _)⟩ (by repeat (first | exact trivial | refine ⟨rfl, ?_⟩)) sA sS ?_
      rintro ⟨j, u⟩ hI
      replace hI : (j ≤ gm ∧ ∀ (i : Nat) (x : GrpD), i < j → G[i]? = some x → x.L.length ≤ 30) := hI
      change GK _ _ [(1, .pointer (some ⟨g1, 0, none⟩)), (4, .int .i64 j)] [blk g1 [.int .i64 nv, .int .i64 ng, .int .i64 nb, .int .u64 fl, .slice vA vm vc, .slice gA gm gc, .slice bA bm bc, .slice kA km kd, .slice tA tm tc] 67] [sl vA 3 VE V, sl gA 2 GE G, sl bA 3 BE B]
      obtain ⟨hj1, hpj⟩ := hI
      by_cases hlt2 : j < gm
      · obtain ⟨x, hx⟩ : ∃ x, G[j]? = some x := ⟨G[j], List.getElem?_eq_getElem (by omega)⟩
        have hxs : x.s.n = x.L.length := (hc.G x (List.mem_of_getElem? hx)).n
        refine gk_elem (enc := GE) (L := G) j mE (by omega) (by decide) (fun b o y eA hy => ?_)
        subst eA
        obtain rfl : x = y := by rw [hx] at hy; exact Option.some.inj hy
        by_cases hq : x.L.length ≤ 30
        · (repeat' (first | (refine gG ?_; try intro _) | ((first | refine g_split rfl rfl tE (fun _ => ?_) (fun _ => ?_) | refine gk_cond rfl rfl tE (fun _ => ?_) (fun _ => ?_)) <;> (try first | (exfalso; omega; done) | (rename_i hx; exact absurd rfl hx) | (rename_i hx; cases hx; done)))))
          refine gk_again_sel rfl (j + 1, u) ⟨by omega, fun i y hi hz => by
            by_cases e : i = j
            · subst e; rw [hx] at hz; obtain rfl := Option.some.inj hz; exact hq
            · exact hpj i y (by omega) hz⟩ (by dsimp only; omega) (by repeat (first | exact trivial | refine ⟨rfl, ?_⟩)) sA sS
        · (repeat' (first | (refine gG ?_; try intro _) | ((first | refine g_split rfl rfl tE (fun _ => ?_) (fun _ => ?_) | refine gk_cond rfl rfl tE (fun _ => ?_) (fun _ => ?_)) <;> (try first | (exfalso; omega; done) | (rename_i hx; exact absurd rfl hx) | (rename_i hx; cases hx; done)))))
          all_goals refine gk_ret hT rfl rfl (.tmp rfl .nil) (fun w' hk => ?_)
          all_goals exact ⟨ret_bool (by rw [tB_false (fun h => hq (h.G j x hx))]), hk.toBelow⟩
      · (repeat' (first | (refine gG ?_; try intro _) | ((first | refine g_split rfl rfl tE (fun _ => ?_) (fun _ => ?_) | refine gk_cond rfl rfl tE (fun _ => ?_) (fun _ => ?_)) <;> (try first | (exfalso; omega; done) | (rename_i hx; exact absurd rfl hx) | (rename_i hx; cases hx; done)))))
        refine gk_loop_sel (fun (q : Nat × Nat) => match q with | (l, u) => (l ≤ bm ∧ ∀ (i : Nat) (x : BokD), i < l → B[i]? = some x → x.L.length ≤ 30)) (fun (q : Nat × Nat) => match q with | (l, u) => [(1, .pointer (some ⟨g1, 0, none⟩)), (5, .int .i64 l)]) (fun (q : Nat × Nat) => match q with | (l, u) => [blk g1 [.int .i64 nv, .int .i64 ng, .int .i64 nb, .int .u64 fl, .slice vA vm vc, .slice gA gm gc, .slice bA bm bc, .slice kA km kd, .slice tA tm tc] 67]) (fun (q : Nat × Nat) => match q with | (l, u) => [sl vA 3 VE V, sl gA 2 GE G, sl bA 3 BE B]) (fun (q : Nat × Nat) => match q with | (l, u) => bm - l) (0, 0) rfl ⟨Nat.zero_le _, fun i x hi => absurd hi (Nat.not_lt_zero _)⟩ (by repeat (first | exact trivial | refine ⟨rfl, ?_⟩)) sA sS ?_
        rintro ⟨l, u⟩ hI
        replace hI : (l ≤ bm ∧ ∀ (i : Nat) (x : BokD), i < l → B[i]? = some x → x.L.length ≤ 30) := hI
        change GK _ _ [(1, .pointer (some ⟨g1, 0, none⟩)), (5, .int .i64 l)] [blk g1 [.int .i64 nv, .int .i64 ng, .int .i64 nb, .int .u64 fl, .slice vA vm vc, .slice gA gm gc, .slice bA bm bc, .slice kA km kd, .slice tA tm tc] 67] [sl vA 3 VE V, sl gA 2 GE G, sl bA 3 BE B]
        obtain ⟨hl1, hpl⟩ := hI
        by_cases hlt3 : l < bm
        · obtain ⟨x, hx⟩ : ∃ x, B[l]? = some x := ⟨B[l], List.getElem?_eq_getElem (by omega)⟩
          have hxs : x.s.n = x.L.length := (hc.B x (List.mem_of_getElem? hx)).n
          refine gk_elem (enc := BE) (L := B) l mE (by omega) (by decide) (fun b o y eA hy => ?_)
          subst eA
          obtain rfl : x = y := by rw [hx] at hy; exact Option.some.inj hy
          by_cases hq : x.L.length ≤ 30
          · (repeat' (first | (refine gG ?_; try intro _) | ((first | refine g_split rfl rfl tE (fun _ => ?_) (fun _ => ?_) | refine gk_cond rfl rfl tE (fun _ => ?_) (fun _ => ?_)) <;> (try first | (exfalso; omega; done) | (rename_i hx; exact absurd rfl hx) | (rename_i hx; cases hx; done)))))
            refine gk_again_sel rfl (l + 1, u) ⟨by omega, fun i y hi hz => by
              by_cases e : i = l
              · subst e; rw [hx] at hz; obtain rfl := Option.some.inj hz; exact hq
              · exact hpl i y (by omega) hz⟩ (by dsimp only; omega) (by repeat (first | exact trivial | refine ⟨rfl, ?_⟩)) sA sS
          · (repeat' (first | (refine gG ?_; try intro _) | ((first | refine g_split rfl rfl tE (fun _ => ?_) (fun _ => ?_) | refine gk_cond rfl rfl tE (fun _ => ?_) (fun _ => ?_)) <;> (try first | (exfalso; omega; done) | (rename_i hx; exact absurd rfl hx) | (rename_i hx; cases hx; done)))))
            all_goals refine gk_ret hT rfl rfl (.tmp rfl .nil) (fun w' hk => ?_)
            all_goals exact ⟨ret_bool (by rw [tB_false (fun h => hq (h.B l x hx))]), hk.toBelow⟩
        · (repeat' (first | (refine gG ?_; try intro _) | ((first | refine g_split rfl rfl tE (fun _ => ?_) (fun _ => ?_) | refine gk_cond rfl rfl tE (fun _ => ?_) (fun _ => ?_)) <;> (try first | (exfalso; omega; done) | (rename_i hx; exact absurd rfl hx) | (rename_i hx; cases hx; done)))))
          refine gk_ret hT rfl rfl (.tmp rfl .nil) (fun w' hk => ?_)
          have hf : FewP V G B K M := ⟨by omega, by omega, by omega, by omega, by omega, fun i x hx => hp i x (by have := (List.getElem?_eq_some_iff.1 hx).1; omega) hx, fun i x hx => hpj i x (by have := (List.getElem?_eq_some_iff.1 hx).1; omega) hx, fun i x hx => hpl i x (by have := (List.getElem?_eq_some_iff.1 hx).1; omega) hx⟩
          exact ⟨ret_bool (by rw [tB_true hf]), hk.toBelow⟩
  · (repeat' (first | (refine gG ?_; try intro _) | ((first | refine g_split rfl rfl tE (fun _ => ?_) (fun _ => ?_) | refine gk_cond rfl rfl tE (fun _ => ?_) (fun _ => ?_)) <;> (try first | (exfalso; omega; done) | (rename_i hx; exact absurd rfl hx) | (rename_i hx; cases hx; done)))))
    all_goals refine gk_ret hT rfl rfl (.tmp rfl .nil) (fun w' hk => ?_)
    all_goals exact ⟨ret_bool (by rw [tB_false (fun h => hs ⟨by have := h.v; omega, by have := h.g; omega, by have := h.b; omega, by have := h.k; omega, by have := h.t; omega⟩)]), hk.toBelow⟩
end Go.Proofs.Ytgpfedmfbkhhcaa.Ct

