/- What the walk of StoreLoads calls: a clone of entries that is one's own; store.Load of a root above two leaves, good or bad. -/
import Derived.Test.YtaghmffgoomebaaGreatStJ
import Derived.Test.YtaghmffgoomebaaGreatStG
import Derived.Test.YtaghmffgoomebaaGreatNd6
namespace Go.Proofs.YtaghmffgoomebaaGreat.St
open Go.RowKit Mem Gx Bytes Dk Al Rf Hp Nd Ch
set_option linter.unusedVariables false
set_option linter.unusedSimpArgs false
set_option maxRecDepth 100000
set_option maxHeartbeats 4000000
theorem cloneEs_own (A : Option Addr) (n c : Nat) (L : List EntD) (w : World) (hn : n = L.length) (hb : n ≤ 100000000) (hs : Sl w A 4 EE L) :
    Calls Tryz.prog 6 [.slice A n c].toArray w (Ret (fun _ : Value => True) (fun v => v) (fun v => [own 0 31 4 v EE L]) w) := by
  rcases A with _ | a
  · have hL : L = [] := by
      rcases Nat.eq_zero_or_pos L.length with h | h
      · exact List.length_eq_zero_iff.1 h
      · obtain ⟨b, off, e, _⟩ := hs h; cases e
    subst hL
    refine g_enter0 T [] [] [] Tryz.func6 rfl Tryz.ntmps6 rfl (Kn.start _) ?_
    (repeat (refine gG ?_; try intro _))
    refine gk_own 0 31 4 EE ?_
    refine gk_ret hT rfl rfl (.tmp rfl .nil) (fun w' hk => ?_)
    exact Ret.mk (.slice none 0 0) trivial rfl hk sA
  · refine g_enter0 T [] [] [sl (some a) 4 EE L] Tryz.func6 rfl Tryz.ntmps6 rfl ((Kn.start w).argR hs (by decide) (fun _ h => by cases h)) ?_
    (repeat (refine gG1 ?_; try intro _))
    refine g_mv rfl (mv_empty 4 EE rfl hT rfl rfl rfl rfl rfl (fun g => ?_))
    (repeat (refine gG1 ?_; try intro _))
    refine g_mv rfl (mv_append (L := []) rfl L rfl rfl rfl rfl Nd.elt_E uD (src_R mE) hn (by intro x j; match j with | 0 => rfl | 1 => rfl | 2 => rfl | _ + 3 => rfl) (by simp [maxLen]; omega) (by simp; omega) (Nat.zero_le _) (fun v => ?_))
    (repeat (refine gG1 ?_; try intro _))
    refine gk_ret hT rfl rfl (.tmp rfl .nil) (fun w' hk => ?_)
    exact Ret.mk v trivial rfl hk sA
theorem pow_le : ∀ (m n : Nat), m ≤ n → (256 : Int) ^ m ≤ 256 ^ n
  | m, n, h => by
    obtain ⟨d, rfl⟩ := Nat.le.dest h
    clear h
    induction d with
    | zero => exact Int.le_refl _
    | succ d ih =>
      have h2 : (0 : Int) ≤ 256 ^ (m + d) := Int.pow_nonneg (by decide)
      rw [show m + (d + 1) = (m + d) + 1 from rfl, Int.pow_succ]
      omega
/-- Load of a root above two leaves: what check.Tree says. -/
theorem load_two (g : Nat) (sv lv : Value) (S : List SecD) (W : List WrD) (w : World) (e1 e2 : EntD) (L1 L2 : List EntD) (hD : DkOk S W) (hW : W.length ≤ 100000) (hSl : S.length = 100) (P3 : PgOf 4 [e1, e2] (dread (S.map SecD.L) (W.map WrD.c) (3 + 4 + 1))) (P1 : PgOf 3 L1 (dread (S.map SecD.L) (W.map WrD.c) (1 + 4 + 1))) (P2 : PgOf 3 L2 (dread (S.map SecD.L) (W.map WrD.c) (2 + 4 + 1)))
    (he1 : e1.a = ((1 : Nat) : Int)) (he2 : e2.a = ((2 : Nat) : Int)) (h1 : L1.length ≤ 6) (h2 : L2.length ≤ 6) (b1 : ∀ e ∈ L1, e.k.Bd) (b2 : ∀ e ∈ L2, e.k.Bd) (hdk : Rd1 w (dkF g ⟨sv, lv, S, W⟩)) :
    Calls Tryz.prog 11 [.int .u32 (3 : Nat), .agg #[.pointer (some ⟨g, 0, none⟩), .int .i64 ((4 : Nat) : Int)]].toArray w (Ret (fun q : Nat × Value × Option Addr × Nat => (∃ a, q.2.1 = .pointer a) ∧ (SlV.mk q.2.2.1 3 q.2.2.2).Ok 3) (fun q => if Ck.wrongP [L1, L2] [e1.k, e2.k] ((L1.length : Int) + (L2.length : Int)) = 0 then .tuple #[.pointer (some ⟨q.1, 0, none⟩), .slice q.2.2.1 3 q.2.2.2, .int .i64 0] else .tuple #[.pointer none, .slice none 0 0, .int .i64 21]) (fun q => [blk q.1 [q.2.1, .int .i64 ((L1.length : Int) + (L2.length : Int))] 55, sl q.2.2.1 1 (IE .u32) [((1 : Nat) : Int), ((2 : Nat) : Int), ((3 : Nat) : Int)]]) w) := by
  refine load_tree g 3 1 2 (Ck.wrongP [L1, L2] [e1.k, e2.k] ((L1.length : Int) + (L2.length : Int))) [e1, e2] L1 L2 sv lv S W w (by decide) (fun lb s' w hU hl hn hM hdk hdis h => ?_) (fun t s' x w hx ht hF => ck_two 3 1 2 t s' x e1 e2 L1 L2 w hx h1 h2 b1 b2 ht hF) hdk
  have key := lload_root lb g 3 1 2 16 s' e1 e2 sv lv S W w hM (by rw [hU]; decide) (by decide) (by rw [hl]; decide) (by rw [hn]; decide) (by decide) (by omega) hD hW P3.ok P3.c (by rw [P3.k]; decide) P3.e he1 he2 (by rw [hU]; decide) (by rw [hU]; decide) (by decide) (by omega) (by decide) (by omega) P1.ok P1.c P1.k P2.ok P2.c P2.k hdk hdis h
  rw [P1.e, P2.e] at key
  exact key
/-- Load of such a root whose second leaf's sector is no leaf. -/
theorem load_spoil (g : Nat) (sv lv : Value) (S : List SecD) (W : List WrD) (e1 e2 : EntD) (L1 : List EntD) (hD : DkOk S W) (hW : W.length ≤ 100000) (hSl : S.length = 100) (P3 : PgOf 4 [e1, e2] (dread (S.map SecD.L) (W.map WrD.c) (3 + 4 + 1))) (P1 : PgOf 3 L1 (dread (S.map SecD.L) (W.map WrD.c) (1 + 4 + 1))) (he1 : e1.a = ((1 : Nat) : Int)) (he2 : e2.a = ((2 : Nat) : Int))
    (hX : SecOk (dread (S.map SecD.L) (W.map WrD.c) (2 + 4 + 1))) (hz : ∀ a : Nat, 4 ≤ a → a ≤ 94 → dread (S.map SecD.L) (W.map WrD.c) (a + 4 + 1) = zsec) (hnl : ¬ (ncode (dread (S.map SecD.L) (W.map WrD.c) (2 + 4 + 1)) = 0 ∧ (Page.getS (dread (S.map SecD.L) (W.map WrD.c) (2 + 4 + 1))).1 = 3)) :
    ∃ er : Int, er ≠ 0 ∧ (ncode (dread (S.map SecD.L) (W.map WrD.c) (2 + 4 + 1)) ≠ 0 → er = ncode (dread (S.map SecD.L) (W.map WrD.c) (2 + 4 + 1))) ∧ ∀ w : World, Rd1 w (dkF g ⟨sv, lv, S, W⟩) → Calls Tryz.prog 11 [.int .u32 (3 : Nat), .agg #[.pointer (some ⟨g, 0, none⟩), .int .i64 ((4 : Nat) : Int)]].toArray w fun e w' => e = .returned (.tuple #[.pointer none, .slice none 0 0, .int .i64 er]) ∧ Below w.heap.size w w' := by
  obtain ⟨er, k1, k2, k3⟩ := lload_spoilt g sv lv S W hD hW hSl hX hz hnl
  refine ⟨er, k1, k2, fun w hdk => load_bad g 3 er sv lv S W w (by decide) k1 (fun lb s' w hU hl hn hM hdk hdis h => ?_) hdk⟩
  exact lload_root_bad lb g 3 1 2 16 er s' e1 e2 sv lv S W w hM (by rw [hU]; decide) (by decide) (by rw [hl]; decide) (by rw [hn]; decide) (by decide) (by omega) hD hW P3.ok P3.c (by rw [P3.k]; decide) P3.e he1 he2 (by rw [hU]; decide) k1
    (fun s2 w2 hU2 hM2 hdk2 hdis2 h2 => k3 lb s2 w2 (by rw [hU2, hU]) (by rw [hU2]; exact hM2) hdk2 hdis2 h2) (by decide) (by omega) P1.ok P1.c P1.k hdk hdis h
/-- Two facts of one's own lie apart. -/
theorem apart {E : List Nat} {w0 w : World} {O R O' : List Fact} {φ ψ : Fact} (hk : Kn E w0 w O R) (hs : Sel φ O O') (hψ : ψ ∈ O') : ∀ b, φ.S b → ¬ ψ.S b := fun b => List.rel_of_pairwise_cons (hk.perm hs.perm).disO hψ b
theorem load_good (g : Nat) (sv lv : Value) (S : List SecD) (W : List WrD) (w : World) (e1 e2 : EntD) (L1 L2 : List EntD) (hD : DkOk S W) (hW : W.length ≤ 100000) (hSl : S.length = 100) (P3 : PgOf 4 [e1, e2] (dread (S.map SecD.L) (W.map WrD.c) (3 + 4 + 1))) (P1 : PgOf 3 L1 (dread (S.map SecD.L) (W.map WrD.c) (1 + 4 + 1))) (P2 : PgOf 3 L2 (dread (S.map SecD.L) (W.map WrD.c) (2 + 4 + 1)))
    (he1 : e1.a = ((1 : Nat) : Int)) (he2 : e2.a = ((2 : Nat) : Int)) (h1 : L1.length ≤ 6) (h2 : L2.length ≤ 6) (b1 : ∀ e ∈ L1, e.k.Bd) (b2 : ∀ e ∈ L2, e.k.Bd) (hc : Ck.wrongP [L1, L2] [e1.k, e2.k] ((L1.length : Int) + (L2.length : Int)) = 0) (hdk : Rd1 w (dkF g ⟨sv, lv, S, W⟩)) :
    Calls Tryz.prog 11 [.int .u32 (3 : Nat), .agg #[.pointer (some ⟨g, 0, none⟩), .int .i64 ((4 : Nat) : Int)]].toArray w (Ret (fun q : Nat × Value × Option Addr × Nat => (∃ a, q.2.1 = .pointer a) ∧ (SlV.mk q.2.2.1 3 q.2.2.2).Ok 3) (fun q => .tuple #[.pointer (some ⟨q.1, 0, none⟩), .slice q.2.2.1 3 q.2.2.2, .int .i64 0]) (fun q => [blk q.1 [q.2.1, .int .i64 ((L1.length : Int) + (L2.length : Int))] 55, sl q.2.2.1 1 (IE .u32) [((1 : Nat) : Int), ((2 : Nat) : Int), ((3 : Nat) : Int)]]) w) := by
  have key := load_two g sv lv S W w e1 e2 L1 L2 hD hW hSl P3 P1 P2 he1 he2 h1 h2 b1 b2 hdk
  simp only [if_pos hc] at key
  exact key
theorem load_wrong (g : Nat) (sv lv : Value) (S : List SecD) (W : List WrD) (w : World) (e1 e2 : EntD) (L1 L2 : List EntD) (hD : DkOk S W) (hW : W.length ≤ 100000) (hSl : S.length = 100) (P3 : PgOf 4 [e1, e2] (dread (S.map SecD.L) (W.map WrD.c) (3 + 4 + 1))) (P1 : PgOf 3 L1 (dread (S.map SecD.L) (W.map WrD.c) (1 + 4 + 1))) (P2 : PgOf 3 L2 (dread (S.map SecD.L) (W.map WrD.c) (2 + 4 + 1)))
    (he1 : e1.a = ((1 : Nat) : Int)) (he2 : e2.a = ((2 : Nat) : Int)) (h1 : L1.length ≤ 6) (h2 : L2.length ≤ 6) (b1 : ∀ e ∈ L1, e.k.Bd) (b2 : ∀ e ∈ L2, e.k.Bd) (hc : ¬ Ck.wrongP [L1, L2] [e1.k, e2.k] ((L1.length : Int) + (L2.length : Int)) = 0) (hdk : Rd1 w (dkF g ⟨sv, lv, S, W⟩)) :
    Calls Tryz.prog 11 [.int .u32 (3 : Nat), .agg #[.pointer (some ⟨g, 0, none⟩), .int .i64 ((4 : Nat) : Int)]].toArray w fun e w' => e = .returned (.tuple #[.pointer none, .slice none 0 0, .int .i64 21]) ∧ Below w.heap.size w w' := by
  have key := load_two g sv lv S W w e1 e2 L1 L2 hD hW hSl P3 P1 P2 he1 he2 h1 h2 b1 b2 hdk
  simp only [if_neg hc] at key
  exact key.mono fun e w' ⟨s, _, he, hf⟩ => ⟨he, hf.bel⟩
/-- The reference's Put, told for either kind. -/
theorem rput_leaf (A : Option Addr) (n c : Nat) (L : List EntD) (w : World) (hn : n = L.length) (h1 : 1 ≤ n) (h6 : n ≤ 6) (hbd : ∀ e ∈ L, e.Bd) (hs : Sl w A 4 EE L) : Calls Tryz.prog 10 [.slice A n c, .bool true].toArray w (Nd.RetB (fun v => v) (Page.page 3 (nodeB L)) w) := rnput_any A n c L true w hn h1 h6 hbd hs
theorem rput_inner (A : Option Addr) (n c : Nat) (L : List EntD) (w : World) (hn : n = L.length) (h1 : 1 ≤ n) (h6 : n ≤ 6) (hbd : ∀ e ∈ L, e.Bd) (hs : Sl w A 4 EE L) : Calls Tryz.prog 10 [.slice A n c, .bool false].toArray w (Nd.RetB (fun v => v) (Page.page 4 (nodeB L)) w) := rnput_any A n c L false w hn h1 h6 hbd hs
theorem dread_w (S : List SecD) (W : List WrD) (x : WrD) (k : Nat) : dread (S.map SecD.L) ((W ++ [x]).map WrD.c) k = if x.a = k then x.d.L else dread (S.map SecD.L) (W.map WrD.c) k := by
  rw [List.map_append]
  exact dread_snoc _ _ _ _
theorem ok_w {S : List SecD} {W : List WrD} (h : DkOk S W) {k : Nat} {d : SecD} (hd : d.Ok) (hk : k < S.length) : DkOk S (W ++ [(⟨k, d⟩ : WrD)]) := ⟨h.s, fun x hx => by
  rcases List.mem_append.1 hx with hx | hx
  · exact h.w x hx
  · obtain rfl := List.mem_singleton.1 hx
    exact ⟨hd, hk⟩, h.n⟩
theorem page_sec {k : Int} (hk : k = 3 ∨ k = 4) {L : List EntD} (h6 : L.length ≤ 6) : SecOk (Page.page k (nodeB L)) := by
  have hl : (nodeB L).length = 1 + 18 * L.length := nodeB_len L
  exact ⟨Page.page_length (by omega), Page.page_isB (by omega) (by omega) (nodeB_isB L (by omega))⟩
/-- What the three sectors say. -/
structure D3 (S : List SecD) (W : List WrD) (a b : List EntD) (e1 e2 : EntD) : Prop where
  D : DkOk S W
  P1 : PgOf 3 a (dread (S.map SecD.L) (W.map WrD.c) (1 + 4 + 1))
  P2 : PgOf 3 b (dread (S.map SecD.L) (W.map WrD.c) (2 + 4 + 1))
  P3 : PgOf 4 [e1, e2] (dread (S.map SecD.L) (W.map WrD.c) (3 + 4 + 1))
  z : ∀ i : Nat, 4 ≤ i → i ≤ 94 → dread (S.map SecD.L) (W.map WrD.c) (i + 4 + 1) = zsec
theorem d3_of {S : List SecD} {a b : List EntD} {e1 e2 : EntD} {d1 d2 d3 : SecD} (hD : DkOk S []) (hl : S.length = 100) (hz : S.map SecD.L = List.replicate 100 zsec) (h1 : d1.Ok ∧ d1.L = Page.page 3 (nodeB a)) (h2 : d2.Ok ∧ d2.L = Page.page 3 (nodeB b)) (h3 : d3.Ok ∧ d3.L = Page.page 4 (nodeB [e1, e2]))
    (ha : 1 ≤ a.length ∧ a.length ≤ 6) (hb : 1 ≤ b.length ∧ b.length ≤ 6) (hab : ∀ e ∈ a, e.Bd) (hbb : ∀ e ∈ b, e.Bd) (hA : Asc a) (hB : Asc b) (he : ∀ e ∈ [e1, e2], e.Bd) (hk : klt e1.k e2.k) (h0 : ∀ e ∈ [e1, e2], e.a ≠ 0) :
    D3 S ([] ++ [(⟨1 + 4 + 1, d1⟩ : WrD)] ++ [(⟨2 + 4 + 1, d2⟩ : WrD)] ++ [(⟨3 + 4 + 1, d3⟩ : WrD)]) a b e1 e2 := by
  refine ⟨ok_w (ok_w (ok_w hD h1.1 (by omega)) h2.1 (by omega)) h3.1 (by omega), ?_, ?_, ?_, fun i i1 i2 => ?_⟩
  · rw [dread_w, dread_w, dread_w, if_neg (by dsimp only; omega), if_neg (by dsimp only; omega), if_pos rfl, h1.2]
    exact page_node (.inl rfl) hab ha.1 ha.2 hA (fun h => by omega)
  · rw [dread_w, dread_w, if_neg (by dsimp only; omega), if_pos rfl, h2.2]
    exact page_node (.inl rfl) hbb hb.1 hb.2 hB (fun h => by omega)
  · rw [dread_w, if_pos rfl, h3.2]
    exact page_node (.inr rfl) he (by simp) (by simp) (two_asc hk) (fun _ => h0)
  · rw [dread_w, dread_w, dread_w, if_neg (by dsimp only; omega), if_neg (by dsimp only; omega), if_neg (by dsimp only; omega), hz]
    show ((List.replicate 100 zsec)[i + 4 + 1]?).getD [] = _
    rw [List.getElem?_replicate_of_lt (by omega)]
    rfl
/-- And with any sector instead of the second one. -/
structure D4 (S : List SecD) (W : List WrD) (a : List EntD) (X : List Int) (e1 e2 : EntD) : Prop where
  D : DkOk S W
  P1 : PgOf 3 a (dread (S.map SecD.L) (W.map WrD.c) (1 + 4 + 1))
  X : (dread (S.map SecD.L) (W.map WrD.c) (2 + 4 + 1)) = X
  P3 : PgOf 4 [e1, e2] (dread (S.map SecD.L) (W.map WrD.c) (3 + 4 + 1))
  z : ∀ i : Nat, 4 ≤ i → i ≤ 94 → dread (S.map SecD.L) (W.map WrD.c) (i + 4 + 1) = zsec
theorem d4_of {S : List SecD} {W : List WrD} {a b : List EntD} {e1 e2 : EntD} {X : List Int} {d4 : SecD} (h : D3 S W a b e1 e2) (hl : S.length = 100) (h4 : d4.Ok ∧ d4.L = X) : D4 S (W ++ [(⟨2 + 4 + 1, d4⟩ : WrD)]) a X e1 e2 := by
  refine ⟨ok_w h.D h4.1 (by omega), ?_, ?_, ?_, fun i i1 i2 => ?_⟩
  · rw [dread_w, if_neg (by dsimp only; omega)]
    exact h.P1
  · rw [dread_w, if_pos rfl, h4.2]
  · rw [dread_w, if_neg (by dsimp only; omega)]
    exact h.P3
  · rw [dread_w, if_neg (by dsimp only; omega)]
    exact h.z i i1 i2
theorem ents_kbd {X : List Int} (hB : IsB X) : ∀ e ∈ entsOf X, e.k.Bd := fun e he => by
  obtain ⟨i, hi⟩ := List.getElem?_of_mem he
  have hBB := (getS_bd hB).1
  unfold entsOf decN at hi
  rw [List.getElem?_map] at hi
  obtain ⟨j, hj, rfl⟩ : ∃ j, (List.range (nB (Page.getS X).2.1))[i]? = some j ∧ entAt (Page.getS X).2.1 (1 + 18 * j) = e := by
    cases hq : (List.range (nB (Page.getS X).2.1))[i]? with
    | none => rw [hq] at hi; cases hi
    | some j => rw [hq] at hi; exact ⟨j, rfl, Option.some.inj hi⟩
  have key : ∀ (o m : Nat), 0 ≤ num (((Page.getS X).2.1.drop o).take m) ∧ num (((Page.getS X).2.1.drop o).take m) < 256 ^ m := fun o m => by
    obtain ⟨h1, h2⟩ := num_bd ((hBB.drop o).take m)
    refine ⟨h1, Int.lt_of_lt_of_le h2 ?_⟩
    have h3 : (((Page.getS X).2.1.drop o).take m).length ≤ m := by rw [List.length_take]; omega
    exact pow_le _ _ h3
  exact ⟨key _ 2, key _ 4, key _ 8⟩
theorem ents_len (X : List Int) : (entsOf X).length ≤ 6 := by unfold entsOf; rw [decN_len]; unfold nB; omega
end Go.Proofs.YtaghmffgoomebaaGreat.St
