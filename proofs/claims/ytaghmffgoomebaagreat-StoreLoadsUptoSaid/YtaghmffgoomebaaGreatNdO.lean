/- slices.BinarySearchFunc at keys; slices.Insert and slices.Delete at entries. Entries; Clone, halves of nodes; what is handed back of Leaves and Inners, as lists of nodes. Join. node.Find, Kid, With, Without. The law NodeLeaves: what a leaf's entries become, as lists. -/
import Derived.Test.YtaghmffgoomebaaGreatNd3
import Derived.Test.YtaghmffgoomebaaGreatGxL
namespace Go.Proofs.YtaghmffgoomebaaGreat.Nd
open Go.RowKit Mem Gx
set_option linter.unusedVariables false
set_option linter.unusedSimpArgs false
set_option maxRecDepth 100000
set_option maxHeartbeats 4000000
theorem klt_trans {a b c : KeyD} (h1 : klt a b) (h2 : klt b c) : klt a c := by unfold klt at *; omega
/-- Keys that rise. -/
def AscK (L : List KeyD) : Prop := ∀ i j, i < j → j < L.length → klt (L.getD i default) (L.getD j default)
/-- Where a key stands, or would stand. -/
structure PosK (L : List KeyD) (t : KeyD) (p : Nat) : Prop where
  le : p ≤ L.length
  lo : ∀ m, m < p → klt (L.getD m default) t
  hi : ∀ m, p ≤ m → m < L.length → ¬ klt (L.getD m default) t
theorem getD_at {α : Type} [Inhabited α] {L : List α} {i : Nat} {x : α} (h : L[i]? = some x) : L.getD i default = x := by rw [List.getD_eq_getElem?_getD, h]; rfl
theorem bsearch_any (A : Option Addr) (n c : Nat) (L : List KeyD) (t : KeyD) (w : World) (hn : n = L.length) (h9 : n ≤ 1000000) (ha : AscK L) (hs : Sl w A 3 KE L) :
    Calls Tryz.prog 89 [.slice A n c, t.val, .func (.func 90) #[] #[]].toArray w (Ret (PosK L t) (fun p => .tuple #[.int .i64 (p : Int), .bool (tB (L[p]? = some t))]) (fun _ => []) w) := by
  refine g_enter0 T [] [] [sl A 3 KE L] Tryz.func89 rfl Tryz.ntmps89 rfl ((Kn.start w).argR hs (by decide) (fun _ h => by cases h)) ?_
  (repeat (refine gG ?_; try intro _))
  rename_i g4
  refine gk_loop_sel (fun (q : Nat × Nat) => match q with | (i, j) => i ≤ j ∧ j ≤ n ∧ (∀ m, m < i → klt (L.getD m default) t) ∧ (∀ m, j ≤ m → m < n → ¬ klt (L.getD m default) t)) (fun (q : Nat × Nat) => match q with | (i, j) => [(0, .slice A n c), (2, .func (.func 90) #[] #[]), (4, .pointer (some ⟨g4, 0, none⟩)), (8, .int .i64 n), (9, .int .i64 i), (10, .int .i64 j)]) (fun (q : Nat × Nat) => match q with | (i, j) => [blk g4 [.int .u16 t.v, .int .u32 t.b, .int .u64 t.s] 29]) (fun (q : Nat × Nat) => match q with | (i, j) => [sl A 3 KE L]) (fun (q : Nat × Nat) => match q with | (i, j) => j - i) (0, n) rfl ⟨Nat.zero_le _, Nat.le_refl _, fun m h => by omega, fun m h1 h2 => by omega⟩ (by repeat (first | exact trivial | refine ⟨rfl, ?_⟩)) sA sS ?_
  rintro ⟨i, j⟩ hI
  replace hI : i ≤ j ∧ j ≤ n ∧ (∀ m, m < i → klt (L.getD m default) t) ∧ (∀ m, j ≤ m → m < n → ¬ klt (L.getD m default) t) := hI
  change GK _ _ [(0, .slice A n c), (2, .func (.func 90) #[] #[]), (4, .pointer (some ⟨g4, 0, none⟩)), (8, .int .i64 n), (9, .int .i64 i), (10, .int .i64 j)] [blk g4 [.int .u16 t.v, .int .u32 t.b, .int .u64 t.s] 29] [sl A 3 KE L]
  obtain ⟨h1, h2, hlo, hhi⟩ := hI
  (repeat (refine gG ?_; try intro _))
  refine gk_cond rfl rfl (tells_tB _) (fun hlt => ?_) (fun hlt => ?_)
  · (repeat (refine gG ?_; try intro _))
    obtain ⟨m, hm⟩ : ∃ m, m = (i + j) / 2 := ⟨_, rfl⟩
    refine g_say 22 (.int .u64 (m : Int)) rfl (by
      show Value.int .u64 (((i : Int) + (j : Int)).fdiv 2) = _
      rw [Int.fdiv_eq_ediv_of_nonneg _ (by decide)]
      congr 1
      omega) ?_
    have hmj : i ≤ m ∧ m < j := by omega
    clear hm
    (repeat (refine gG ?_; try intro _))
    obtain ⟨x, hx⟩ : ∃ x, L[m]? = some x := ⟨L[m], List.getElem?_eq_getElem (by omega)⟩
    have hxd := getD_at hx
    refine gk_elem (enc := KE) (L := L) m mE (by omega) (by decide) (fun b0 o0 x' eA hx' => ?_)
    subst eA
    obtain rfl : x = x' := by rw [hx] at hx'; exact Option.some.inj hx'
    refine gk_any [0, 1] (Cut _ (fun _ : Unit => [(0, .slice (some ⟨b0, o0, none⟩) n c), (2, .func (.func 90) #[] #[]), (4, .pointer (some ⟨g4, 0, none⟩)), (8, .int .i64 n), (9, .int .i64 i), (10, .int .i64 j), (11, .int .i64 m), (31, .bool (tB (kcmp x t < 0)))]) (fun _ => [blk g4 [.int .u16 t.v, .int .u32 t.b, .int .u64 t.s] 29]) (fun _ => [sl (some ⟨b0, o0, none⟩) 3 KE L])) rfl rfl (by kernel_rfl) ?_ (cut_k fun _ => ?_)
    · skip
      refine gb_take 0 rfl (by decide +kernel) rfl rfl (ys_ev (nw := true) hT rfl sI) sF ?_
      refine gb_take 1 rfl (by decide +kernel) rfl rfl (ys_ev (nw := true) hT rfl sI) sF ?_
      refine gb_take 2 rfl (by decide +kernel) rfl rfl (ys_ev (nw := true) hT rfl sI) sF ?_
      refine gb_take 3 rfl (by decide +kernel) rfl rfl (ys_ev (nw := true) hT rfl sI) sF ?_
      refine gb_take 4 rfl (by decide +kernel) rfl rfl (by first | exact ys_blk hT rfl rfl mE rfl rfl | exact ys_row hT rfl rfl mE rfl rfl | exact ys_row0 hT rfl rfl mE rfl rfl) sF ?_
      refine gb_take 5 rfl (by decide +kernel) rfl rfl (by first | exact ys_blk hT rfl rfl mE rfl rfl | exact ys_row hT rfl rfl mE rfl rfl | exact ys_row0 hT rfl rfl mE rfl rfl) sF ?_
      refine gb_only 6 (by decide +kernel) rfl rfl ?_
      refine mv_call_bel (fun w hk => kcmp_any x t w) rfl rfl rfl rfl rfl (by kernel_rfl) ?_
      refine ⟨sF, ?_⟩
      refine gb_take 7 rfl (by decide +kernel) rfl rfl (ys_ev (nw := true) hT rfl sI) sF ?_
      refine gb_nil (by decide +kernel) ?_
      exact ⟨(), (by repeat (first | exact trivial | refine ⟨rfl, ?_⟩)), sA, sS⟩
    · refine gk_cond rfl rfl (tells_tB _) (fun hc => ?_) (fun hc => ?_)
      · rw [kcmp_neg] at hc
        (repeat (refine gG ?_; try intro _))
        refine gk_again_sel rfl (m + 1, j) ⟨by omega, h2, fun q hq => by
          rcases Nat.lt_or_ge q m with h | h
          · exact klt_trans (ha q m h (by omega)) (hxd ▸ hc)
          · obtain rfl : q = m := by omega
            exact hxd ▸ hc, hhi⟩ (by dsimp only; omega) (by repeat (first | exact trivial | refine ⟨rfl, ?_⟩)) sA sS
      · rw [kcmp_neg] at hc
        (repeat (refine gG ?_; try intro _))
        refine gk_again_sel rfl (i, m) ⟨hmj.1, by omega, hlo, fun q h3 h4 h5 => by
          rcases Nat.lt_or_ge m q with h | h
          · exact hc (hxd ▸ klt_trans (ha m q h (by omega)) h5)
          · obtain rfl : q = m := by omega
            exact hc (hxd ▸ h5)⟩ (by dsimp only; omega) (by repeat (first | exact trivial | refine ⟨rfl, ?_⟩)) sA sS
  · have hij : i = j := by omega
    subst hij
    have hpos : PosK L t i := ⟨by omega, hlo, fun m a b => hhi m a (by omega)⟩
    (repeat (refine gG ?_; try intro _))
    by_cases hin : i < n
    · obtain ⟨x, hx⟩ : ∃ x, L[i]? = some x := ⟨L[i], List.getElem?_eq_getElem (by omega)⟩
      refine gk_elem (enc := KE) (L := L) i mE (by omega) (by decide) (fun b0 o0 x' eA hx' => ?_)
      subst eA
      obtain rfl : x = x' := by rw [hx] at hx'; exact Option.some.inj hx'
      refine gk_any [0, 1] (Cut _ (fun _ : Unit => [(6, .int .i64 i), (7, .bool (tB (kcmp x t = 0)))]) (fun _ => []) (fun _ => [])) rfl rfl (by kernel_rfl) ?_ (cut_k fun _ => ?_)
      · skip
        refine gb_take 0 rfl (by decide +kernel) rfl rfl (ys_ev (nw := true) hT rfl sI) sF ?_
        refine gb_take 1 rfl (by decide +kernel) rfl rfl (ys_ev (nw := true) hT rfl sI) sF ?_
        refine gb_take 2 rfl (by decide +kernel) rfl rfl (ys_ev (nw := true) hT rfl sI) sF ?_
        refine gb_take 3 rfl (by decide +kernel) rfl rfl (ys_ev (nw := true) hT rfl sI) sF ?_
        try (refine gb_say 38 (.bool true) rfl (congrArg Value.bool (tB_true (by omega))) ?_)
        refine gb_take 4 rfl (by decide +kernel) rfl rfl (ys_ev (nw := true) hT rfl sI) sF ?_
        first | refine gb_take 5 rfl (by decide +kernel) rfl rfl (ys_ev (nw := true) hT rfl sI) sF ?_ | refine gb_skip 5 rfl (by decide +kernel) rfl rfl sF ?_
        first | refine gb_take 6 rfl (by decide +kernel) rfl rfl (ys_ev (nw := true) hT rfl sI) sF ?_ | refine gb_skip 6 rfl (by decide +kernel) rfl rfl sF ?_
        first | refine gb_take 7 rfl (by decide +kernel) rfl rfl (ys_ev (nw := true) hT rfl sI) sF ?_ | refine gb_skip 7 rfl (by decide +kernel) rfl rfl sF ?_
        first | refine gb_take 8 rfl (by decide +kernel) rfl rfl (ys_ev (nw := true) hT rfl sI) sF ?_ | refine gb_skip 8 rfl (by decide +kernel) rfl rfl sF ?_
        first | refine gb_take 9 rfl (by decide +kernel) rfl rfl (by first | exact ys_blk hT rfl rfl mE rfl rfl | exact ys_row hT rfl rfl mE rfl rfl | exact ys_row0 hT rfl rfl mE rfl rfl) sF ?_ | refine gb_skip 9 rfl (by decide +kernel) rfl rfl sF ?_
        first | refine gb_take 10 rfl (by decide +kernel) rfl rfl (by first | exact ys_blk hT rfl rfl mE rfl rfl | exact ys_row hT rfl rfl mE rfl rfl | exact ys_row0 hT rfl rfl mE rfl rfl) sF ?_ | refine gb_skip 10 rfl (by decide +kernel) rfl rfl sF ?_
        first | refine gb_skip 11 rfl (by decide +kernel) rfl rfl sF ?_ | (refine gb_only 11 (by decide +kernel) rfl rfl ?_; (refine mv_call_bel (fun w hk => kcmp_any x t w) rfl rfl rfl rfl rfl (by kernel_rfl) ?_); refine ⟨sF, ?_⟩)
        first | refine gb_take 12 rfl (by decide +kernel) rfl rfl (ys_ev (nw := true) hT rfl sI) sF ?_ | refine gb_skip 12 rfl (by decide +kernel) rfl rfl sF ?_
        refine gb_take 13 rfl (by decide +kernel) rfl rfl (ys_ev (nw := true) hT rfl sI) sF ?_
        refine gb_take 14 rfl (by decide +kernel) rfl rfl (ys_ev (nw := true) hT rfl sI) sF ?_
        refine gb_take 15 rfl (by decide +kernel) rfl rfl (ys_ev (nw := true) hT rfl sI) sF ?_
        refine gb_nil (by decide +kernel) ?_
        exact ⟨(), (by repeat (first | exact trivial | refine ⟨rfl, ?_⟩)), sA, sS⟩
      · (repeat (refine gG ?_; try intro _))
        refine gk_ret hT rfl rfl (.tmp rfl (.tmp rfl .nil)) (fun w' hk => ?_)
        refine Ret.mk i hpos ?_ hk sA
        show Value.tuple #[.int .i64 (i : Int), .bool (tB (kcmp x t = 0))] = _
        rw [tB_congr (p := kcmp x t = 0) (q := L[i]? = some t) ⟨fun h => by rw [hx, (kcmp_zero x t).1 h], fun h => by rw [hx] at h; rw [Option.some.inj h]; exact (kcmp_zero t t).2 rfl⟩]
    · refine gk_any [0, 1] (Cut _ (fun _ : Unit => [(6, .int .i64 i), (7, .bool false)]) (fun _ => []) (fun _ => [])) rfl rfl (by kernel_rfl) ?_ (cut_k fun _ => ?_)
      · skip
        refine gb_take 0 rfl (by decide +kernel) rfl rfl (ys_ev (nw := true) hT rfl sI) sF ?_
        refine gb_take 1 rfl (by decide +kernel) rfl rfl (ys_ev (nw := true) hT rfl sI) sF ?_
        refine gb_take 2 rfl (by decide +kernel) rfl rfl (ys_ev (nw := true) hT rfl sI) sF ?_
        refine gb_take 3 rfl (by decide +kernel) rfl rfl (ys_ev (nw := true) hT rfl sI) sF ?_
        try (refine gb_say 38 (.bool false) rfl (congrArg Value.bool (tB_false (by omega))) ?_)
        refine gb_take 4 rfl (by decide +kernel) rfl rfl (ys_ev (nw := true) hT rfl sI) sF ?_
        first | refine gb_take 5 rfl (by decide +kernel) rfl rfl (ys_ev (nw := true) hT rfl sI) sF ?_ | refine gb_skip 5 rfl (by decide +kernel) rfl rfl sF ?_
        first | refine gb_take 6 rfl (by decide +kernel) rfl rfl (ys_ev (nw := true) hT rfl sI) sF ?_ | refine gb_skip 6 rfl (by decide +kernel) rfl rfl sF ?_
        first | refine gb_take 7 rfl (by decide +kernel) rfl rfl (ys_ev (nw := true) hT rfl sI) sF ?_ | refine gb_skip 7 rfl (by decide +kernel) rfl rfl sF ?_
        first | refine gb_take 8 rfl (by decide +kernel) rfl rfl (ys_ev (nw := true) hT rfl sI) sF ?_ | refine gb_skip 8 rfl (by decide +kernel) rfl rfl sF ?_
        first | refine gb_take 9 rfl (by decide +kernel) rfl rfl (by first | exact ys_blk hT rfl rfl mE rfl rfl | exact ys_row hT rfl rfl mE rfl rfl | exact ys_row0 hT rfl rfl mE rfl rfl) sF ?_ | refine gb_skip 9 rfl (by decide +kernel) rfl rfl sF ?_
        first | refine gb_take 10 rfl (by decide +kernel) rfl rfl (by first | exact ys_blk hT rfl rfl mE rfl rfl | exact ys_row hT rfl rfl mE rfl rfl | exact ys_row0 hT rfl rfl mE rfl rfl) sF ?_ | refine gb_skip 10 rfl (by decide +kernel) rfl rfl sF ?_
        first | refine gb_skip 11 rfl (by decide +kernel) rfl rfl sF ?_ | (refine gb_only 11 (by decide +kernel) rfl rfl ?_; (skip); refine ⟨sF, ?_⟩)
        first | refine gb_take 12 rfl (by decide +kernel) rfl rfl (ys_ev (nw := true) hT rfl sI) sF ?_ | refine gb_skip 12 rfl (by decide +kernel) rfl rfl sF ?_
        refine gb_take 13 rfl (by decide +kernel) rfl rfl (ys_ev (nw := true) hT rfl sI) sF ?_
        refine gb_take 14 rfl (by decide +kernel) rfl rfl (ys_ev (nw := true) hT rfl sI) sF ?_
        refine gb_take 15 rfl (by decide +kernel) rfl rfl (ys_ev (nw := true) hT rfl sI) sF ?_
        refine gb_nil (by decide +kernel) ?_
        exact ⟨(), (by repeat (first | exact trivial | refine ⟨rfl, ?_⟩)), sA, sS⟩
      · (repeat (refine gG ?_; try intro _))
        refine gk_ret hT rfl rfl (.tmp rfl (.tmp rfl .nil)) (fun w' hk => ?_)
        refine Ret.mk i hpos ?_ hk sA
        rw [tB_false (show ¬ L[i]? = some t from fun h => by
          have := (List.getElem?_eq_some_iff.1 h).1
          omega)]
        rfl
theorem oneE : ∀ (x : EntD) (j : Nat), (EE x j).oneCell' = true := by intro x j; rcases j with _ | _ | _ | j <;> rfl
end Go.Proofs.YtaghmffgoomebaaGreat.Nd
namespace Go.Proofs.YtaghmffgoomebaaGreat.Nd
open Go.RowKit Mem Gx
set_option linter.unusedVariables false
set_option linter.unusedSimpArgs false
set_option maxRecDepth 100000
set_option maxHeartbeats 4000000
inductive All2 {α β : Type} (P : α → β → Prop) : List α → List β → Prop
  | nil : All2 P [] []
  | cons {a : α} {b : β} {l : List α} {m : List β} (h : P a b) (t : All2 P l m) : All2 P (a :: l) (b :: m)
/-- A row as it is cut into nodes. -/
def cutN {α : Type} (L : List α) : List (List α) := if L.length = 0 then [] else if L.length ≤ 6 then [L] else [L.take (L.length / 2), L.drop (L.length / 2)]
/-- A node, as one fact. -/
abbrev NodeD.b (d : NodeD) : Fact := blk d.g [.bool d.leaf, d.K.v, d.V.v, d.C.v, .int .u32 d.a] 109
def nodeF (d : NodeD) : Fact := allF d.fs id
theorem sl_of_blk {α : Type} [Inhabited α] {w : World} {g T : Nat} {cs : List Value} {sz : Nat} {enc : α → Nat → Value} {M : List α} (hb : w.heap[g]? = some (.cells cs.toArray T (0, 0))) (he : cs = flatF sz enc M) : Sl w (some ⟨g, 0, none⟩) sz enc M := fun hn => by
  refine ⟨g, 0, rfl, fun i hi j hj => ?_⟩
  have hy : M[i]? = some M[i] := List.getElem?_eq_getElem hi
  rw [Nat.zero_add, cell_of_row w g _ cs.toArray T (0, 0) hb, LF_at hy, he]
  simpa using flatF_get sz enc M i j _ hy hj
section
variable {w w' : World} {O R RA : List Fact}
theorem RS1.lit {α : Type} [Inhabited α] {g T : Nat} {cs : List Value} {sz : Nat} {enc : α → Nat → Value} {M : List α} (hk : Kn [] w w' O R) (hm : blk g cs T ∈ O) (he : cs = flatF sz enc M) : RS1 w w' RA (sl (some ⟨g, 0, none⟩) sz enc M) := by
  have h := RS1.own (RA := RA) hk hm
  refine ⟨sl_of_blk (hk.pO _ hm) he, fun b hb => ?_⟩
  obtain ⟨_, a, ha, hab⟩ := hb
  injection ha with ha
  exact h.2 b (by rw [← hab, ← ha]; rfl)
theorem RS1.node {d : NodeD} (hk : Kn [] w w' O R) (h1 : d.b ∈ O) (h2 : sl d.K.A 3 KE d.Ks ∈ O) (h3 : sl d.V.A 1 (IE .u32) d.Vs ∈ O) (h4 : sl d.C.A 1 PE d.Cs ∈ O) : RS1 w w' RA (nodeF d) := by
  refine RS1.all fun φ hφ => ?_
  unfold NodeD.fs at hφ
  rcases List.mem_cons.1 hφ with h | hφ
  · rw [h]; exact RS1.own hk h1
  rcases List.mem_cons.1 hφ with h | hφ
  · rw [h]; exact RS1.own hk h2
  rcases List.mem_cons.1 hφ with h | hφ
  · rw [h]; exact RS1.own hk h3
  obtain rfl := List.mem_singleton.1 hφ
  exact RS1.own hk h4
theorem RS1.nodes {ds : List NodeD} (h : ∀ d, d ∈ ds → RS1 w w' RA (nodeF d)) : RS1 w w' RA (allF ds nodeF) := RS1.all h
theorem rd_nb {d : NodeD} (h : Rd1 w (nodeF d)) : Rd1 w d.b := h.open (F := id) (x := d.b) (by unfold NodeD.fs; exact .head _)
theorem rd_nK {d : NodeD} (h : Rd1 w (nodeF d)) : Rd1 w (sl d.K.A 3 KE d.Ks) := h.open (F := id) (x := sl d.K.A 3 KE d.Ks) (by unfold NodeD.fs; simp)
theorem rd_nV {d : NodeD} (h : Rd1 w (nodeF d)) : Rd1 w (sl d.V.A 1 (IE .u32) d.Vs) := h.open (F := id) (x := sl d.V.A 1 (IE .u32) d.Vs) (by unfold NodeD.fs; simp)
end
theorem entries_any (g : Nat) (lf : Bool) (K V C : SlV) (a : Int) (L : List EntD) (w : World) (hK : K.n = L.length) (hV : V.n = L.length) (h9 : L.length ≤ 10000) (hB : Rds w [blk g [.bool lf, K.v, V.v, C.v, .int .u32 a] 109, sl K.A 3 KE (L.map (·.k)), sl V.A 1 (IE .u32) (L.map (·.a))]) :
    Calls Tryz.prog 45 [.pointer (some ⟨g, 0, none⟩)].toArray w (Ret (fun _ : Value => True) (fun v => v) (fun v => [own 0 31 4 v EE L]) w) := by
  obtain ⟨KA, Kn, Kc⟩ := K
  obtain ⟨VA, Vn, Vc⟩ := V
  dsimp only at hK hV
  have hB' : Rds w [blk g [.bool lf, .slice KA Kn Kc, .slice VA Vn Vc, C.v, .int .u32 a] 109, sl KA 3 KE (L.map (·.k)), sl VA 1 (IE .u32) (L.map (·.a))] := hB
  clear hB
  refine g_enter0 T [] [] [blk g [.bool lf, .slice KA Kn Kc, .slice VA Vn Vc, C.v, .int .u32 a] 109, sl KA 3 KE (L.map (·.k)), sl VA 1 (IE .u32) (L.map (·.a))] Tryz.func45 rfl Tryz.ntmps45 rfl hB'.kn ?_
  refine gk_rowR (g := g) mE ?_
  (repeat (refine gG ?_; try intro _))
  refine gk_own 0 31 4 EE ?_
  refine gk_loop_sel (fun (q : Nat × Value × (List EntD)) => match q with | (j, v, M) => j ≤ L.length ∧ M = L.take j) (fun (q : Nat × Value × (List EntD)) => match q with | (j, v, M) => [(0, .pointer (some ⟨g, 0, none⟩)), (3, v), (9, .slice VA Vn Vc), (10, .int .i64 Vn), (11, .int .i64 j)]) (fun (q : Nat × Value × (List EntD)) => match q with | (j, v, M) => [own 0 31 4 v EE M]) (fun (q : Nat × Value × (List EntD)) => match q with | (j, v, M) => [row g 0 [.bool lf, .slice KA Kn Kc, .slice VA Vn Vc, C.v, .int .u32 a], sl KA 3 KE (L.map (·.k)), sl VA 1 (IE .u32) (L.map (·.a))]) (fun (q : Nat × Value × (List EntD)) => match q with | (j, v, M) => L.length - j) (0, .slice none 0 0, []) rfl ⟨Nat.zero_le _, rfl⟩ fS sA sS ?_
  rintro ⟨j, v, M⟩ hI
  replace hI : j ≤ L.length ∧ M = L.take j := hI
  change GK _ _ [(0, .pointer (some ⟨g, 0, none⟩)), (3, v), (9, .slice VA Vn Vc), (10, .int .i64 Vn), (11, .int .i64 j)] [own 0 31 4 v EE M] [row g 0 [.bool lf, .slice KA Kn Kc, .slice VA Vn Vc, C.v, .int .u32 a], sl KA 3 KE (L.map (·.k)), sl VA 1 (IE .u32) (L.map (·.a))]
  obtain ⟨hj, hM⟩ := hI
  have hMl : M.length = j := by rw [hM, List.length_take]; omega
  (repeat (refine gG ?_; try intro _))
  refine gk_cond rfl rfl (tells_tB _) (fun hlt => ?_) (fun hlt => ?_)
  · have hjL : j < L.length := by omega
    obtain ⟨y, hy⟩ : ∃ y, L[j]? = some y := ⟨L[j], List.getElem?_eq_getElem hjL⟩
    refine gk_elem (enc := KE) (L := L.map (·.k)) j mE (by rw [List.length_map]; omega) (by decide) (fun b0 o0 y1 eA hy1 => ?_)
    subst eA
    obtain rfl : y.k = y1 := by
      rw [List.getElem?_map, hy] at hy1
      exact Option.some.inj hy1
    refine gk_elem (enc := IE .u32) (L := L.map (·.a)) j mE (by rw [List.length_map]; omega) (by decide) (fun b1 o1 y2 eA hy2 => ?_)
    subst eA
    obtain rfl : y.a = y2 := by
      rw [List.getElem?_map, hy] at hy2
      exact Option.some.inj hy2
    (repeat (refine gG ?_; try intro _))
    refine g_mv rfl (mv_append rfl [y] rfl rfl rfl rfl elt_E uD (src_blk mE rfl) rfl (by intro x j; rcases j with _ | _ | _ | j <;> rfl) (by simp only [maxLen, List.length_cons, List.length_nil]; omega) (by simp only [List.length_cons, List.length_nil]; omega) (Nat.zero_le _) (fun v1 => ?_))
    (repeat (refine gG ?_; try intro _))
    refine gk_again_sel rfl (j + 1, v1, M ++ [y]) ⟨by omega, by
      rw [hM, List.take_succ_eq_append_getElem hjL]
      rw [List.getElem?_eq_getElem hjL] at hy
      injection hy with hy
      rw [hy]⟩ (by dsimp only; omega) fS sA sS
  · have hjn : j = L.length := by omega
    subst hjn
    rw [List.take_length] at hM
    subst hM
    (repeat (refine gG ?_; try intro _))
    refine gk_ret hT rfl rfl (.tmp rfl .nil) (fun w' hk => ?_)
    exact Ret.mk v trivial rfl hk sA
/-- A slice of pointers whose block is known whole. -/
def headF (s : SlV) (L : List Nat) : Fact := ⟨fun b => ∃ a, s.A = some a ∧ a.block = b, fun w => ∀ a, s.A = some a → ∃ g, a = ⟨g, 0, none⟩ ∧ w.heap[g]? = some (.cells (flatF 1 PE L).toArray 53 (0, 0)), fun w w' h hp a ha => by
  obtain ⟨g, e, hg⟩ := hp a ha
  exact ⟨g, e, (h g ⟨a, ha, by rw [e]⟩).trans hg⟩⟩
theorem RS1.head {w w' : World} {O R RA : List Fact} {g n c : Nat} {cs : List Value} {L : List Nat} (hk : Kn [] w w' O R) (hm : blk g cs 53 ∈ O) (he : cs = flatF 1 PE L) : RS1 w w' RA (headF ⟨some ⟨g, 0, none⟩, n, c⟩ L) := by
  refine ⟨fun a ha => ?_, fun b hb => ?_⟩
  · injection ha with ha
    exact ⟨g, ha.symm, by rw [← he]; exact hk.pO _ hm⟩
  · obtain ⟨a, ha, hb⟩ := hb
    injection ha with ha
    subst ha
    have h1 : (blk g cs 53).S b := hb.symm
    refine ⟨hk.ltO _ hm b h1, .inl ?_⟩
    rcases hk.ownS _ hm b h1 with h2 | h2
    · exact h2
    · cases h2
/-- Nodes as a slice. -/
structure NS where
  s : SlV
  ds : List NodeD
abbrev RetN (I : List NodeD → Prop) (w : World) : Ending → World → Prop := RetS (fun p : NS => p.s.Ok p.ds.length ∧ I p.ds) (fun p => p.s.v) (fun p => [sl p.s.A 1 PE (p.ds.map NodeD.g), allF p.ds nodeF, headF p.s (p.ds.map NodeD.g)]) [] w
theorem retN_none {I : List NodeD → Prop} {w w' : World} {R O : List Fact} (hI : I []) (hk : Kn [] w w' O R) : RetN I w (.returned (.slice none 0 0)) w' :=
  RetS.mk ⟨⟨none, 0, 0⟩, []⟩ ⟨SlV.ok_nil, hI⟩ rfl hk (.cons ⟨fun h => absurd h (by decide), fun b hb => absurd hb.1 (by simp)⟩ (.cons (RS1.all fun x hx => by cases hx) (.cons ⟨fun a h => (by cases h), fun b ⟨a, h, _⟩ => (by cases h)⟩ .nil)))
theorem leaves_any (A : Option Addr) (n c : Nat) (L : List EntD) (w : World) (hn : n = L.length) (hc : n ≤ c) (h9 : n ≤ 10000) (hs : Sl w A 4 EE L) :
    Calls Tryz.prog 59 [.slice A n c].toArray w (RetN (All2 IsLeaf (cutN L)) w) := by
  by_cases h0 : n = 0
  · subst h0
    refine g_enter0 T [] [] [] Tryz.func59 rfl Tryz.ntmps59 rfl (Kn.start _) ?_
    (repeat' (first | (refine gG ?_; try intro _) | ((first | refine g_split rfl rfl tE (fun _ => ?_) (fun _ => ?_) | refine gk_cond rfl rfl tE (fun _ => ?_) (fun _ => ?_)) <;> (try first | (exfalso; omega; done) | (rename_i hx; exact absurd rfl hx) | (rename_i hx; cases hx; done)))))
    refine gk_ret hT rfl rfl (.tmp rfl .nil) (fun w' hk => ?_)
    exact retN_none (by unfold cutN; rw [if_pos hn.symm]; exact .nil) hk
  by_cases h6 : n ≤ 6
  · refine g_enter0 T [] [] [sl A 4 EE L] Tryz.func59 rfl Tryz.ntmps59 rfl ((Kn.start w).argR hs (by decide) (fun _ h => by cases h)) ?_
    (repeat' (first | (refine gG ?_; try intro _) | ((first | refine g_split rfl rfl tE (fun _ => ?_) (fun _ => ?_) | refine gk_cond rfl rfl tE (fun _ => ?_) (fun _ => ?_)) <;> (try first | (exfalso; omega; done) | (rename_i hx; exact absurd rfl hx) | (rename_i hx; cases hx; done)))))
    refine g_mv rfl ?_; refine mv_call_rt (fun w hk => leaf_any A n c L w hn (by omega) (hk.pR (sl A 4 EE L) mE)) rfl rfl rfl rfl rfl (by kernel_rfl) (fun _ => rfl) (fun d hd => ?_)
    (repeat (refine gG ?_; try intro _))
    rename_i g1
    refine gk_ret hT rfl rfl (.tmp rfl .nil) (fun w' hk => ?_)
    refine RetS.mk ⟨⟨some ⟨g1, 0, none⟩, 1, 1⟩, [d]⟩ ⟨⟨rfl, Nat.le_refl _, by show 1 ≤ maxLen; unfold maxLen; omega, fun h => by cases h⟩, ?_⟩ rfl hk (.cons (RS1.lit hk (cs := [d.ptr]) mE rfl) (.cons (RS1.nodes fun x hx => ?_) (.cons (RS1.head hk (cs := [d.ptr]) mE rfl) .nil)))
    · unfold cutN; rw [if_neg (by omega), if_pos (by omega)]; exact .cons hd .nil
    · obtain rfl := List.mem_singleton.1 hx
      exact RS1.node hk mE mE mE mE
  · refine g_enter0 T [] [] [sl A 4 EE L] Tryz.func59 rfl Tryz.ntmps59 rfl ((Kn.start w).argR hs (by decide) (fun _ h => by cases h)) ?_
    refine gk_takeS (enc := EE) (L := L) (n / 2) c mE (by omega) ?_
    refine gk_dropS (enc := EE) (L := L) (n / 2) c mE (by omega) ?_
    (repeat' (first | (refine gG ?_; try intro _) | (refine g_mv rfl ?_; first | refine mv_call_bel (fun w hk => halvesE_any A n c w hc h9) rfl rfl rfl rfl rfl (by kernel_rfl) ?_) | ((first | refine g_split rfl rfl tE (fun _ => ?_) (fun _ => ?_) | refine gk_cond rfl rfl tE (fun _ => ?_) (fun _ => ?_)) <;> (try first | (exfalso; omega; done) | (rename_i hx; exact absurd rfl hx) | (rename_i hx; cases hx; done)))))
    refine g_mv rfl ?_; refine mv_call_rt (fun w hk => leaf_any (shA A 0 c 4) (n / 2) c (L.take (n / 2)) w (by rw [List.length_take]; omega) (by rw [List.length_take]; omega) (hk.pR (sl (shA A 0 c 4) 4 EE (L.take (n / 2))) mE)) rfl rfl rfl rfl rfl (by kernel_rfl) (fun _ => rfl) (fun d hd => ?_)
    (repeat (refine gG ?_; try intro _))
    refine g_mv rfl ?_; refine mv_call_rt (fun w hk => leaf_any (shA A (n / 2) c 4) (n - n / 2) (c - n / 2) (L.drop (n / 2)) w (by rw [List.length_drop]; omega) (by rw [List.length_drop]; omega) (hk.pR (sl (shA A (n / 2) c 4) 4 EE (L.drop (n / 2))) mE)) rfl rfl rfl rfl rfl (by kernel_rfl) (fun _ => rfl) (fun d2 hd2 => ?_)
    (repeat (refine gG ?_; try intro _))
    rename_i g1
    refine gk_ret hT rfl rfl (.tmp rfl .nil) (fun w' hk => ?_)
    refine RetS.mk ⟨⟨some ⟨g1, 0, none⟩, 2, 2⟩, [d, d2]⟩ ⟨⟨rfl, Nat.le_refl _, by show 2 ≤ maxLen; unfold maxLen; omega, fun h => by cases h⟩, ?_⟩ rfl hk (.cons (RS1.lit hk (cs := [d.ptr, d2.ptr]) mE rfl) (.cons (RS1.nodes fun x hx => ?_) (.cons (RS1.head hk (cs := [d.ptr, d2.ptr]) mE rfl) .nil)))
    · unfold cutN; rw [if_neg (by omega), if_neg (by omega), ← hn]; exact .cons hd (.cons hd2 .nil)
    · rcases List.mem_cons.1 hx with rfl | hx
      · exact RS1.node hk mE mE mE mE
      · obtain rfl := List.mem_singleton.1 hx
        exact RS1.node hk mE mE mE mE
end Go.Proofs.YtaghmffgoomebaaGreat.Nd
namespace Go.Proofs.YtaghmffgoomebaaGreat.Nd
open Go.RowKit Mem Gx
set_option linter.unusedVariables false
set_option linter.unusedSimpArgs false
set_option maxRecDepth 100000
set_option maxHeartbeats 4000000
section
variable {X : Cx} {f : Fr} {O R : List Fact} {ks k : List KI} {d : NodeD} {w w' : World}
theorem nodeF_S {d : NodeD} {φ : Fact} (h : φ ∈ d.fs) : ∀ b, φ.S b → (nodeF d).S b := fun b hb => ⟨φ, h, hb⟩
theorem fs_b : d.b ∈ d.fs := by unfold NodeD.fs; exact .head _
theorem fs_K : sl d.K.A 3 KE d.Ks ∈ d.fs := by unfold NodeD.fs; simp
theorem fs_C : sl d.C.A 1 PE d.Cs ∈ d.fs := by unfold NodeD.fs; simp
theorem row_of_blk {g T : Nat} {cs : List Value} (h : (blk g cs T).p w) : (row g 0 cs).p w := by
  have hb : w.heap[g]? = some (.cells cs.toArray T (0, 0)) := h
  exact fun i v hv => by rw [Nat.zero_add, cell_of_row w g i cs.toArray T (0, 0) hb]; simpa using hv
theorem gk_nB (hm : nodeF d ∈ R) (hg : GK X ks f O (row d.g 0 [.bool d.leaf, d.K.v, d.V.v, d.C.v, .int .u32 d.a] :: R)) : GK X ks f O R :=
  gk_lessR _ (nodeF d) hm (fun w h => row_of_blk (h d.b fs_b)) (fun b hb => nodeF_S (φ := d.b) fs_b b hb) hg
theorem gk_nK (hm : nodeF d ∈ R) (hg : GK X ks f O (sl d.K.A 3 KE d.Ks :: R)) : GK X ks f O R := gk_lessR _ (nodeF d) hm (fun w h => h _ fs_K) (nodeF_S fs_K) hg
theorem gk_nC (hm : nodeF d ∈ R) (hg : GK X ks f O (sl d.C.A 1 PE d.Cs :: R)) : GK X ks f O R := gk_lessR _ (nodeF d) hm (fun w h => h _ fs_C) (nodeF_S fs_C) hg
end
theorem leafRds {w : World} {L : List EntD} {d : NodeD} (h : Rd1 w (nodeF d)) (hd : IsLeaf L d) : Rds w [d.b, sl d.K.A 3 KE (L.map (·.k)), sl d.V.A 1 (IE .u32) (L.map (·.a))] := by
  have h1 := rd_nK h
  have h2 := rd_nV h
  rw [hd.Ks] at h1
  rw [hd.Vs] at h2
  exact .cons (rd_nb h) (.cons h1 (.cons h2 .nil))
theorem entries_leaf (d : NodeD) (L : List EntD) (w : World) (hd : IsLeaf L d) (h9 : L.length ≤ 10000) (h : Rd1 w (nodeF d)) :
    Calls Tryz.prog 45 [.pointer (some ⟨d.g, 0, none⟩)].toArray w (Ret (fun _ : Value => True) (fun v => v) (fun v => [own 0 31 4 v EE L]) w) :=
  entries_any d.g d.leaf d.K d.V d.C d.a L w (by rw [hd.ok.K.n, hd.Ks, List.length_map]) (by rw [hd.ok.V.n, hd.Vs, List.length_map]) h9 (leafRds h hd)
end Go.Proofs.YtaghmffgoomebaaGreat.Nd
namespace Go.Proofs.YtaghmffgoomebaaGreat.Nd
open Go.RowKit Mem Gx
set_option linter.unusedVariables false
set_option linter.unusedSimpArgs false
set_option maxRecDepth 100000
set_option maxHeartbeats 4000000
noncomputable def findV (L : List KeyD) (t : KeyD) (p : Nat) : Int := if tB (L[p]? = some t) = true then p else (p : Int) - 1
theorem findV_bd {L : List KeyD} {t : KeyD} {p : Nat} (h : PosK L t p) (h9 : L.length ≤ 100000) : -1 ≤ findV L t p ∧ findV L t p ≤ 100000 := by
  have := h.le
  unfold findV
  split <;> omega
theorem find_any (d : NodeD) (t : KeyD) (w : World) (hd : d.Ok) (h9 : d.Ks.length ≤ 100000) (ha : AscK d.Ks) (hD : Rd1 w (nodeF d)) :
    Calls Tryz.prog 116 [.pointer (some ⟨d.g, 0, none⟩), t.val].toArray w (Ret (PosK d.Ks t) (fun p => .int .i64 (findV d.Ks t p)) (fun _ => []) w) := by
  have hr : Rd1 w (row d.g 0 [.bool d.leaf, d.K.v, d.V.v, d.C.v, .int .u32 d.a]) := (rd_nb hD).row
  refine g_enter0 T [] [] [row d.g 0 [.bool d.leaf, d.K.v, d.V.v, d.C.v, .int .u32 d.a], sl d.K.A 3 KE d.Ks] Tryz.func116 rfl Tryz.ntmps116 rfl (Rds.cons hr (.cons (rd_nK hD) .nil)).kn ?_
  (repeat (refine gG ?_; try intro _))
  rename_i g3
  refine gk_any [0, 1] (Cut _ (fun p : { p : Nat // PosK d.Ks t p } => [(5, .int .i64 (p.1 : Int)), (6, .bool (tB (d.Ks[p.1]? = some t)))]) (fun _ => []) (fun _ => [])) rfl rfl (by kernel_rfl) ?_ (cut_k fun p => ?_)
  · skip
    refine gY hT 0 ?_
    refine gY hT 1 ?_
    refine gY hT 2 ?_
    refine gb_take 3 rfl (by decide +kernel) rfl rfl (by first | exact ys_blk hT rfl rfl mE rfl rfl | exact ys_row hT rfl rfl mE rfl rfl | exact ys_row0 hT rfl rfl mE rfl rfl) sF ?_
    refine gb_take 4 rfl (by decide +kernel) rfl rfl (by first | exact ys_blk hT rfl rfl mE rfl rfl | exact ys_row hT rfl rfl mE rfl rfl | exact ys_row0 hT rfl rfl mE rfl rfl) sF ?_
    refine gb_only 5 (by decide +kernel) rfl rfl ?_
    refine mv_call_rt (fun w hk => bsearch_any d.K.A d.K.n d.K.c d.Ks t w hd.K.n (by rw [hd.K.n]; omega) ha (hk.pR (sl d.K.A 3 KE d.Ks) mE)) rfl rfl rfl rfl rfl (by kernel_rfl) (fun _ => rfl) (fun p hp => ?_)
    refine ⟨sF, ?_⟩
    refine gY hT 6 ?_
    refine gY hT 7 ?_
    refine gY hT 8 ?_
    refine gY hT 9 ?_
    refine gY hT 10 ?_
    refine gb_nil (by decide +kernel) ?_
    exact ⟨⟨p, hp⟩, fS, sA, sS⟩
  · obtain ⟨p, hp⟩ := p
    dsimp only
    have hpl := hp.le
    (repeat (refine gG ?_; try intro _))
    obtain ⟨b, hb⟩ : ∃ b, tB (d.Ks[p]? = some t) = b := ⟨_, rfl⟩
    refine gk_say 16 (.bool b) rfl (congrArg Value.bool hb) ?_
    cases b
    · (repeat (refine gG ?_; try intro _))
      refine gk_ret hT rfl rfl (.tmp rfl .nil) (fun w' hk => ?_)
      exact Ret.mk p hp (by unfold findV; rw [if_neg (by rw [hb]; decide)]; rfl) hk sA
    · (repeat (refine gG ?_; try intro _))
      refine gk_ret hT rfl rfl (.tmp rfl .nil) (fun w' hk => ?_)
      exact Ret.mk p hp (by unfold findV; rw [if_pos hb]; rfl) hk sA
theorem kid_any (d : NodeD) (t : KeyD) (w : World) (hd : d.Ok) (h9 : d.Ks.length ≤ 100000) (ha : AscK d.Ks) (hD : Rd1 w (nodeF d)) :
    Calls Tryz.prog 87 [.pointer (some ⟨d.g, 0, none⟩), t.val].toArray w (Ret (PosK d.Ks t) (fun p => .int .i64 (max (findV d.Ks t p) 0)) (fun _ => []) w) := by
  refine g_enter0 T [] [] [nodeF d] Tryz.func87 rfl Tryz.ntmps87 rfl (Rds.cons hD .nil).kn ?_
  (repeat (refine gG ?_; try intro _))
  refine g_mv rfl ?_; refine mv_call_rt (fun w hk => find_any d t w hd h9 ha (hk.rR mE)) rfl rfl rfl rfl rfl (by kernel_rfl) (fun _ => rfl) (fun p hp => ?_)
  have hbd := findV_bd hp h9
  refine g_yd rfl rfl (Ys.yd (ys_max (max (findV d.Ks t p) 0) rfl rfl rfl (by split <;> omega))) ?_
  (repeat (refine gG ?_; try intro _))
  refine gk_ret hT rfl rfl (.tmp rfl .nil) (fun w' hk => ?_)
  exact Ret.mk p hp rfl hk sA
end Go.Proofs.YtaghmffgoomebaaGreat.Nd
namespace Go.Proofs.YtaghmffgoomebaaGreat.Nd
open Go.RowKit Mem Gx
set_option linter.unusedVariables false
set_option linter.unusedSimpArgs false
theorem pos_ex (L : List KeyD) (t : KeyD) (ha : AscK L) : ∃ p, PosK L t p := by
  have key : ∀ j, j ≤ L.length → ∃ p, p ≤ j ∧ (∀ m, m < p → klt (L.getD m default) t) ∧ (∀ m, p ≤ m → m < j → ¬ klt (L.getD m default) t) := by
    intro j
    induction j with
    | zero => intro _; exact ⟨0, Nat.le_refl _, fun m h => by omega, fun m h1 h2 => by omega⟩
    | succ j ih =>
      intro hj
      obtain ⟨p, h1, h2, h3⟩ := ih (by omega)
      by_cases hk : klt (L.getD j default) t
      · refine ⟨j + 1, Nat.le_refl _, fun m hm => ?_, fun m h4 h5 => by omega⟩
        rcases Nat.lt_or_ge m j with h | h
        · exact klt_trans (ha m j h (by omega)) hk
        · obtain rfl : m = j := by omega
          exact hk
      · refine ⟨p, by omega, h2, fun m h4 h5 => ?_⟩
        rcases Nat.lt_or_ge m j with h | h
        · exact h3 m h4 h
        · obtain rfl : m = j := by omega
          exact hk
  obtain ⟨p, h1, h2, h3⟩ := key L.length (Nat.le_refl _)
  exact ⟨p, h1, h2, h3⟩
theorem key_eq {x y : KeyD} (h1 : ¬ klt x y) (h2 : ¬ klt y x) : x = y := by
  unfold klt at h1 h2
  exact key_ext (by omega) (by omega) (by omega)
theorem klt_irr {x : KeyD} : ¬ klt x x := by unfold klt; omega
theorem klt_asym {x y : KeyD} (h : klt x y) : ¬ klt y x := by unfold klt at *; omega
/-- A row's first entries, and one more. -/
def ins (W : List EntD) (p : Nat) (e : EntD) (i : Nat) : List EntD := if p < i then W.take p ++ [e] ++ (W.take i).drop p else W.take i
end Go.Proofs.YtaghmffgoomebaaGreat.Nd
