/- slices.BinarySearchFunc at keys; slices.Insert and slices.Delete at entries. -/
import Derived.Test.YtaghmffgoomebaaGreatNd3
import Derived.Test.YtaghmffgoomebaaGreatGxL
namespace Go.Proofs.YtaghmffgoomebaaGreat.Nd
open Go.RowKit Mem Gx
set_option linter.unusedVariables false
set_option linter.unusedSimpArgs false
set_option maxRecDepth 100000
set_option maxHeartbeats 4000000
theorem klt_trans {a b c : KeyD} (h1 : klt a b) (h2 : klt b c) : klt a c := by unfold klt at *; omega
/-- Keys that rise. -/
def AscK (L : List KeyD) : Prop := ∀ i j, i < j → j < L.length → klt (L.getD i default) (L.getD j default)
/-- Where a key stands, or would stand. -/
structure PosK (L : List KeyD) (t : KeyD) (p : Nat) : Prop where
  le : p ≤ L.length
  lo : ∀ m, m < p → klt (L.getD m default) t
  hi : ∀ m, p ≤ m → m < L.length → ¬ klt (L.getD m default) t
theorem getD_at {α : Type} [Inhabited α] {L : List α} {i : Nat} {x : α} (h : L[i]? = some x) : L.getD i default = x := by rw [List.getD_eq_getElem?_getD, h]; rfl
theorem bsearch_any (A : Option Addr) (n c : Nat) (L : List KeyD) (t : KeyD) (w : World) (hn : n = L.length) (h9 : n ≤ 1000000) (ha : AscK L) (hs : Sl w A 3 KE L) :
    Calls Tryz.prog 89 [.slice A n c, t.val, .func (.func 90) #[] #[]].toArray w (Ret (PosK L t) (fun p => .tuple #[.int .i64 (p : Int), .bool (tB (L[p]? = some t))]) (fun _ => []) w) := by
  refine g_enter0 T [] [] [sl A 3 KE L] Tryz.func89 rfl Tryz.ntmps89 rfl ((Kn.start w).argR hs (by decide) (fun _ h => by cases h)) ?_
  (repeat (refine gG ?_; try intro _))
  rename_i g4
  refine gk_loop_sel (fun (q : Nat × Nat) => match q with | (i, j) => i ≤ j ∧ j ≤ n ∧ (∀ m, m < i → klt (L.getD m default) t) ∧ (∀ m, j ≤ m → m < n → ¬ klt (L.getD m default) t)) (fun (q : Nat × Nat) => match q with | (i, j) => [(0, .slice A n c), (2, .func (.func 90) #[] #[]), (4, .pointer (some ⟨g4, 0, none⟩)), (8, .int .i64 n), (9, .int .i64 i), (10, .int .i64 j)]) (fun (q : Nat × Nat) => match q with | (i, j) => [blk g4 [.int .u16 t.v, .int .u32 t.b, .int .u64 t.s] 29]) (fun (q : Nat × Nat) => match q with | (i, j) => [sl A 3 KE L]) (fun (q : Nat × Nat) => match q with | (i, j) => j - i) (0, n) rfl ⟨Nat.zero_le _, Nat.le_refl _, fun m h => by omega, fun m h1 h2 => by omega⟩ (by repeat (first | exact trivial | refine ⟨rfl, ?_⟩)) sA sS ?_
  rintro ⟨i, j⟩ hI
  replace hI : i ≤ j ∧ j ≤ n ∧ (∀ m, m < i → klt (L.getD m default) t) ∧ (∀ m, j ≤ m → m < n → ¬ klt (L.getD m default) t) := hI
  change GK _ _ [(0, .slice A n c), (2, .func (.func 90) #[] #[]), (4, .pointer (some ⟨g4, 0, none⟩)), (8, .int .i64 n), (9, .int .i64 i), (10, .int .i64 j)] [blk g4 [.int .u16 t.v, .int .u32 t.b, .int .u64 t.s] 29] [sl A 3 KE L]
  obtain ⟨h1, h2, hlo, hhi⟩ := hI
  (repeat (refine gG ?_; try intro _))
  refine gk_cond rfl rfl (tells_tB _) (fun hlt => ?_) (fun hlt => ?_)
  · (repeat (refine gG ?_; try intro _))
    obtain ⟨m, hm⟩ : ∃ m, m = (i + j) / 2 := ⟨_, rfl⟩
    refine g_say 22 (.int .u64 (m : Int)) rfl (by
      show Value.int .u64 (((i : Int) + (j : Int)).fdiv 2) = _
      rw [Int.fdiv_eq_ediv_of_nonneg _ (by decide)]
      congr 1
      omega) ?_
    have hmj : i ≤ m ∧ m < j := by omega
    clear hm
    (repeat (refine gG ?_; try intro _))
    obtain ⟨x, hx⟩ : ∃ x, L[m]? = some x := ⟨L[m], List.getElem?_eq_getElem (by omega)⟩
    have hxd := getD_at hx
    refine gk_elem (enc := KE) (L := L) m mE (by omega) (by decide) (fun b0 o0 x' eA hx' => ?_)
    subst eA
    obtain rfl : x = x' := by rw [hx] at hx'; exact Option.some.inj hx'
    refine gk_any [0, 1] (Cut _ (fun _ : Unit => [(0, .slice (some ⟨b0, o0, none⟩) n c), (2, .func (.func 90) #[] #[]), (4, .pointer (some ⟨g4, 0, none⟩)), (8, .int .i64 n), (9, .int .i64 i), (10, .int .i64 j), (11, .int .i64 m), (31, .bool (tB (kcmp x t < 0)))]) (fun _ => [blk g4 [.int .u16 t.v, .int .u32 t.b, .int .u64 t.s] 29]) (fun _ => [sl (some ⟨b0, o0, none⟩) 3 KE L])) rfl rfl (by kernel_rfl) ?_ (cut_k fun _ => ?_)
    · skip
      refine gb_take 0 rfl (by decide +kernel) rfl rfl (ys_ev (nw := true) hT rfl sI) sF ?_
      refine gb_take 1 rfl (by decide +kernel) rfl rfl (ys_ev (nw := true) hT rfl sI) sF ?_
      refine gb_take 2 rfl (by decide +kernel) rfl rfl (ys_ev (nw := true) hT rfl sI) sF ?_
      refine gb_take 3 rfl (by decide +kernel) rfl rfl (ys_ev (nw := true) hT rfl sI) sF ?_
      refine gb_take 4 rfl (by decide +kernel) rfl rfl (by first | exact ys_blk hT rfl rfl mE rfl rfl | exact ys_row hT rfl rfl mE rfl rfl | exact ys_row0 hT rfl rfl mE rfl rfl) sF ?_
      refine gb_take 5 rfl (by decide +kernel) rfl rfl (by first | exact ys_blk hT rfl rfl mE rfl rfl | exact ys_row hT rfl rfl mE rfl rfl | exact ys_row0 hT rfl rfl mE rfl rfl) sF ?_
      refine gb_only 6 (by decide +kernel) rfl rfl ?_
      refine mv_call_bel (fun w hk => kcmp_any x t w) rfl rfl rfl rfl rfl (by kernel_rfl) ?_
      refine ⟨sF, ?_⟩
      refine gb_take 7 rfl (by decide +kernel) rfl rfl (ys_ev (nw := true) hT rfl sI) sF ?_
      refine gb_nil (by decide +kernel) ?_
      exact ⟨(), (by repeat (first | exact trivial | refine ⟨rfl, ?_⟩)), sA, sS⟩
    · refine gk_cond rfl rfl (tells_tB _) (fun hc => ?_) (fun hc => ?_)
      · rw [kcmp_neg] at hc
        (repeat (refine gG ?_; try intro _))
        refine gk_again_sel rfl (m + 1, j) ⟨by omega, h2, fun q hq => by
          rcases Nat.lt_or_ge q m with h | h
          · exact klt_trans (ha q m h (by omega)) (hxd ▸ hc)
          · obtain rfl : q = m := by omega
            exact hxd ▸ hc, hhi⟩ (by dsimp only; omega) (by repeat (first | exact trivial | refine ⟨rfl, ?_⟩)) sA sS
      · rw [kcmp_neg] at hc
        (repeat (refine gG ?_; try intro _))
        refine gk_again_sel rfl (i, m) ⟨hmj.1, by omega, hlo, fun q h3 h4 h5 => by
          rcases Nat.lt_or_ge m q with h | h
          · exact hc (hxd ▸ klt_trans (ha m q h (by omega)) h5)
          · obtain rfl : q = m := by omega
            exact hc (hxd ▸ h5)⟩ (by dsimp only; omega) (by repeat (first | exact trivial | refine ⟨rfl, ?_⟩)) sA sS
  · have hij : i = j := by omega
    subst hij
    have hpos : PosK L t i := ⟨by omega, hlo, fun m a b => hhi m a (by omega)⟩
    (repeat (refine gG ?_; try intro _))
    by_cases hin : i < n
    · obtain ⟨x, hx⟩ : ∃ x, L[i]? = some x := ⟨L[i], List.getElem?_eq_getElem (by omega)⟩
      refine gk_elem (enc := KE) (L := L) i mE (by omega) (by decide) (fun b0 o0 x' eA hx' => ?_)
      subst eA
      obtain rfl : x = x' := by rw [hx] at hx'; exact Option.some.inj hx'
      refine gk_any [0, 1] (Cut _ (fun _ : Unit => [(6, .int .i64 i), (7, .bool (tB (kcmp x t = 0)))]) (fun _ => []) (fun _ => [])) rfl rfl (by kernel_rfl) ?_ (cut_k fun _ => ?_)
      · skip
        refine gb_take 0 rfl (by decide +kernel) rfl rfl (ys_ev (nw := true) hT rfl sI) sF ?_
        refine gb_take 1 rfl (by decide +kernel) rfl rfl (ys_ev (nw := true) hT rfl sI) sF ?_
        refine gb_take 2 rfl (by decide +kernel) rfl rfl (ys_ev (nw := true) hT rfl sI) sF ?_
        refine gb_take 3 rfl (by decide +kernel) rfl rfl (ys_ev (nw := true) hT rfl sI) sF ?_
        try (refine gb_say 38 (.bool true) rfl (congrArg Value.bool (tB_true (by omega))) ?_)
        refine gb_take 4 rfl (by decide +kernel) rfl rfl (ys_ev (nw := true) hT rfl sI) sF ?_
        first | refine gb_take 5 rfl (by decide +kernel) rfl rfl (ys_ev (nw := true) hT rfl sI) sF ?_ | refine gb_skip 5 rfl (by decide +kernel) rfl rfl sF ?_
        first | refine gb_take 6 rfl (by decide +kernel) rfl rfl (ys_ev (nw := true) hT rfl sI) sF ?_ | refine gb_skip 6 rfl (by decide +kernel) rfl rfl sF ?_
        first | refine gb_take 7 rfl (by decide +kernel) rfl rfl (ys_ev (nw := true) hT rfl sI) sF ?_ | refine gb_skip 7 rfl (by decide +kernel) rfl rfl sF ?_
        first | refine gb_take 8 rfl (by decide +kernel) rfl rfl (ys_ev (nw := true) hT rfl sI) sF ?_ | refine gb_skip 8 rfl (by decide +kernel) rfl rfl sF ?_
        first | refine gb_take 9 rfl (by decide +kernel) rfl rfl (by first | exact ys_blk hT rfl rfl mE rfl rfl | exact ys_row hT rfl rfl mE rfl rfl | exact ys_row0 hT rfl rfl mE rfl rfl) sF ?_ | refine gb_skip 9 rfl (by decide +kernel) rfl rfl sF ?_
        first | refine gb_take 10 rfl (by decide +kernel) rfl rfl (by first | exact ys_blk hT rfl rfl mE rfl rfl | exact ys_row hT rfl rfl mE rfl rfl | exact ys_row0 hT rfl rfl mE rfl rfl) sF ?_ | refine gb_skip 10 rfl (by decide +kernel) rfl rfl sF ?_
        first | refine gb_skip 11 rfl (by decide +kernel) rfl rfl sF ?_ | (refine gb_only 11 (by decide +kernel) rfl rfl ?_; (refine mv_call_bel (fun w hk => kcmp_any x t w) rfl rfl rfl rfl rfl (by kernel_rfl) ?_); refine ⟨sF, ?_⟩)
        first | refine gb_take 12 rfl (by decide +kernel) rfl rfl (ys_ev (nw := true) hT rfl sI) sF ?_ | refine gb_skip 12 rfl (by decide +kernel) rfl rfl sF ?_
        refine gb_take 13 rfl (by decide +kernel) rfl rfl (ys_ev (nw := true) hT rfl sI) sF ?_
        refine gb_take 14 rfl (by decide +kernel) rfl rfl (ys_ev (nw := true) hT rfl sI) sF ?_
        refine gb_take 15 rfl (by decide +kernel) rfl rfl (ys_ev (nw := true) hT rfl sI) sF ?_
        refine gb_nil (by decide +kernel) ?_
        exact ⟨(), (by repeat (first | exact trivial | refine ⟨rfl, ?_⟩)), sA, sS⟩
      · (repeat (refine gG ?_; try intro _))
        refine gk_ret hT rfl rfl (.tmp rfl (.tmp rfl .nil)) (fun w' hk => ?_)
        refine Ret.mk i hpos ?_ hk sA
        show Value.tuple #[.int .i64 (i : Int), .bool (tB (kcmp x t = 0))] = _
        rw [tB_congr (p := kcmp x t = 0) (q := L[i]? = some t) ⟨fun h => by rw [hx, (kcmp_zero x t).1 h], fun h => by rw [hx] at h; rw [Option.some.inj h]; exact (kcmp_zero t t).2 rfl⟩]
    · refine gk_any [0, 1] (Cut _ (fun _ : Unit => [(6, .int .i64 i), (7, .bool false)]) (fun _ => []) (fun _ => [])) rfl rfl (by kernel_rfl) ?_ (cut_k fun _ => ?_)
      · skip
        refine gb_take 0 rfl (by decide +kernel) rfl rfl (ys_ev (nw := true) hT rfl sI) sF ?_
        refine gb_take 1 rfl (by decide +kernel) rfl rfl (ys_ev (nw := true) hT rfl sI) sF ?_
        refine gb_take 2 rfl (by decide +kernel) rfl rfl (ys_ev (nw := true) hT rfl sI) sF ?_
        refine gb_take 3 rfl (by decide +kernel) rfl rfl (ys_ev (nw := true) hT rfl sI) sF ?_
        try (refine gb_say 38 (.bool false) rfl (congrArg Value.bool (tB_false (by omega))) ?_)
        refine gb_take 4 rfl (by decide +kernel) rfl rfl (ys_ev (nw := true) hT rfl sI) sF ?_
        first | refine gb_take 5 rfl (by decide +kernel) rfl rfl (ys_ev (nw := true) hT rfl sI) sF ?_ | refine gb_skip 5 rfl (by decide +kernel) rfl rfl sF ?_
        first | refine gb_take 6 rfl (by decide +kernel) rfl rfl (ys_ev (nw := true) hT rfl sI) sF ?_ | refine gb_skip 6 rfl (by decide +kernel) rfl rfl sF ?_
        first | refine gb_take 7 rfl (by decide +kernel) rfl rfl (ys_ev (nw := true) hT rfl sI) sF ?_ | refine gb_skip 7 rfl (by decide +kernel) rfl rfl sF ?_
        first | refine gb_take 8 rfl (by decide +kernel) rfl rfl (ys_ev (nw := true) hT rfl sI) sF ?_ | refine gb_skip 8 rfl (by decide +kernel) rfl rfl sF ?_
        first | refine gb_take 9 rfl (by decide +kernel) rfl rfl (by first | exact ys_blk hT rfl rfl mE rfl rfl | exact ys_row hT rfl rfl mE rfl rfl | exact ys_row0 hT rfl rfl mE rfl rfl) sF ?_ | refine gb_skip 9 rfl (by decide +kernel) rfl rfl sF ?_
        first | refine gb_take 10 rfl (by decide +kernel) rfl rfl (by first | exact ys_blk hT rfl rfl mE rfl rfl | exact ys_row hT rfl rfl mE rfl rfl | exact ys_row0 hT rfl rfl mE rfl rfl) sF ?_ | refine gb_skip 10 rfl (by decide +kernel) rfl rfl sF ?_
        first | refine gb_skip 11 rfl (by decide +kernel) rfl rfl sF ?_ | (refine gb_only 11 (by decide +kernel) rfl rfl ?_; (skip); refine ⟨sF, ?_⟩)
        first | refine gb_take 12 rfl (by decide +kernel) rfl rfl (ys_ev (nw := true) hT rfl sI) sF ?_ | refine gb_skip 12 rfl (by decide +kernel) rfl rfl sF ?_
        refine gb_take 13 rfl (by decide +kernel) rfl rfl (ys_ev (nw := true) hT rfl sI) sF ?_
        refine gb_take 14 rfl (by decide +kernel) rfl rfl (ys_ev (nw := true) hT rfl sI) sF ?_
        refine gb_take 15 rfl (by decide +kernel) rfl rfl (ys_ev (nw := true) hT rfl sI) sF ?_
        refine gb_nil (by decide +kernel) ?_
        exact ⟨(), (by repeat (first | exact trivial | refine ⟨rfl, ?_⟩)), sA, sS⟩
      · (repeat (refine gG ?_; try intro _))
        refine gk_ret hT rfl rfl (.tmp rfl (.tmp rfl .nil)) (fun w' hk => ?_)
        refine Ret.mk i hpos ?_ hk sA
        rw [tB_false (show ¬ L[i]? = some t from fun h => by
          have := (List.getElem?_eq_some_iff.1 h).1
          omega)]
        rfl
theorem oneE : ∀ (x : EntD) (j : Nat), (EE x j).oneCell' = true := by intro x j; rcases j with _ | _ | _ | j <;> rfl
theorem insert_any (base : Nat) (A : Option Addr) (n c : Nat) (L : List EntD) (i : Nat) (y : EntD) (g0 : Nat) (w : World) (h : OwnL w base 31 4 (.slice A n c) EE L) (h9 : L.length ≤ 100000) (hi : i ≤ L.length) (hb : base ≤ w.heap.size) (h0 : w.heap[g0]? = some (.cells [.int .u16 y.k.v, .int .u32 y.k.b, .int .u64 y.k.s, .int .u32 y.a].toArray 31 (0, 0))) (hne : (Value.slice A n c).ownBlock ≠ some g0) :
    Calls Tryz.prog 91 [.slice A n c, .int .i64 i, .slice (some ⟨g0, 0, none⟩) 1 1].toArray w fun e w' => ∃ v', e = .returned v' ∧ OwnL w' base 31 4 v' EE (L.take i ++ [y] ++ L.drop i) ∧ Grew w w' (.slice A n c) v' := by
  have hnl : n = L.length ∧ n ≤ c := by
    obtain ⟨A', c', hv, _, h1, _⟩ := OwnL.sl h
    injection hv with e1 e2 e3
    exact ⟨e2, by omega⟩
  obtain ⟨hn, hnc⟩ := hnl
  have hk0 : Kn (ownE (.slice A n c)) w w [own base 31 4 (.slice A n c) EE L] [blk g0 [.int .u16 y.k.v, .int .u32 y.k.b, .int .u64 y.k.s, .int .u32 y.a] 31] := by
    refine (Kn.startG h).addR _ h0 (fun b hb => ?_) (fun φ hφ b hb hb' => ?_)
    · have : b = g0 := hb
      subst this
      rcases Nat.lt_or_ge b w.heap.size with h' | h'
      · exact h'
      · rw [Array.getElem?_eq_none h'] at h0; cases h0
    · obtain rfl := List.mem_singleton.1 hφ
      have e1 : b = g0 := hb'
      have e2 : (Value.slice A n c).ownBlock = some b := hb
      exact hne (by rw [e2, e1])
  refine g_enter0 T (ownE (.slice A n c)) [own base 31 4 (.slice A n c) EE L] [blk g0 [.int .u16 y.k.v, .int .u32 y.k.b, .int .u64 y.k.s, .int .u32 y.a] 31] Tryz.func91 rfl Tryz.ntmps91 rfl hk0 ?_
  (repeat (refine gG ?_; try intro _))
  refine g_yd rfl rfl (Ys.yd (ys_slice_l hT i rfl rfl rfl rfl rfl (by omega))) ?_
  by_cases hin : i = n
  · (repeat' (first | (refine gG ?_; try intro _) | ((first | refine g_split rfl rfl tE (fun _ => ?_) (fun _ => ?_) | refine gk_cond rfl rfl tE (fun _ => ?_) (fun _ => ?_)) <;> (try first | (exfalso; omega; done) | (rename_i hx; exact absurd rfl hx) | (rename_i hx; cases hx; done)))))
    refine g_mv rfl (mv_append rfl [y] rfl rfl rfl rfl elt_E (by intro _; first | ((repeat (first | with_reducible exact Upd.here _ | with_reducible apply Upd.there)); done) | ((repeat (first | exact Upd.here _ | apply Upd.there)); done) | fail) (src_blkR mE rfl) rfl oneE (by simp only [maxLen, List.length_cons, List.length_nil]; omega) (by simp only [List.length_cons, List.length_nil]; omega) hb (fun v1 => ?_))
    (repeat (refine gG ?_; try intro _))
    refine gk_ret hT rfl rfl (.tmp rfl .nil) (fun w' hk => ?_)
    obtain ⟨q1, q2⟩ := Kn.outG (L := L ++ [y]) (base := base) (e := 31) (sz := 4) (enc := EE) (v' := v1) hk mE (by simp)
    refine ⟨v1, rfl, ?_, q2⟩
    subst hin
    rw [hn, List.take_length, List.drop_length, List.append_nil]
    exact q1
  · have hi' : i < n := by omega
    obtain ⟨g, rfl⟩ : ∃ g, A = some ⟨g, 0, none⟩ := by
      rcases h.2 with ⟨_, h2⟩ | ⟨g, cap, cur, hv, _⟩
      · omega
      · injection hv with e1 e2 e3
        exact ⟨g, e1⟩
    have e4 : flatF 4 EE L = flatF 4 EE (L.take i) ++ flatF 4 EE (L.drop i) := by rw [← flatF_append, List.take_append_drop]
    have lT : (flatF 4 EE (L.take i)).length = i * 4 := by rw [flatF_length, List.length_take, Nat.min_eq_left hi]
    have lD : (flatF 4 EE (L.drop i)).length = (n - i) * 4 := by rw [flatF_length, List.length_drop, hn]
    have lY : (flatF 4 EE [y]).length = 4 := by rw [flatF_length]; rfl
    have eR : flatF 4 EE (L.take i ++ [y] ++ L.drop i) = flatF 4 EE (L.take i) ++ flatF 4 EE [y] ++ flatF 4 EE (L.drop i) := by rw [flatF_append, flatF_append]
    have lR : (L.take i ++ [y] ++ L.drop i).length = n + 1 := by simp only [List.length_append, List.length_take, List.length_drop, List.length_cons, List.length_nil]; omega
    by_cases hroom : n + 1 ≤ c
    · (repeat' (first | (refine gG ?_; try intro _) | ((first | refine g_split rfl rfl tE (fun _ => ?_) (fun _ => ?_) | refine gk_cond rfl rfl tE (fun _ => ?_) (fun _ => ?_)) <;> (try first | (exfalso; omega; done) | (rename_i hx; exact absurd rfl hx) | (rename_i hx; cases hx; done)))))
      refine g_yd rfl rfl (Ys.yd (ys_cap hT rfl rfl rfl rfl rfl)) ?_
      (repeat' (first | (refine gG ?_; try intro _) | ((first | refine g_split rfl rfl tE (fun _ => ?_) (fun _ => ?_) | refine gk_cond rfl rfl tE (fun _ => ?_) (fun _ => ?_)) <;> (try first | (exfalso; omega; done) | (rename_i hx; exact absurd rfl hx) | (rename_i hx; cases hx; done)))))
      refine g_yd rfl rfl (Ys.yd (ys_slice_h hT (n + 1) rfl rfl rfl rfl (by push_cast; rfl) hroom)) ?_
      refine g_say 60 (.slice (some ⟨g, 0, none⟩) (n + 1) c) rfl (by rw [shA_0]) ?_
      (repeat' (first | (refine gG ?_; try intro _) | ((first | refine g_split rfl rfl tE (fun _ => ?_) (fun _ => ?_) | refine gk_cond rfl rfl tE (fun _ => ?_) (fun _ => ?_)) <;> (try first | (exfalso; omega; done) | (rename_i hx; exact absurd rfl hx) | (rename_i hx; cases hx; done)))))
      refine g_yd rfl rfl (Ys.yd (ys_slice_l hT (i + 1) rfl rfl rfl rfl (by push_cast; rfl) (by omega))) ?_
      refine g_say 66 (.slice (some ⟨g, (i + 1) * 4, none⟩) (n + 1 - (i + 1)) (c - (i + 1))) rfl (by rw [shA_at (by omega)]) ?_
      refine g_own_blk (α := EntD) (sz := 4) (enc := EE) (L := L) (by decide) (by intro _; first | ((repeat (first | with_reducible exact Upd.here _ | with_reducible apply Upd.there)); done) | ((repeat (first | exact Upd.here _ | apply Upd.there)); done) | fail) (fun rest hl0 _ _ hcm hbg => ?_)
      refine g_mv rfl (mv_overlaps (tS := 22) (tR := 4) (sz := 4) rfl rfl rfl rfl rfl Tryz.func121 (by kernel_rfl) (by kernel_rfl) (by kernel_rfl) (by kernel_rfl) Tryz.underlying22 (by kernel_rfl) mE mE (by rw [hl0]; omega) ?_)
      have hsrc : flatF 4 EE (L.drop i) = ((flatF 4 EE L ++ rest).drop (i * 4)).take ((n - i) * 4) := by rw [e4, List.append_assoc, List.drop_left' lT, List.take_left' lD]
      (repeat' (first | (refine gG ?_; try intro _) | ((first | refine g_split rfl rfl tE (fun _ => ?_) (fun _ => ?_) | refine gk_cond rfl rfl tE (fun _ => ?_) (fun _ => ?_)) <;> (try first | (exfalso; omega; done) | (rename_i hx; exact absurd rfl hx) | (rename_i hx; cases hx; done)))))
      refine gk_any [] (Cut _ (fun _ : Unit => [(0, .slice (some ⟨g, 0, none⟩) (n + 1) c), (1, .int .i64 i), (2, .slice (some ⟨g0, 0, none⟩) 1 1)]) (fun _ => [blk g (lay (flatF 4 EE L ++ rest) ((i + 1) * 4) (flatF 4 EE (L.drop i))) 31]) (fun _ => [blk g0 [.int .u16 y.k.v, .int .u32 y.k.b, .int .u64 y.k.s, .int .u32 y.a] 31])) rfl rfl (by kernel_rfl) ?_ (cut_k fun _ => ?_)
      · skip
        refine gb_take 0 rfl (by decide +kernel) rfl rfl (ys_ev (nw := true) hT rfl sI) sF ?_
        refine gb_take 1 rfl (by decide +kernel) rfl rfl (ys_ev (nw := true) hT rfl sI) sF ?_
        refine gb_take 2 rfl (by decide +kernel) rfl rfl (ys_ev (nw := true) hT rfl sI) sF ?_
        refine gb_take 3 rfl (by decide +kernel) rfl rfl (ys_ev (nw := true) hT rfl sI) sF ?_
        refine gb_take 4 rfl (by decide +kernel) rfl rfl (ys_slice_l hT (i + 1) rfl rfl rfl rfl (by push_cast; rfl) (by omega)) sF ?_
        try (refine gb_say 73 (.slice (some ⟨g, (i + 1) * 4, none⟩) (n + 1 - (i + 1)) (c - (i + 1))) rfl (by rw [shA_at (by omega)]) ?_)
        refine gb_take 5 rfl (by decide +kernel) rfl rfl (ys_ev (nw := true) hT rfl sI) sF ?_
        refine gb_take 6 rfl (by decide +kernel) rfl rfl (ys_ev (nw := true) hT rfl sI) sF ?_
        refine gb_take 7 rfl (by decide +kernel) rfl rfl (ys_slice_l hT i rfl rfl rfl rfl rfl (by omega)) sF ?_
        try (refine gb_say 76 (.slice (some ⟨g, i * 4, none⟩) (n + 1 - i) (c - i)) rfl (by rw [shA_at (by omega)]) ?_)
        refine gb_only 8 (by decide +kernel) rfl rfl ?_
        refine mv_copy rfl hT (flatF 4 EE (L.drop i)) rfl rfl rfl rfl rfl (by first | ((repeat (first | with_reducible exact Upd.here _ | with_reducible apply Upd.there)); done) | ((repeat (first | exact Upd.here _ | apply Upd.there)); done) | fail) (srcc_blk mE _ hsrc) (by rw [lD]; show _ = min (n + 1 - i) (n + 1 - (i + 1)) * 4; congr 1; omega) (by rw [lD, hl0]; omega) (flatF_one 4 EE oneE _) ?_
        refine ⟨sF, ?_⟩
        refine gb_nil (by decide +kernel) ?_
        exact ⟨(), (by repeat (first | exact trivial | refine ⟨rfl, ?_⟩)), sA, sS⟩
      · (repeat (refine gG ?_; try intro _))
        refine g_yd rfl rfl (Ys.yd (ys_slice_l hT i rfl rfl rfl rfl rfl (by omega))) ?_
        refine g_say 80 (.slice (some ⟨g, i * 4, none⟩) (n + 1 - i) (c - i)) rfl (by rw [shA_at (by omega)]) ?_
        (repeat (refine gG ?_; try intro _))
        have hll : (lay (flatF 4 EE L ++ rest) ((i + 1) * 4) (flatF 4 EE (L.drop i))).length = c * 4 := by rw [lay_len (by rw [lD, hl0]; omega), hl0]
        refine g_mv rfl (mv_copy rfl hT (flatF 4 EE [y]) rfl rfl rfl rfl rfl (by first | ((repeat (first | with_reducible exact Upd.here _ | with_reducible apply Upd.there)); done) | ((repeat (first | exact Upd.here _ | apply Upd.there)); done) | fail) (srcc_blkR (m := 4) mE _ rfl) (by rw [lY]; show _ = min 1 (n + 1 - i) * 4; rw [Nat.min_eq_left (by omega)]) (by rw [lY, hll]; omega) (flatF_one 4 EE oneE _) ?_)
        (repeat (refine gG ?_; try intro _))
        refine gk_blk_own (sz := 4) (enc := EE) (n := n + 1) (c := c) (base := base) (L.take i ++ [y] ++ L.drop i) (by decide) (by first | ((repeat (first | with_reducible exact Upd.here _ | with_reducible apply Upd.there)); done) | ((repeat (first | exact Upd.here _ | apply Upd.there)); done) | fail) (by rw [lay_len (by rw [lY, hll]; omega), hll]) lR.symm hroom hcm hbg ?_ ?_
        · rw [e4, List.append_assoc, lay_app2 _ _ _ (k := 4) (by rw [lT]; omega), lay_app _ _ _ lT.symm, eR, lY]
          have lD4 : ((flatF 4 EE (L.drop i) ++ rest).take 4).length = 4 := by rw [List.length_take, List.length_append, lD]; omega
          have e5 : (lay (flatF 4 EE (L.drop i) ++ rest) 4 (flatF 4 EE (L.drop i))).drop 4 = flatF 4 EE (L.drop i) ++ (flatF 4 EE (L.drop i) ++ rest).drop (4 + (flatF 4 EE (L.drop i)).length) := by
            unfold lay
            rw [List.append_assoc, List.drop_left' lD4]
          rw [e5, ← List.append_assoc]
          exact List.take_left' (by rw [List.length_append, List.length_append, lT, lY, lD]; omega)
        · refine gk_ret hT rfl rfl (.tmp rfl .nil) (fun w' hk => ?_)
          obtain ⟨q1, q2⟩ := Kn.outG' (L := L.take i ++ [y] ++ L.drop i) (base := base) (e := 31) (sz := 4) (enc := EE) (v := .slice (some ⟨g, 0, none⟩) n c) hk mE
          exact ⟨_, rfl, q1, q2⟩
    · (repeat' (first | (refine gG ?_; try intro _) | ((first | refine g_split rfl rfl tE (fun _ => ?_) (fun _ => ?_) | refine gk_cond rfl rfl tE (fun _ => ?_) (fun _ => ?_)) <;> (try first | (exfalso; omega; done) | (rename_i hx; exact absurd rfl hx) | (rename_i hx; cases hx; done)))))
      refine g_yd rfl rfl (Ys.yd (ys_cap hT rfl rfl rfl rfl rfl)) ?_
      (repeat' (first | (refine gG ?_; try intro _) | ((first | refine g_split rfl rfl tE (fun _ => ?_) (fun _ => ?_) | refine gk_cond rfl rfl tE (fun _ => ?_) (fun _ => ?_)) <;> (try first | (exfalso; omega; done) | (rename_i hx; exact absurd rfl hx) | (rename_i hx; cases hx; done)))))
      refine g_yd rfl rfl (Ys.yd (ys_slice_h hT i rfl rfl rfl rfl rfl (by omega))) ?_
      refine g_say 34 (.slice (some ⟨g, 0, none⟩) i c) rfl (by rw [shA_0]) ?_
      (repeat' (first | (refine gG ?_; try intro _) | ((first | refine g_split rfl rfl tE (fun _ => ?_) (fun _ => ?_) | refine gk_cond rfl rfl tE (fun _ => ?_) (fun _ => ?_)) <;> (try first | (exfalso; omega; done) | (rename_i hx; exact absurd rfl hx) | (rename_i hx; cases hx; done)))))
      refine g_own_blk (α := EntD) (sz := 4) (enc := EE) (L := L) (by decide) (by intro _; first | ((repeat (first | with_reducible exact Upd.here _ | with_reducible apply Upd.there)); done) | ((repeat (first | exact Upd.here _ | apply Upd.there)); done) | fail) (fun rest hl0 _ _ hcm hbg => ?_)
      refine g_mv rfl (mv_zeros (kn := .i64) (bytes := 24) (j := n + 1 - i) rfl rfl rfl rfl rfl elt_E Tryz.underlying3 mE (by omega) (by omega) (by omega) (by rw [hl0]; omega) (by unfold maxLen; omega) (by omega) (fun g' cap zs hg' hcap hcm' hz => ?_))
      rw [show (flatF 4 EE L ++ rest).take (i * 4) = flatF 4 EE (L.take i) by rw [e4, List.append_assoc]; exact List.take_left' lT]
      have hsrc : flatF 4 EE (L.drop i) = ((flatF 4 EE L ++ rest).drop (i * 4)).take ((n - i) * 4) := by rw [e4, List.append_assoc, List.drop_left' lT, List.take_left' lD]
      have eN : i + (n + 1 - i) = n + 1 := by omega
      refine g_say 40 (.slice (some ⟨g', 0, none⟩) (n + 1) cap) rfl (by rw [eN]) ?_
      (repeat' (first | (refine gG ?_; try intro _) | ((first | refine g_split rfl rfl tE (fun _ => ?_) (fun _ => ?_) | refine gk_cond rfl rfl tE (fun _ => ?_) (fun _ => ?_)) <;> (try first | (exfalso; omega; done) | (rename_i hx; exact absurd rfl hx) | (rename_i hx; cases hx; done)))))
      refine g_yd rfl rfl (Ys.yd (ys_slice_l hT i rfl rfl rfl rfl rfl (by omega))) ?_
      refine g_say 43 (.slice (some ⟨g', i * 4, none⟩) (n + 1 - i) (cap - i)) rfl (by rw [shA_at (by omega)]) ?_
      (repeat' (first | (refine gG ?_; try intro _) | ((first | refine g_split rfl rfl tE (fun _ => ?_) (fun _ => ?_) | refine gk_cond rfl rfl tE (fun _ => ?_) (fun _ => ?_)) <;> (try first | (exfalso; omega; done) | (rename_i hx; exact absurd rfl hx) | (rename_i hx; cases hx; done)))))
      refine g_mv rfl (mv_copy rfl hT (flatF 4 EE [y]) rfl rfl rfl rfl rfl (by first | ((repeat (first | with_reducible exact Upd.here _ | with_reducible apply Upd.there)); done) | ((repeat (first | exact Upd.here _ | apply Upd.there)); done) | fail) (srcc_blkR (m := 4) mE _ rfl) (by rw [lY]; show _ = min 1 (n + 1 - i) * 4; rw [Nat.min_eq_left (by omega)]) (by rw [lY, List.length_append, lT, hz]; omega) (flatF_one 4 EE oneE _) ?_)
      rw [lay_app _ _ _ lT.symm, lY]
      have lZ : (flatF 4 EE (L.take i) ++ flatF 4 EE [y] ++ zs.drop 4).length = cap * 4 := by rw [List.length_append, List.length_append, List.length_drop, lT, lY, hz]; omega
      (repeat' (first | (refine gG ?_; try intro _) | ((first | refine g_split rfl rfl tE (fun _ => ?_) (fun _ => ?_) | refine gk_cond rfl rfl tE (fun _ => ?_) (fun _ => ?_)) <;> (try first | (exfalso; omega; done) | (rename_i hx; exact absurd rfl hx) | (rename_i hx; cases hx; done)))))
      refine gk_any [] (Cut _ (fun _ : Unit => [(9, .slice (some ⟨g', 0, none⟩) (n + 1) cap)]) (fun _ => [blk g' (lay (flatF 4 EE (L.take i) ++ flatF 4 EE [y] ++ zs.drop 4) ((i + 1) * 4) (flatF 4 EE (L.drop i))) 31]) (fun _ => [])) rfl rfl (by kernel_rfl) ?_ (cut_k fun _ => ?_)
      · skip
        refine gb_take 0 rfl (by decide +kernel) rfl rfl (ys_ev (nw := true) hT rfl sI) sF ?_
        refine gb_take 1 rfl (by decide +kernel) rfl rfl (ys_ev (nw := true) hT rfl sI) sF ?_
        refine gb_take 2 rfl (by decide +kernel) rfl rfl (ys_ev (nw := true) hT rfl sI) sF ?_
        refine gb_take 3 rfl (by decide +kernel) rfl rfl (ys_ev (nw := true) hT rfl sI) sF ?_
        refine gb_take 4 rfl (by decide +kernel) rfl rfl (ys_slice_l hT (i + 1) rfl rfl rfl rfl (by push_cast; rfl) (by omega)) sF ?_
        try (refine gb_say 50 (.slice (some ⟨g', (i + 1) * 4, none⟩) (n + 1 - (i + 1)) (cap - (i + 1))) rfl (by rw [shA_at (by omega)]) ?_)
        refine gb_take 5 rfl (by decide +kernel) rfl rfl (ys_ev (nw := true) hT rfl sI) sF ?_
        refine gb_take 6 rfl (by decide +kernel) rfl rfl (ys_ev (nw := true) hT rfl sI) sF ?_
        refine gb_take 7 rfl (by decide +kernel) rfl rfl (ys_slice_l hT i rfl rfl rfl rfl rfl (by omega)) sF ?_
        try (refine gb_say 53 (.slice (some ⟨g, i * 4, none⟩) (n - i) (c - i)) rfl (by rw [shA_at (by omega)]) ?_)
        refine gb_only 8 (by decide +kernel) rfl rfl ?_
        refine mv_copy rfl hT (flatF 4 EE (L.drop i)) rfl rfl rfl rfl rfl (by first | ((repeat (first | with_reducible exact Upd.here _ | with_reducible apply Upd.there)); done) | ((repeat (first | exact Upd.here _ | apply Upd.there)); done) | fail) (srcc_blk mE _ hsrc) (by rw [lD]; show _ = min (n - i) (n + 1 - (i + 1)) * 4; congr 1; omega) (by rw [lD, lZ]; omega) (flatF_one 4 EE oneE _) ?_
        refine ⟨sF, ?_⟩
        refine gb_nil (by decide +kernel) ?_
        exact ⟨(), (by repeat (first | exact trivial | refine ⟨rfl, ?_⟩)), sA, sS⟩
      · (repeat (refine gG ?_; try intro _))
        rw [lay_app _ _ _ (by rw [List.length_append, lT, lY]; omega)]
        refine gk_blk_own (sz := 4) (enc := EE) (n := n + 1) (c := cap) (base := base) (L.take i ++ [y] ++ L.drop i) (by decide) (by first | ((repeat (first | with_reducible exact Upd.here _ | with_reducible apply Upd.there)); done) | ((repeat (first | exact Upd.here _ | apply Upd.there)); done) | fail) ?_ lR.symm (by omega) hcm' (Nat.le_trans hb hg') ?_ ?_
        · rw [List.length_append, List.length_append, List.length_append, List.length_drop, List.length_drop, lT, lY, lD, hz]; omega
        · rw [eR]
          exact List.take_left' (by rw [List.length_append, List.length_append, lT, lY, lD]; omega)
        · refine gk_ret hT rfl rfl (.tmp rfl .nil) (fun w' hk => ?_)
          obtain ⟨q1, q2⟩ := Kn.outG' (L := L.take i ++ [y] ++ L.drop i) (base := base) (e := 31) (sz := 4) (enc := EE) (v := .slice (some ⟨g, 0, none⟩) n c) hk mE
          exact ⟨_, rfl, q1, q2⟩
end Go.Proofs.YtaghmffgoomebaaGreat.Nd
