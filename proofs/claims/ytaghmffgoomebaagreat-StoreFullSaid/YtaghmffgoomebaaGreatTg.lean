/- The reference's rows (layer 31): Find, Get, Floor, Ceil, Without, Set. The reference's rows (layer 31): Get, Floor, Ceil, Without, Set. -/
import Derived.Test.YtaghmffgoomebaaGreatTrA
import Derived.Test.YtaghmffgoomebaaGreatNdN
import Derived.Test.YtaghmffgoomebaaGreatSv1
namespace Go.Proofs.YtaghmffgoomebaaGreat.Tw
open Go.RowKit Mem Nd Gx
open Tr hiding T row
set_option linter.unusedVariables false
set_option linter.unusedSimpArgs false
set_option maxRecDepth 100000
set_option maxHeartbeats 4000000
theorem pos_stop {L : List KeyD} {k : KeyD} {i : Nat} (ha : AscK L) (hi : i ≤ L.length) (hlo : ∀ m, m < i → klt (L.getD m default) k) (hs : i < L.length → ¬ klt (L.getD i default) k) : PosK L k i :=
  ⟨hi, hlo, fun m h1 h2 h3 => by
    rcases Nat.lt_or_ge i m with h | h
    · exact hs (by omega) (klt_trans (ha i m h h2) h3)
    · have : m = i := by omega
      subst this
      exact hs h2 h3⟩
theorem rfind_any (A : Option Addr) (n c : Nat) (L : List EntD) (k : KeyD) (w : World) (hn : n = L.length) (h9 : n ≤ 100000) (ha : AscK (keysOf L)) (hL : Rd1 w (sl A 4 EE L)) :
    Calls Tryz.prog 67 [.slice A n c, k.val].toArray w (Ret (PosK (keysOf L) k) (fun p => .int .i64 (p : Int)) (fun _ => []) w) := by
  refine g_enter0 T [] [] [sl A 4 EE L] Tryz.func67 rfl Tryz.ntmps67 rfl (Rds.cons hL .nil).kn ?_
  (repeat (refine gG ?_; try intro _))
  rename_i g3
  refine gk_loop_sel (fun (i : Nat) => (i ≤ L.length ∧ ∀ m, m < i → klt ((keysOf L).getD m default) k)) (fun (i : Nat) => [(0, .slice A n c), (3, .pointer (some ⟨g3, 0, none⟩)), (5, .int .i64 i)]) (fun (i : Nat) => [blk g3 [.int .u16 k.v, .int .u32 k.b, .int .u64 k.s] 29]) (fun (i : Nat) => [sl A 4 EE L]) (fun (i : Nat) => L.length - i) 0 rfl ⟨Nat.zero_le _, fun m h => absurd h (by omega)⟩ (by repeat (first | exact trivial | refine ⟨rfl, ?_⟩)) sA sS ?_
  rintro i hI
  replace hI : (i ≤ L.length ∧ ∀ m, m < i → klt ((keysOf L).getD m default) k) := hI
  change GK _ _ [(0, .slice A n c), (3, .pointer (some ⟨g3, 0, none⟩)), (5, .int .i64 i)] [blk g3 [.int .u16 k.v, .int .u32 k.b, .int .u64 k.s] 29] [sl A 4 EE L]
  obtain ⟨hi, hlo⟩ := hI
  have hkl : (keysOf L).length = L.length := List.length_map ..
  by_cases hlt : i < L.length
  · obtain ⟨y, hy⟩ : ∃ y, L[i]? = some y := ⟨L[i], List.getElem?_eq_getElem hlt⟩
    have hky : (keysOf L).getD i default = y.k := getD_at (by rw [List.getElem?_map, hy]; rfl)
    refine gk_elem (enc := EE) (L := L) i mE hlt (by decide) (fun b1 o1 y1 eA hy1 => ?_)
    subst eA
    obtain rfl : y = y1 := by rw [hy] at hy1; exact Option.some.inj hy1
    refine gk_any [0, 1] (Cut _ (fun _ : Unit => [(0, .slice (some ⟨b1, o1, none⟩) n c), (3, .pointer (some ⟨g3, 0, none⟩)), (5, .int .i64 i), (18, .bool (tB (klt y.k k)))]) (fun _ => [blk g3 [.int .u16 k.v, .int .u32 k.b, .int .u64 k.s] 29]) (fun _ => [sl (some ⟨b1, o1, none⟩) 4 EE L])) rfl rfl (by kernel_rfl) ?_ (cut_k fun _ => ?_)
    · skip
      refine gb_take 0 rfl (by decide +kernel) rfl rfl (ys_ev (nw := true) hT rfl sI) sF ?_
      refine gb_take 1 rfl (by decide +kernel) rfl rfl (ys_ev (nw := true) hT rfl sI) sF ?_
      refine gb_take 2 rfl (by decide +kernel) rfl rfl (ys_ev (nw := true) hT rfl sI) sF ?_
      refine gb_take 3 rfl (by decide +kernel) rfl rfl (ys_ev (nw := true) hT rfl sI) sF ?_
      try (refine gb_say 9 (.bool true) rfl (congrArg Value.bool (tB_true (by omega))) ?_)
      refine gb_take 4 rfl (by decide +kernel) rfl rfl (ys_ev (nw := true) hT rfl sI) sF ?_
      first | refine gb_take 5 rfl (by decide +kernel) rfl rfl (ys_ev (nw := true) hT rfl sI) sF ?_ | refine gb_skip 5 rfl (by decide +kernel) rfl rfl sF ?_
      first | refine gb_take 6 rfl (by decide +kernel) rfl rfl (ys_ev (nw := true) hT rfl sI) sF ?_ | refine gb_skip 6 rfl (by decide +kernel) rfl rfl sF ?_
      first | refine gb_take 7 rfl (by decide +kernel) rfl rfl (ys_ev (nw := true) hT rfl sI) sF ?_ | refine gb_skip 7 rfl (by decide +kernel) rfl rfl sF ?_
      first | refine gb_take 8 rfl (by decide +kernel) rfl rfl (ys_ev (nw := true) hT rfl sI) sF ?_ | refine gb_skip 8 rfl (by decide +kernel) rfl rfl sF ?_
      first | refine gb_take 9 rfl (by decide +kernel) rfl rfl (by first | exact ys_blk hT rfl rfl mE rfl rfl | exact ys_row hT rfl rfl mE rfl rfl | exact ys_row0 hT rfl rfl mE rfl rfl) sF ?_ | refine gb_skip 9 rfl (by decide +kernel) rfl rfl sF ?_
      first | refine gb_take 10 rfl (by decide +kernel) rfl rfl (by first | exact ys_blk hT rfl rfl mE rfl rfl | exact ys_row hT rfl rfl mE rfl rfl | exact ys_row0 hT rfl rfl mE rfl rfl) sF ?_ | refine gb_skip 10 rfl (by decide +kernel) rfl rfl sF ?_
      first | refine gb_skip 11 rfl (by decide +kernel) rfl rfl sF ?_ | (refine gb_only 11 (by decide +kernel) rfl rfl ?_; (refine mv_call_bel (fun w hk => rless_any y.k k w) rfl rfl rfl rfl rfl (by kernel_rfl) ?_); refine ⟨sF, ?_⟩)
      refine gb_take 12 rfl (by decide +kernel) rfl rfl (ys_ev (nw := true) hT rfl sI) sF ?_
      refine gb_nil (by decide +kernel) ?_
      exact ⟨(), (by repeat (first | exact trivial | refine ⟨rfl, ?_⟩)), sA, sS⟩
    · refine gk_cond rfl rfl (tells_tB _) (fun hx => ?_) (fun hx => ?_)
      · (repeat (refine gG ?_; try intro _))
        refine gk_again_sel rfl (i + 1) ⟨by omega, fun m hm => ?_⟩ (by omega) (by repeat (first | exact trivial | refine ⟨rfl, ?_⟩)) sA sS
        rcases Nat.lt_or_ge m i with h | h
        · exact hlo m h
        · have : m = i := by omega
          subst this
          rw [hky]; exact hx
      · (repeat (refine gG ?_; try intro _))
        refine gk_ret hT rfl rfl (.tmp rfl .nil) (fun w' hk => ?_)
        exact Ret.mk i (pos_stop ha (by omega) hlo (fun _ => by rw [hky]; exact hx)) rfl hk sA
  · refine gk_any [] (Cut _ (fun _ : Unit => [(5, .int .i64 i), (18, .bool false)]) (fun _ => []) (fun _ => [])) rfl rfl (by kernel_rfl) ?_ (cut_k fun _ => ?_)
    · skip
      refine gb_take 0 rfl (by decide +kernel) rfl rfl (ys_ev (nw := true) hT rfl sI) sF ?_
      refine gb_take 1 rfl (by decide +kernel) rfl rfl (ys_ev (nw := true) hT rfl sI) sF ?_
      refine gb_take 2 rfl (by decide +kernel) rfl rfl (ys_ev (nw := true) hT rfl sI) sF ?_
      refine gb_take 3 rfl (by decide +kernel) rfl rfl (ys_ev (nw := true) hT rfl sI) sF ?_
      try (refine gb_say 9 (.bool false) rfl (congrArg Value.bool (tB_false (by omega))) ?_)
      refine gb_take 4 rfl (by decide +kernel) rfl rfl (ys_ev (nw := true) hT rfl sI) sF ?_
      first | refine gb_take 5 rfl (by decide +kernel) rfl rfl (ys_ev (nw := true) hT rfl sI) sF ?_ | refine gb_skip 5 rfl (by decide +kernel) rfl rfl sF ?_
      first | refine gb_take 6 rfl (by decide +kernel) rfl rfl (ys_ev (nw := true) hT rfl sI) sF ?_ | refine gb_skip 6 rfl (by decide +kernel) rfl rfl sF ?_
      first | refine gb_take 7 rfl (by decide +kernel) rfl rfl (ys_ev (nw := true) hT rfl sI) sF ?_ | refine gb_skip 7 rfl (by decide +kernel) rfl rfl sF ?_
      first | refine gb_take 8 rfl (by decide +kernel) rfl rfl (ys_ev (nw := true) hT rfl sI) sF ?_ | refine gb_skip 8 rfl (by decide +kernel) rfl rfl sF ?_
      first | refine gb_take 9 rfl (by decide +kernel) rfl rfl (by first | exact ys_blk hT rfl rfl mE rfl rfl | exact ys_row hT rfl rfl mE rfl rfl | exact ys_row0 hT rfl rfl mE rfl rfl) sF ?_ | refine gb_skip 9 rfl (by decide +kernel) rfl rfl sF ?_
      first | refine gb_take 10 rfl (by decide +kernel) rfl rfl (by first | exact ys_blk hT rfl rfl mE rfl rfl | exact ys_row hT rfl rfl mE rfl rfl | exact ys_row0 hT rfl rfl mE rfl rfl) sF ?_ | refine gb_skip 10 rfl (by decide +kernel) rfl rfl sF ?_
      first | refine gb_skip 11 rfl (by decide +kernel) rfl rfl sF ?_ | (refine gb_only 11 (by decide +kernel) rfl rfl ?_; (skip); refine ⟨sF, ?_⟩)
      refine gb_take 12 rfl (by decide +kernel) rfl rfl (ys_ev (nw := true) hT rfl sI) sF ?_
      refine gb_nil (by decide +kernel) ?_
      exact ⟨(), (by repeat (first | exact trivial | refine ⟨rfl, ?_⟩)), sA, sS⟩
    · (repeat (refine gG ?_; try intro _))
      refine gk_ret hT rfl rfl (.tmp rfl .nil) (fun w' hk => ?_)
      exact Ret.mk i (pos_stop ha (by omega) hlo (fun h => absurd h (by omega))) rfl hk sA
end Go.Proofs.YtaghmffgoomebaaGreat.Tw
namespace Go.Proofs.YtaghmffgoomebaaGreat.Tw
open Go.RowKit Mem Nd Gx
open Tr hiding T row
set_option linter.unusedVariables false
set_option linter.unusedSimpArgs false
set_option maxRecDepth 100000
set_option maxHeartbeats 4000000
theorem get_at {L : List EntD} {k : KeyD} {p : Nat} {y : EntD} (hy : L[p]? = some y) : getV L k p = if tB (y.k = k) = true then some y else none := by
  have hk : (keysOf L)[p]? = some y.k := by rw [List.getElem?_map, hy]; rfl
  unfold getV
  by_cases h : y.k = k
  · rw [if_pos (tB_true (by rw [hk, h])), if_pos (tB_true h), hy]
  · rw [if_neg (fun h2 => h (by have := tB_iff.1 h2; rw [hk] at this; exact Option.some.inj this)), if_neg (fun h2 => h (tB_iff.1 h2))]
theorem get_end {L : List EntD} {k : KeyD} : getV L k L.length = none := by
  unfold getV
  rw [if_neg (fun h => by
    have := tB_iff.1 h
    rw [List.getElem?_eq_none (by rw [List.length_map]; omega)] at this
    cases this)]
theorem rget_any (A : Option Addr) (n c : Nat) (L : List EntD) (k : KeyD) (w : World) (hn : n = L.length) (h9 : n ≤ 100000) (ha : AscK (keysOf L)) (hL : Rd1 w (sl A 4 EE L)) :
    Calls Tryz.prog 36 [.slice A n c, k.val].toArray w (Ret (PosK (keysOf L) k) (fun p => .tuple #[oV (getV L k p), .bool (getV L k p).isSome]) (fun _ => []) w) := by
  refine g_enter0 T [] [] [sl A 4 EE L] Tryz.func36 rfl Tryz.ntmps36 rfl (Rds.cons hL .nil).kn ?_
  (repeat (refine gG ?_; try intro _))
  rename_i g3 g4
  refine g_mv rfl ?_; refine mv_call_rt (fun w hk => rfind_any A n c L k w hn h9 ha (hk.rR mE)) rfl rfl rfl rfl rfl (by kernel_rfl) (fun _ => rfl) (fun p hp => ?_)
  have hpl := hp.le
  rw [List.length_map] at hpl
  (repeat (refine gG ?_; try intro _))
  by_cases hlt : p < L.length
  · obtain ⟨y, hy⟩ : ∃ y, L[p]? = some y := ⟨L[p], List.getElem?_eq_getElem hlt⟩
    refine gk_elem (enc := EE) (L := L) p mE hlt (by decide) (fun b1 o1 y1 eA hy1 => ?_)
    subst eA
    obtain rfl : y = y1 := by rw [hy] at hy1; exact Option.some.inj hy1
    have hg := get_at (k := k) hy
    refine gk_drawn_at [1, 2] rfl rfl (by kernel_rfl) ?_
    (repeat (first | refine ga_nil (by decide +kernel) ?_ | refine ga_take (by decide +kernel) rfl rfl (ys_ev (nw := true) hT rfl sI) sF ?_ | refine ga_skip (by decide +kernel) rfl rfl sF ?_ | refine ga_take (by decide +kernel) rfl rfl (ys_blk hT rfl rfl mE rfl rfl) sF ?_ | refine ga_take (by decide +kernel) rfl rfl (ys_row hT rfl rfl mE rfl rfl) sF ?_ | refine ga_take (by decide +kernel) rfl rfl (ys_row0 hT rfl rfl mE rfl rfl) sF ?_ | (refine ga_mv (by decide +kernel) rfl ?_; (first | (refine mv_box rfl rfl rfl rfl ?_; intro _) | (refine mv_alloc rfl hT rfl rfl ?_; intro _) | refine mv_store hT rfl rfl rfl rfl rfl rfl sO rfl ?_ | (refine mv_buildSlice rfl hT rfl rfl rfl rfl rfl rfl rfl rfl ?_; intro _)); refine ⟨sF, ?_⟩) | refine ga_take (by decide +kernel) rfl rfl (ys_eql rfl rfl rfl rfl rfl (by kernel_rfl)) sF ?_ | refine ga_take (by decide +kernel) rfl rfl (ys_neq rfl rfl rfl rfl rfl (by kernel_rfl)) sF ?_))
    refine ga_dec false rfl rfl (tB_false (by omega)) ?_
    (repeat (first | refine ga_nil (by decide +kernel) ?_ | refine ga_take (by decide +kernel) rfl rfl (ys_ev (nw := true) hT rfl sI) sF ?_ | refine ga_skip (by decide +kernel) rfl rfl sF ?_ | refine ga_take (by decide +kernel) rfl rfl (ys_blk hT rfl rfl mE rfl rfl) sF ?_ | refine ga_take (by decide +kernel) rfl rfl (ys_row hT rfl rfl mE rfl rfl) sF ?_ | refine ga_take (by decide +kernel) rfl rfl (ys_row0 hT rfl rfl mE rfl rfl) sF ?_ | (refine ga_mv (by decide +kernel) rfl ?_; (first | (refine mv_box rfl rfl rfl rfl ?_; intro _) | (refine mv_alloc rfl hT rfl rfl ?_; intro _) | refine mv_store hT rfl rfl rfl rfl rfl rfl sO rfl ?_ | (refine mv_buildSlice rfl hT rfl rfl rfl rfl rfl rfl rfl rfl ?_; intro _)); refine ⟨sF, ?_⟩) | refine ga_take (by decide +kernel) rfl rfl (ys_eql rfl rfl rfl rfl rfl (by kernel_rfl)) sF ?_ | refine ga_take (by decide +kernel) rfl rfl (ys_neq rfl rfl rfl rfl rfl (by kernel_rfl)) sF ?_))
    refine gk_cond rfl rfl (tells_tB _) (fun hx => ?_) (fun hx => ?_)
    · have hne : ¬ y.k = k := fun h => hx ⟨by rw [h], by rw [h], by rw [h], trivial⟩
      rw [if_neg (fun h => hne (tB_iff.1 h))] at hg
      (repeat (refine gG ?_; try intro _))
      refine gk_ret hT rfl rfl (.cell rfl mE rfl rfl (.tmp rfl .nil)) (fun w' hk => ?_)
      exact Ret.mk p hp (by rw [hg]; rfl) hk sA
    · have hx' := Classical.not_not.1 hx
      have heq : y.k = k := key_ext hx'.1 hx'.2.1 hx'.2.2.1
      rw [if_pos (tB_true heq)] at hg
      (repeat (refine gG ?_; try intro _))
      refine gk_ret hT rfl rfl (.cell rfl mE rfl rfl (.tmp rfl .nil)) (fun w' hk => ?_)
      exact Ret.mk p hp (by rw [hg]; rfl) hk sA
  · have hpe : p = L.length := by omega
    refine gk_drawn_at [1] rfl rfl (by kernel_rfl) ?_
    (repeat (first | refine ga_nil (by decide +kernel) ?_ | refine ga_take (by decide +kernel) rfl rfl (ys_ev (nw := true) hT rfl sI) sF ?_ | refine ga_skip (by decide +kernel) rfl rfl sF ?_ | refine ga_take (by decide +kernel) rfl rfl (ys_blk hT rfl rfl mE rfl rfl) sF ?_ | refine ga_take (by decide +kernel) rfl rfl (ys_row hT rfl rfl mE rfl rfl) sF ?_ | refine ga_take (by decide +kernel) rfl rfl (ys_row0 hT rfl rfl mE rfl rfl) sF ?_ | (refine ga_mv (by decide +kernel) rfl ?_; (first | (refine mv_box rfl rfl rfl rfl ?_; intro _) | (refine mv_alloc rfl hT rfl rfl ?_; intro _) | refine mv_store hT rfl rfl rfl rfl rfl rfl sO rfl ?_ | (refine mv_buildSlice rfl hT rfl rfl rfl rfl rfl rfl rfl rfl ?_; intro _)); refine ⟨sF, ?_⟩) | refine ga_take (by decide +kernel) rfl rfl (ys_eql rfl rfl rfl rfl rfl (by kernel_rfl)) sF ?_ | refine ga_take (by decide +kernel) rfl rfl (ys_neq rfl rfl rfl rfl rfl (by kernel_rfl)) sF ?_))
    refine ga_dec true rfl rfl (tB_true (by omega)) ?_
    (repeat (first | refine ga_nil (by decide +kernel) ?_ | refine ga_take (by decide +kernel) rfl rfl (ys_ev (nw := true) hT rfl sI) sF ?_ | refine ga_skip (by decide +kernel) rfl rfl sF ?_ | refine ga_take (by decide +kernel) rfl rfl (ys_blk hT rfl rfl mE rfl rfl) sF ?_ | refine ga_take (by decide +kernel) rfl rfl (ys_row hT rfl rfl mE rfl rfl) sF ?_ | refine ga_take (by decide +kernel) rfl rfl (ys_row0 hT rfl rfl mE rfl rfl) sF ?_ | (refine ga_mv (by decide +kernel) rfl ?_; (first | (refine mv_box rfl rfl rfl rfl ?_; intro _) | (refine mv_alloc rfl hT rfl rfl ?_; intro _) | refine mv_store hT rfl rfl rfl rfl rfl rfl sO rfl ?_ | (refine mv_buildSlice rfl hT rfl rfl rfl rfl rfl rfl rfl rfl ?_; intro _)); refine ⟨sF, ?_⟩) | refine ga_take (by decide +kernel) rfl rfl (ys_eql rfl rfl rfl rfl rfl (by kernel_rfl)) sF ?_ | refine ga_take (by decide +kernel) rfl rfl (ys_neq rfl rfl rfl rfl rfl (by kernel_rfl)) sF ?_))
    (repeat (refine gG ?_; try intro _))
    refine gk_ret hT rfl rfl (.cell rfl mE rfl rfl (.tmp rfl .nil)) (fun w' hk => ?_)
    exact Ret.mk p hp (by rw [hpe, get_end]; rfl) hk sA
/-- Rows as they are handed back. -/
structure RowV where
  s : SlV
  M : List EntD
abbrev RetRow (I : List EntD → Prop) (RA : List Fact) (w : World) : Ending → World → Prop := RetS (fun r : RowV => r.s.Ok r.M.length ∧ I r.M) (fun r => r.s.v) (fun r => [sl r.s.A 4 EE r.M]) RA w
theorem rwithout_any (A : Option Addr) (n c : Nat) (L : List EntD) (k : KeyD) (w : World) (hs : (SlV.mk A n c).Ok L.length) (h9 : n ≤ 100000) (ha : AscK (keysOf L)) (hL : Rd1 w (sl A 4 EE L)) :
    Calls Tryz.prog 38 [.slice A n c, k.val].toArray w (RetRow (fun M => ∃ p, PosK (keysOf L) k p ∧ M = delAt L k p) [sl A 4 EE L] w) := by
  have hn : n = L.length := hs.n
  have hc : n ≤ c := hs.c
  refine g_enter0 T [] [] [sl A 4 EE L] Tryz.func38 rfl Tryz.ntmps38 rfl (Rds.cons hL .nil).kn ?_
  (repeat (refine gG ?_; try intro _))
  rename_i g3
  refine g_mv rfl ?_; refine mv_call_rt (fun w hk => rfind_any A n c L k w hn h9 ha (hk.rR mE)) rfl rfl rfl rfl rfl (by kernel_rfl) (fun _ => rfl) (fun p hp => ?_)
  have hpl := hp.le
  rw [List.length_map] at hpl
  (repeat (refine gG ?_; try intro _))
  by_cases hlt : p < L.length
  · obtain ⟨y, hy⟩ : ∃ y, L[p]? = some y := ⟨L[p], List.getElem?_eq_getElem hlt⟩
    have hky : (keysOf L)[p]? = some y.k := by rw [List.getElem?_map, hy]; rfl
    refine gk_elem (enc := EE) (L := L) p mE hlt (by decide) (fun b1 o1 y1 eA hy1 => ?_)
    subst eA
    obtain rfl : y = y1 := by rw [hy] at hy1; exact Option.some.inj hy1
    refine gk_drawn_at [0, 1] rfl rfl (by kernel_rfl) ?_
    (repeat (first | refine ga_nil (by decide +kernel) ?_ | refine ga_take (by decide +kernel) rfl rfl (ys_ev (nw := true) hT rfl sI) sF ?_ | refine ga_skip (by decide +kernel) rfl rfl sF ?_ | refine ga_take (by decide +kernel) rfl rfl (ys_blk hT rfl rfl mE rfl rfl) sF ?_ | refine ga_take (by decide +kernel) rfl rfl (ys_row hT rfl rfl mE rfl rfl) sF ?_ | refine ga_take (by decide +kernel) rfl rfl (ys_row0 hT rfl rfl mE rfl rfl) sF ?_ | (refine ga_mv (by decide +kernel) rfl ?_; (first | (refine mv_box rfl rfl rfl rfl ?_; intro _) | (refine mv_alloc rfl hT rfl rfl ?_; intro _) | refine mv_store hT rfl rfl rfl rfl rfl rfl sO rfl ?_ | (refine mv_buildSlice rfl hT rfl rfl rfl rfl rfl rfl rfl rfl ?_; intro _)); refine ⟨sF, ?_⟩) | refine ga_take (by decide +kernel) rfl rfl (ys_eql rfl rfl rfl rfl rfl (by kernel_rfl)) sF ?_ | refine ga_take (by decide +kernel) rfl rfl (ys_neq rfl rfl rfl rfl rfl (by kernel_rfl)) sF ?_))
    refine ga_dec false rfl rfl (tB_false (by omega)) ?_
    (repeat (first | refine ga_nil (by decide +kernel) ?_ | refine ga_take (by decide +kernel) rfl rfl (ys_ev (nw := true) hT rfl sI) sF ?_ | refine ga_skip (by decide +kernel) rfl rfl sF ?_ | refine ga_take (by decide +kernel) rfl rfl (ys_blk hT rfl rfl mE rfl rfl) sF ?_ | refine ga_take (by decide +kernel) rfl rfl (ys_row hT rfl rfl mE rfl rfl) sF ?_ | refine ga_take (by decide +kernel) rfl rfl (ys_row0 hT rfl rfl mE rfl rfl) sF ?_ | (refine ga_mv (by decide +kernel) rfl ?_; (first | (refine mv_box rfl rfl rfl rfl ?_; intro _) | (refine mv_alloc rfl hT rfl rfl ?_; intro _) | refine mv_store hT rfl rfl rfl rfl rfl rfl sO rfl ?_ | (refine mv_buildSlice rfl hT rfl rfl rfl rfl rfl rfl rfl rfl ?_; intro _)); refine ⟨sF, ?_⟩) | refine ga_take (by decide +kernel) rfl rfl (ys_eql rfl rfl rfl rfl rfl (by kernel_rfl)) sF ?_ | refine ga_take (by decide +kernel) rfl rfl (ys_neq rfl rfl rfl rfl rfl (by kernel_rfl)) sF ?_))
    refine gk_cond rfl rfl (tells_tB _) (fun hx => ?_) (fun hx => ?_)
    · have hne : ¬ y.k = k := fun h => hx ⟨by rw [h], by rw [h], by rw [h], trivial⟩
      (repeat (refine gG ?_; try intro _))
      refine gk_ret hT rfl rfl (.tmp rfl .nil) (fun w' hk => ?_)
      refine RetS.mk ⟨⟨some ⟨b1, o1, none⟩, n, c⟩, L⟩ ⟨hs, p, hp, ?_⟩ rfl hk (.cons (.rd hk mE (fun b hb => .inr ⟨_, .head _, hb⟩)) .nil)
      unfold delAt
      rw [if_neg (fun h => hne (by have := tB_iff.1 h; rw [hky] at this; exact Option.some.inj this))]
    · have hx' := Classical.not_not.1 hx
      have heq : y.k = k := key_ext hx'.1 hx'.2.1 hx'.2.2.1
      (repeat (refine gG ?_; try intro _))
      refine gk_takeS (enc := EE) (L := L) p c mE (by omega) ?_
      refine gk_dropS (enc := EE) (L := L) (p + 1) c mE (by omega) ?_
      refine gk_any [0, 1] (Cut _ (fun v : Value => [(4, v)]) (fun v => [own 0 31 4 v EE ([] ++ L.take p ++ L.drop (p + 1))]) (fun _ => [])) rfl rfl (by kernel_rfl) ?_ (cut_k fun v => ?_)
      · skip
        refine gb_take 1 rfl (by decide +kernel) rfl rfl (ys_ev (nw := true) hT rfl sI) sF ?_
        refine gb_take 2 rfl (by decide +kernel) rfl rfl (ys_ev (nw := true) hT rfl sI) sF ?_
        refine gb_take 3 rfl (by decide +kernel) rfl rfl (ys_slice_h hT p rfl rfl rfl rfl rfl (by omega)) sF ?_
        refine gb_take 5 rfl (by decide +kernel) rfl rfl (ys_ev (nw := true) hT rfl sI) sF ?_
        refine gb_take 6 rfl (by decide +kernel) rfl rfl (ys_ev (nw := true) hT rfl sI) sF ?_
        refine gb_take 7 rfl (by decide +kernel) rfl rfl (ys_ev (nw := true) hT rfl sI) sF ?_
        try (refine gb_say 30 (.int .i64 ((p + 1 : Nat) : Int)) rfl rfl ?_)
        refine gb_take 8 rfl (by decide +kernel) rfl rfl (ys_slice_l hT (p + 1) rfl rfl rfl rfl rfl (by omega)) sF ?_
        refine gb_only 0 (by decide +kernel) rfl rfl ?_
        refine mv_empty 4 EE rfl hT rfl rfl rfl rfl rfl (fun ge => ?_)
        refine ⟨sF, ?_⟩
        refine gb_only 4 (by decide +kernel) rfl rfl ?_
        refine mv_append (L := []) rfl (L.take p) rfl rfl rfl rfl elt_E (by intro _; first | ((repeat (first | with_reducible exact Upd.here _ | with_reducible apply Upd.there)); done) | ((repeat (first | exact Upd.here _ | apply Upd.there)); done) | fail) (src_R mE) (by rw [List.length_take]; omega) (by intro x j; rcases j with _ | _ | _ | j <;> rfl) (by rw [List.length_take]; simp only [List.length_nil]; unfold maxLen; omega) (by rw [List.length_take]; simp only [List.length_nil]; omega) (Nat.zero_le _) (fun v1 => ?_)
        refine ⟨sF, ?_⟩
        refine gb_only 9 (by decide +kernel) rfl rfl ?_
        refine mv_append rfl (L.drop (p + 1)) rfl rfl rfl rfl elt_E (by intro _; first | ((repeat (first | with_reducible exact Upd.here _ | with_reducible apply Upd.there)); done) | ((repeat (first | exact Upd.here _ | apply Upd.there)); done) | fail) (src_R mE) (by rw [List.length_drop]; omega) (by intro x j; rcases j with _ | _ | _ | j <;> rfl) (by rw [List.length_append, List.length_take, List.length_drop]; simp only [List.length_nil]; unfold maxLen; omega) (by rw [List.length_append, List.length_take, List.length_drop]; simp only [List.length_nil]; omega) (Nat.zero_le _) (fun v2 => ?_)
        refine ⟨sF, ?_⟩
        refine gb_take 10 rfl (by decide +kernel) rfl rfl (ys_ev (nw := true) hT rfl sI) sF ?_
        refine gb_nil (by decide +kernel) ?_
        exact ⟨_, (by repeat (first | exact trivial | refine ⟨rfl, ?_⟩)), sA, sS⟩
      · rw [List.nil_append]
        refine gk_freeze _ (by intro _; first | ((repeat (first | with_reducible exact Upd.here _ | with_reducible apply Upd.there)); done) | ((repeat (first | exact Upd.here _ | apply Upd.there)); done) | fail) (fun A2 c2 hA2 hA21 hA22 hA23 => ?_); subst hA2
        (repeat (refine gG ?_; try intro _))
        refine gk_ret hT rfl rfl (.tmp rfl .nil) (fun w' hk => ?_)
        refine RetS.mk ⟨⟨A2, (L.take p ++ L.drop (p + 1)).length, c2⟩, L.take p ++ L.drop (p + 1)⟩ ⟨⟨rfl, hA21, hA22, hA23⟩, p, hp, ?_⟩ rfl hk (.cons (RS1.own hk mE) .nil)
        unfold delAt
        rw [if_pos (tB_true (by rw [hky, heq]))]
  · refine gk_drawn_at [0] rfl rfl (by kernel_rfl) ?_
    (repeat (first | refine ga_nil (by decide +kernel) ?_ | refine ga_take (by decide +kernel) rfl rfl (ys_ev (nw := true) hT rfl sI) sF ?_ | refine ga_skip (by decide +kernel) rfl rfl sF ?_ | refine ga_take (by decide +kernel) rfl rfl (ys_blk hT rfl rfl mE rfl rfl) sF ?_ | refine ga_take (by decide +kernel) rfl rfl (ys_row hT rfl rfl mE rfl rfl) sF ?_ | refine ga_take (by decide +kernel) rfl rfl (ys_row0 hT rfl rfl mE rfl rfl) sF ?_ | (refine ga_mv (by decide +kernel) rfl ?_; (first | (refine mv_box rfl rfl rfl rfl ?_; intro _) | (refine mv_alloc rfl hT rfl rfl ?_; intro _) | refine mv_store hT rfl rfl rfl rfl rfl rfl sO rfl ?_ | (refine mv_buildSlice rfl hT rfl rfl rfl rfl rfl rfl rfl rfl ?_; intro _)); refine ⟨sF, ?_⟩) | refine ga_take (by decide +kernel) rfl rfl (ys_eql rfl rfl rfl rfl rfl (by kernel_rfl)) sF ?_ | refine ga_take (by decide +kernel) rfl rfl (ys_neq rfl rfl rfl rfl rfl (by kernel_rfl)) sF ?_))
    refine ga_dec true rfl rfl (tB_true (by omega)) ?_
    (repeat (first | refine ga_nil (by decide +kernel) ?_ | refine ga_take (by decide +kernel) rfl rfl (ys_ev (nw := true) hT rfl sI) sF ?_ | refine ga_skip (by decide +kernel) rfl rfl sF ?_ | refine ga_take (by decide +kernel) rfl rfl (ys_blk hT rfl rfl mE rfl rfl) sF ?_ | refine ga_take (by decide +kernel) rfl rfl (ys_row hT rfl rfl mE rfl rfl) sF ?_ | refine ga_take (by decide +kernel) rfl rfl (ys_row0 hT rfl rfl mE rfl rfl) sF ?_ | (refine ga_mv (by decide +kernel) rfl ?_; (first | (refine mv_box rfl rfl rfl rfl ?_; intro _) | (refine mv_alloc rfl hT rfl rfl ?_; intro _) | refine mv_store hT rfl rfl rfl rfl rfl rfl sO rfl ?_ | (refine mv_buildSlice rfl hT rfl rfl rfl rfl rfl rfl rfl rfl ?_; intro _)); refine ⟨sF, ?_⟩) | refine ga_take (by decide +kernel) rfl rfl (ys_eql rfl rfl rfl rfl rfl (by kernel_rfl)) sF ?_ | refine ga_take (by decide +kernel) rfl rfl (ys_neq rfl rfl rfl rfl rfl (by kernel_rfl)) sF ?_))
    (repeat (refine gG ?_; try intro _))
    refine gk_ret hT rfl rfl (.tmp rfl .nil) (fun w' hk => ?_)
    refine RetS.mk ⟨⟨A, n, c⟩, L⟩ ⟨hs, p, hp, ?_⟩ rfl hk (.cons (.rd hk mE (fun b hb => .inr ⟨_, .head _, hb⟩)) .nil)
    unfold delAt
    rw [if_neg (fun h => by
      have := tB_iff.1 h
      rw [List.getElem?_eq_none (by rw [List.length_map]; omega)] at this
      cases this)]
end Go.Proofs.YtaghmffgoomebaaGreat.Tw
