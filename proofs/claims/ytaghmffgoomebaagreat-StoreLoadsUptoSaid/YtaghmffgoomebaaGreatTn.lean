/- check.order, fill, first: what is wrong with a node. check.entries: do all entries rise, are there as many as there should be? walk.Nodes: level by level. -/
import Derived.Test.YtaghmffgoomebaaGreatWa
import Derived.Test.YtaghmffgoomebaaGreatTt
namespace Go.Proofs.YtaghmffgoomebaaGreat.Ck
open Go.RowKit Mem Nd Gx Sk Tw Wk
open Tr hiding T row
set_option linter.unusedVariables false
set_option linter.unusedSimpArgs false
set_option maxRecDepth 100000
set_option maxHeartbeats 1000000
/-- Neighbours rise: all rise. -/
theorem asc_near {L : List KeyD} (h : ∀ i, i + 1 < L.length → klt (L.getD i default) (L.getD (i + 1) default)) : AscK L := by
  intro i j hij hj
  induction j with
  | zero => omega
  | succ j ih =>
    by_cases e : i = j
    · subst e
      exact h i hj
    · exact klt_trans (ih (by omega) (by omega)) (h j hj)
theorem corder_any (g : Nat) (lf : Bool) (KA : Option Addr) (kn kc : Nat) (V C : SlV) (a : Int) (Ks : List KeyD) (w : World) (hn : kn = Ks.length) (h9 : kn ≤ 1000000) (hB : Rd1 w (row g 0 [.bool lf, .slice KA kn kc, V.v, C.v, .int .u32 a])) (hK : Rd1 w (sl KA 3 KE Ks)) :
    Calls Tryz.prog 53 [.pointer (some ⟨g, 0, none⟩)].toArray w fun e w' => e = .returned (.bool (tB (AscK Ks))) ∧ Below w.heap.size w w' := by
  refine g_enter0 T [] [] [row g 0 [.bool lf, .slice KA kn kc, V.v, C.v, .int .u32 a], sl KA 3 KE Ks] Tryz.func53 rfl Tryz.ntmps53 rfl (Rds.cons hB (.cons hK .nil)).kn ?_
  (repeat (refine gG ?_; try intro _))
  refine gk_loop_sel (fun (i : Nat) => (i ≤ kn ∧ ∀ j, j + 1 < i → klt (Ks.getD j default) (Ks.getD (j + 1) default))) (fun (i : Nat) => [(0, .pointer (some ⟨g, 0, none⟩)), (8, .slice KA kn kc), (9, .int .i64 kn), (10, .int .i64 i)]) (fun (i : Nat) => []) (fun (i : Nat) => [row g 0 [.bool lf, .slice KA kn kc, V.v, C.v, .int .u32 a], sl KA 3 KE Ks]) (fun (i : Nat) => kn - i) 0 rfl ⟨Nat.zero_le _, fun j hj => absurd hj (by omega)⟩ (by repeat (first | exact trivial | refine ⟨rfl, ?_⟩)) sA sS ?_
  rintro i hI
  replace hI : (i ≤ kn ∧ ∀ j, j + 1 < i → klt (Ks.getD j default) (Ks.getD (j + 1) default)) := hI
  change GK _ _ [(0, .pointer (some ⟨g, 0, none⟩)), (8, .slice KA kn kc), (9, .int .i64 kn), (10, .int .i64 i)] [] [row g 0 [.bool lf, .slice KA kn kc, V.v, C.v, .int .u32 a], sl KA 3 KE Ks]
  obtain ⟨hi, hA⟩ := hI
  by_cases hlt : i < kn
  · obtain ⟨k, hks⟩ : ∃ k, Ks[i]? = some k := ⟨Ks[i], List.getElem?_eq_getElem (by omega)⟩
    refine gk_elem (enc := KE) (L := Ks) i mE (by omega) (by decide) (fun b1 o1 y1 eA hy1 => ?_)
    subst eA
    obtain rfl : k = y1 := by rw [hks] at hy1; exact Option.some.inj hy1
    (repeat' (first | (refine gG ?_; try intro _) | ((first | refine g_split rfl rfl tE (fun _ => ?_) (fun _ => ?_) | refine gk_cond rfl rfl tE (fun _ => ?_) (fun _ => ?_)) <;> (try first | (exfalso; omega; done) | (rename_i hx; exact absurd rfl hx) | (rename_i hx; cases hx; done)))))
    rename_i g4
    cases i with
    | zero =>
      refine gk_any [0, 1] (Cut _ (fun _ : Unit => [(0, .pointer (some ⟨g, 0, none⟩)), (8, .slice (some ⟨b1, o1, none⟩) kn kc), (9, .int .i64 kn), (10, .int .i64 ((0 : Nat) : Int)), (29, .bool false)]) (fun _ => []) (fun _ => [row g 0 [.bool lf, .slice (some ⟨b1, o1, none⟩) kn kc, V.v, C.v, .int .u32 a], sl (some ⟨b1, o1, none⟩) 3 KE Ks])) rfl rfl (by kernel_rfl) ?_ (cut_k fun _ => ?_)
      · skip
        refine gb_take 0 rfl (by decide +kernel) rfl rfl (ys_ev (nw := true) hT rfl sI) sF ?_
        refine gb_take 1 rfl (by decide +kernel) rfl rfl (ys_ev (nw := true) hT rfl sI) sF ?_
        try (refine gb_say 16 (.bool false) rfl (congrArg Value.bool (tB_false (by omega))) ?_)
        refine gb_take 2 rfl (by decide +kernel) rfl rfl (ys_ev (nw := true) hT rfl sI) sF ?_
        first | refine gb_take 3 rfl (by decide +kernel) rfl rfl (ys_ev (nw := true) hT rfl sI) sF ?_ | refine gb_skip 3 rfl (by decide +kernel) rfl rfl sF ?_
        first | refine gb_take 4 rfl (by decide +kernel) rfl rfl (ys_ev (nw := true) hT rfl sI) sF ?_ | refine gb_skip 4 rfl (by decide +kernel) rfl rfl sF ?_
        first | refine gb_take 5 rfl (by decide +kernel) rfl rfl (ys_ev (nw := true) hT rfl sI) sF ?_ | refine gb_skip 5 rfl (by decide +kernel) rfl rfl sF ?_
        first | refine gb_take 6 rfl (by decide +kernel) rfl rfl (by first | exact ys_blk hT rfl rfl mE rfl rfl | exact ys_row hT rfl rfl mE rfl rfl | exact ys_row0 hT rfl rfl mE rfl rfl) sF ?_ | refine gb_skip 6 rfl (by decide +kernel) rfl rfl sF ?_
        first | refine gb_take 7 rfl (by decide +kernel) rfl rfl (ys_ev (nw := true) hT rfl sI) sF ?_ | refine gb_skip 7 rfl (by decide +kernel) rfl rfl sF ?_
        first | refine gb_take 8 rfl (by decide +kernel) rfl rfl (ys_ev (nw := true) hT rfl sI) sF ?_ | refine gb_skip 8 rfl (by decide +kernel) rfl rfl sF ?_
        first | refine gb_take 9 rfl (by decide +kernel) rfl rfl (ys_ev (nw := true) hT rfl sI) sF ?_ | refine gb_skip 9 rfl (by decide +kernel) rfl rfl sF ?_
        first | refine gb_take 10 rfl (by decide +kernel) rfl rfl (by first | exact ys_blk hT rfl rfl mE rfl rfl | exact ys_row hT rfl rfl mE rfl rfl | exact ys_row0 hT rfl rfl mE rfl rfl) sF ?_ | refine gb_skip 10 rfl (by decide +kernel) rfl rfl sF ?_
        first | refine gb_take 11 rfl (by decide +kernel) rfl rfl (by first | exact ys_blk hT rfl rfl mE rfl rfl | exact ys_row hT rfl rfl mE rfl rfl | exact ys_row0 hT rfl rfl mE rfl rfl) sF ?_ | refine gb_skip 11 rfl (by decide +kernel) rfl rfl sF ?_
        first | refine gb_skip 12 rfl (by decide +kernel) rfl rfl sF ?_ | (refine gb_only 12 (by decide +kernel) rfl rfl ?_; (first | (refine mv_box rfl rfl rfl rfl ?_; intro _) | (refine mv_alloc rfl hT rfl rfl ?_; intro _) | refine mv_store hT rfl rfl rfl rfl rfl rfl sO rfl ?_ | (refine mv_buildSlice rfl hT rfl rfl rfl rfl rfl rfl rfl rfl ?_; intro _)); refine ⟨sF, ?_⟩)
        first | refine gb_take 13 rfl (by decide +kernel) rfl rfl (ys_ev (nw := true) hT rfl sI) sF ?_ | refine gb_skip 13 rfl (by decide +kernel) rfl rfl sF ?_
        refine gb_take 14 rfl (by decide +kernel) rfl rfl (ys_ev (nw := true) hT rfl sI) sF ?_
        refine gb_nil (by decide +kernel) ?_
        exact ⟨(), (by repeat (first | exact trivial | refine ⟨rfl, ?_⟩)), sA, sS⟩
      · (repeat (refine gG ?_; try intro _))
        refine gk_again_sel rfl 1 ⟨by omega, fun j hj => absurd hj (by omega)⟩ (by omega) (by repeat (first | exact trivial | refine ⟨rfl, ?_⟩)) sA sS
    | succ m =>
      obtain ⟨k0, hk0⟩ : ∃ k, Ks[m]? = some k := ⟨Ks[m], List.getElem?_eq_getElem (by omega)⟩
      refine gk_elem (enc := KE) (L := Ks) m mE (by omega) (by decide) (fun b2 o2 y2 eA hy2 => ?_)
      injection eA with eA
      injection eA with e2 e3
      subst e2 e3
      obtain rfl : k0 = y2 := by rw [hk0] at hy2; exact Option.some.inj hy2
      by_cases hlk : klt k0 k
      · refine gk_any [0, 1, 2, 3] (Cut _ (fun _ : Unit => [(0, .pointer (some ⟨g, 0, none⟩)), (8, .slice (some ⟨b1, o1, none⟩) kn kc), (9, .int .i64 kn), (10, .int .i64 ((m + 1 : Nat) : Int)), (29, .bool false)]) (fun _ => []) (fun _ => [row g 0 [.bool lf, .slice (some ⟨b1, o1, none⟩) kn kc, V.v, C.v, .int .u32 a], sl (some ⟨b1, o1, none⟩) 3 KE Ks])) rfl rfl (by kernel_rfl) ?_ (cut_k fun _ => ?_)
        · skip
          refine gb_take 0 rfl (by decide +kernel) rfl rfl (ys_ev (nw := true) hT rfl sI) sF ?_
          refine gb_take 1 rfl (by decide +kernel) rfl rfl (ys_ev (nw := true) hT rfl sI) sF ?_
          try (refine gb_say 16 (.bool true) rfl (congrArg Value.bool (tB_true (by omega))) ?_)
          refine gb_take 2 rfl (by decide +kernel) rfl rfl (ys_ev (nw := true) hT rfl sI) sF ?_
          first | refine gb_take 3 rfl (by decide +kernel) rfl rfl (ys_ev (nw := true) hT rfl sI) sF ?_ | refine gb_skip 3 rfl (by decide +kernel) rfl rfl sF ?_
          first | refine gb_take 4 rfl (by decide +kernel) rfl rfl (ys_ev (nw := true) hT rfl sI) sF ?_ | refine gb_skip 4 rfl (by decide +kernel) rfl rfl sF ?_
          first | refine gb_take 5 rfl (by decide +kernel) rfl rfl (ys_ev (nw := true) hT rfl sI) sF ?_ | refine gb_skip 5 rfl (by decide +kernel) rfl rfl sF ?_
          first | refine gb_take 6 rfl (by decide +kernel) rfl rfl (by first | exact ys_blk hT rfl rfl mE rfl rfl | exact ys_row hT rfl rfl mE rfl rfl | exact ys_row0 hT rfl rfl mE rfl rfl) sF ?_ | refine gb_skip 6 rfl (by decide +kernel) rfl rfl sF ?_
          first | refine gb_take 7 rfl (by decide +kernel) rfl rfl (ys_ev (nw := true) hT rfl sI) sF ?_ | refine gb_skip 7 rfl (by decide +kernel) rfl rfl sF ?_
          first | refine gb_take 8 rfl (by decide +kernel) rfl rfl (ys_ev (nw := true) hT rfl sI) sF ?_ | refine gb_skip 8 rfl (by decide +kernel) rfl rfl sF ?_
          try (refine gb_say 23 (.int .i64 (m : Nat)) rfl (by congr 1; omega) ?_)
          first | refine gb_take 9 rfl (by decide +kernel) rfl rfl (ys_ev (nw := true) hT rfl sI) sF ?_ | refine gb_skip 9 rfl (by decide +kernel) rfl rfl sF ?_
          first | refine gb_take 10 rfl (by decide +kernel) rfl rfl (by first | exact ys_blk hT rfl rfl mE rfl rfl | exact ys_row hT rfl rfl mE rfl rfl | exact ys_row0 hT rfl rfl mE rfl rfl) sF ?_ | refine gb_skip 10 rfl (by decide +kernel) rfl rfl sF ?_
          first | refine gb_take 11 rfl (by decide +kernel) rfl rfl (by first | exact ys_blk hT rfl rfl mE rfl rfl | exact ys_row hT rfl rfl mE rfl rfl | exact ys_row0 hT rfl rfl mE rfl rfl) sF ?_ | refine gb_skip 11 rfl (by decide +kernel) rfl rfl sF ?_
          first | refine gb_skip 12 rfl (by decide +kernel) rfl rfl sF ?_ | (refine gb_only 12 (by decide +kernel) rfl rfl ?_; (refine mv_call_bel (fun w hk => kless_any k0 k w) rfl rfl rfl rfl rfl (by kernel_rfl) ?_); refine ⟨sF, ?_⟩)
          try (refine gb_say 27 (.bool true) rfl (congrArg Value.bool (tB_true hlk)) ?_)
          first | refine gb_take 13 rfl (by decide +kernel) rfl rfl (ys_ev (nw := true) hT rfl sI) sF ?_ | refine gb_skip 13 rfl (by decide +kernel) rfl rfl sF ?_
          refine gb_take 14 rfl (by decide +kernel) rfl rfl (ys_ev (nw := true) hT rfl sI) sF ?_
          refine gb_nil (by decide +kernel) ?_
          exact ⟨(), (by repeat (first | exact trivial | refine ⟨rfl, ?_⟩)), sA, sS⟩
        · (repeat (refine gG ?_; try intro _))
          refine gk_again_sel rfl (m + 1 + 1) ⟨by omega, fun j hj => ?_⟩ (by omega) (by repeat (first | exact trivial | refine ⟨rfl, ?_⟩)) sA sS
          by_cases e : j = m
          · subst e
            rw [getD_at hk0, getD_at hks]
            exact hlk
          · exact hA j (by omega)
      · refine gk_any [0, 1, 2, 3] (Cut _ (fun _ : Unit => [(0, .pointer (some ⟨g, 0, none⟩)), (29, .bool true)]) (fun _ => []) (fun _ => [])) rfl rfl (by kernel_rfl) ?_ (cut_k fun _ => ?_)
        · skip
          refine gb_take 0 rfl (by decide +kernel) rfl rfl (ys_ev (nw := true) hT rfl sI) sF ?_
          refine gb_take 1 rfl (by decide +kernel) rfl rfl (ys_ev (nw := true) hT rfl sI) sF ?_
          try (refine gb_say 16 (.bool true) rfl (congrArg Value.bool (tB_true (by omega))) ?_)
          refine gb_take 2 rfl (by decide +kernel) rfl rfl (ys_ev (nw := true) hT rfl sI) sF ?_
          first | refine gb_take 3 rfl (by decide +kernel) rfl rfl (ys_ev (nw := true) hT rfl sI) sF ?_ | refine gb_skip 3 rfl (by decide +kernel) rfl rfl sF ?_
          first | refine gb_take 4 rfl (by decide +kernel) rfl rfl (ys_ev (nw := true) hT rfl sI) sF ?_ | refine gb_skip 4 rfl (by decide +kernel) rfl rfl sF ?_
          first | refine gb_take 5 rfl (by decide +kernel) rfl rfl (ys_ev (nw := true) hT rfl sI) sF ?_ | refine gb_skip 5 rfl (by decide +kernel) rfl rfl sF ?_
          first | refine gb_take 6 rfl (by decide +kernel) rfl rfl (by first | exact ys_blk hT rfl rfl mE rfl rfl | exact ys_row hT rfl rfl mE rfl rfl | exact ys_row0 hT rfl rfl mE rfl rfl) sF ?_ | refine gb_skip 6 rfl (by decide +kernel) rfl rfl sF ?_
          first | refine gb_take 7 rfl (by decide +kernel) rfl rfl (ys_ev (nw := true) hT rfl sI) sF ?_ | refine gb_skip 7 rfl (by decide +kernel) rfl rfl sF ?_
          first | refine gb_take 8 rfl (by decide +kernel) rfl rfl (ys_ev (nw := true) hT rfl sI) sF ?_ | refine gb_skip 8 rfl (by decide +kernel) rfl rfl sF ?_
          try (refine gb_say 23 (.int .i64 (m : Nat)) rfl (by congr 1; omega) ?_)
          first | refine gb_take 9 rfl (by decide +kernel) rfl rfl (ys_ev (nw := true) hT rfl sI) sF ?_ | refine gb_skip 9 rfl (by decide +kernel) rfl rfl sF ?_
          first | refine gb_take 10 rfl (by decide +kernel) rfl rfl (by first | exact ys_blk hT rfl rfl mE rfl rfl | exact ys_row hT rfl rfl mE rfl rfl | exact ys_row0 hT rfl rfl mE rfl rfl) sF ?_ | refine gb_skip 10 rfl (by decide +kernel) rfl rfl sF ?_
          first | refine gb_take 11 rfl (by decide +kernel) rfl rfl (by first | exact ys_blk hT rfl rfl mE rfl rfl | exact ys_row hT rfl rfl mE rfl rfl | exact ys_row0 hT rfl rfl mE rfl rfl) sF ?_ | refine gb_skip 11 rfl (by decide +kernel) rfl rfl sF ?_
          first | refine gb_skip 12 rfl (by decide +kernel) rfl rfl sF ?_ | (refine gb_only 12 (by decide +kernel) rfl rfl ?_; (refine mv_call_bel (fun w hk => kless_any k0 k w) rfl rfl rfl rfl rfl (by kernel_rfl) ?_); refine ⟨sF, ?_⟩)
          try (refine gb_say 27 (.bool false) rfl (congrArg Value.bool (tB_false hlk)) ?_)
          first | refine gb_take 13 rfl (by decide +kernel) rfl rfl (ys_ev (nw := true) hT rfl sI) sF ?_ | refine gb_skip 13 rfl (by decide +kernel) rfl rfl sF ?_
          refine gb_take 14 rfl (by decide +kernel) rfl rfl (ys_ev (nw := true) hT rfl sI) sF ?_
          refine gb_nil (by decide +kernel) ?_
          exact ⟨(), (by repeat (first | exact trivial | refine ⟨rfl, ?_⟩)), sA, sS⟩
        · (repeat (refine gG ?_; try intro _))
          refine gk_ret hT rfl rfl (.tmp rfl .nil) (fun w' hk => ?_)
          refine ⟨?_, hk.toBelow⟩
          rw [tB_false (fun h : AscK Ks => hlk (by have := h m (m + 1) (by omega) (by omega); rw [getD_at hk0, getD_at hks] at this; exact this))]
          rfl
  · (repeat' (first | (refine gG ?_; try intro _) | ((first | refine g_split rfl rfl tE (fun _ => ?_) (fun _ => ?_) | refine gk_cond rfl rfl tE (fun _ => ?_) (fun _ => ?_)) <;> (try first | (exfalso; omega; done) | (rename_i hx; exact absurd rfl hx) | (rename_i hx; cases hx; done)))))
    refine gk_ret hT rfl rfl (.tmp rfl .nil) (fun w' hk => ?_)
    refine ⟨?_, hk.toBelow⟩
    rw [tB_true (asc_near fun j hj => hA j (by omega))]
    rfl
/-- Has a node as many as it must? -/
def FillP (leaf rt : Bool) (kn vn cn : Nat) : Prop := (if rt = true then (if leaf = true then 1 else 2) else 3) ≤ kn ∧ kn ≤ 6 ∧ (if leaf = true then vn else cn) = kn
theorem cfill_any (g : Nat) (dp : Int) (lf rt : Bool) (KA VA CA : Option Addr) (kn kc vn vc cn cc : Nat) (a : Int) (w : World) (hk9 : kn ≤ 1000000) (hv9 : vn ≤ 1000000) (hc9 : cn ≤ 1000000) (hB0 : w.heap[g]? = some (.cells [.bool lf, .slice KA kn kc, .slice VA vn vc, .slice CA cn cc, .int .u32 a].toArray 109 (0, 0))) :
    Calls Tryz.prog 54 [.agg #[.pointer (some ⟨g, 0, none⟩), .int .i64 dp, .bool rt]].toArray w fun e w' => e = .returned (.bool (tB (FillP lf rt kn vn cn))) ∧ Below w.heap.size w w' := by
  have hlt : g < w.heap.size := by
    rcases Nat.lt_or_ge g w.heap.size with h | h
    · exact h
    · rw [Array.getElem?_eq_none h] at hB0; cases hB0
  have hB : Rd1 w (blk g [.bool lf, .slice KA kn kc, .slice VA vn vc, .slice CA cn cc, .int .u32 a] 109) := ⟨hB0, fun b hb => by
    have : b = g := hb
    omega⟩
  refine g_enter0 T [] [] [row g 0 [.bool lf, .slice KA kn kc, .slice VA vn vc, .slice CA cn cc, .int .u32 a], blk g [.bool lf, .slice KA kn kc, .slice VA vn vc, .slice CA cn cc, .int .u32 a] 109] Tryz.func54 rfl Tryz.ntmps54 rfl (Rds.cons hB.row (.cons hB .nil)).kn ?_
  cases lf <;> cases rt
  all_goals
    (repeat' (first | (refine gG ?_; try intro _) | (refine g_mv rfl ?_; first | refine mv_call_bel (fun w hk => nlen_any g [] _ ⟨KA, kn, kc⟩ ⟨VA, vn, vc⟩ ⟨CA, cn, cc⟩ a w (hk.pR (blk g _ 109) mE)) rfl rfl rfl rfl rfl (by kernel_rfl) ?_) | ((first | refine g_split rfl rfl tE (fun _ => ?_) (fun _ => ?_) | refine gk_cond rfl rfl tE (fun _ => ?_) (fun _ => ?_)) <;> (try first | (exfalso; omega; done) | (rename_i hx; exact absurd rfl hx) | (rename_i hx; cases hx; done)))))
  all_goals
    refine gk_ret hT rfl rfl (.tmp rfl .nil) (fun w' hk => ?_)
    refine ⟨ret_bool ?_, hk.toBelow⟩
    dsimp only at *
    simp [FillP, tB_eq]
    try omega
end Go.Proofs.YtaghmffgoomebaaGreat.Ck
namespace Go.Proofs.YtaghmffgoomebaaGreat.Ck
open Go.RowKit Mem Nd Gx Sk Tw Wk
open Tr hiding T row
set_option linter.unusedVariables false
set_option linter.unusedSimpArgs false
set_option maxRecDepth 100000
set_option maxHeartbeats 1000000
noncomputable def entR (Z : List EntD) (n : Int) : Int := if tB (AscK (keysOf Z)) = true then (if (Z.length : Int) = n then 0 else 5) else 1
theorem keys_at {Z : List EntD} {i : Nat} {e : EntD} (h : Z[i]? = some e) : (keysOf Z).getD i default = e.k := getD_at (by show (Z.map EntD.k)[i]? = _; rw [List.getElem?_map, h]; rfl)
theorem keys_len (Z : List EntD) : (keysOf Z).length = Z.length := List.length_map ..
theorem centries_any (a : Option AT) (tg : Nat) (n : Int) (f0 t0 : KeyD) (ys : List (Tr.T 0)) (Z : List EntD) (w : World) (hf0 : f0 = ⟨0, 0, 0⟩) (ht0 : t0 = maxK) (hl : LvO a f0 ys) (hu : UpTo t0 (rows ys)) (h9 : (rows ys).length ≤ 10000) (hZ : win f0 t0 (rows ys) = Z) (hB : Rd1 w (blk tg [rootV a, .int .i64 n] 55)) (hF : Rd1 w (stF a)) :
    Calls Tryz.prog 56 [.pointer (some ⟨tg, 0, none⟩)].toArray w fun e w' => e = .returned (.int .i64 (entR Z n)) ∧ Below w.heap.size w w' := by
  have hZl : Z.length ≤ 10000 := by rw [← hZ]; exact Nat.le_trans (win_le f0 t0 _) h9
  refine g_enter0 T [] [] [blk tg [rootV a, .int .i64 n] 55, stF a] Tryz.func56 rfl Tryz.ntmps56 rfl (Rds.cons hB (.cons hF .nil)).kn ?_
  (repeat (refine gG ?_; try intro _))
  refine g_mv rfl ?_; refine mv_call_rt (fun w hk => all_any a tg n f0 t0 ys w hf0 ht0 hl hu h9 (hk.rR mE) (hk.rR mE)) rfl rfl rfl rfl rfl (by kernel_rfl) (fun _ => rfl) (fun v _ => ?_)
  rw [hZ]
  refine g_freeze v (by intro _; first | ((repeat (first | with_reducible exact Upd.here _ | with_reducible apply Upd.there)); done) | ((repeat (first | exact Upd.here _ | apply Upd.there)); done) | fail) (fun zA zc hv _ _ _ => ?_)
  subst hv
  refine g_share (by repeat (first | with_reducible exact Sel.here | with_reducible apply Sel.there)) ?_
  (repeat (refine gG ?_; try intro _))
  refine gk_loop_sel (fun (i : Nat) => (i ≤ Z.length ∧ ∀ j, j + 1 < i → klt ((keysOf Z).getD j default) ((keysOf Z).getD (j + 1) default))) (fun (i : Nat) => [(0, .pointer (some ⟨tg, 0, none⟩)), (3, .slice zA Z.length zc), (8, .slice zA Z.length zc), (9, .int .i64 Z.length), (10, .int .i64 i)]) (fun (i : Nat) => []) (fun (i : Nat) => [sl zA 4 EE Z, blk tg [rootV a, .int .i64 n] 55]) (fun (i : Nat) => Z.length - i) 0 rfl ⟨Nat.zero_le _, fun j hj => absurd hj (by omega)⟩ (by repeat (first | exact trivial | refine ⟨rfl, ?_⟩)) sA sS ?_
  rintro i hI
  replace hI : (i ≤ Z.length ∧ ∀ j, j + 1 < i → klt ((keysOf Z).getD j default) ((keysOf Z).getD (j + 1) default)) := hI
  change GK _ _ [(0, .pointer (some ⟨tg, 0, none⟩)), (3, .slice zA Z.length zc), (8, .slice zA Z.length zc), (9, .int .i64 Z.length), (10, .int .i64 i)] [] [sl zA 4 EE Z, blk tg [rootV a, .int .i64 n] 55]
  obtain ⟨hi, hA⟩ := hI
  by_cases hlt : i < Z.length
  · obtain ⟨e, he⟩ : ∃ e, Z[i]? = some e := ⟨Z[i], List.getElem?_eq_getElem hlt⟩
    refine gk_elem (enc := EE) (L := Z) i mE hlt (by decide) (fun b1 o1 y1 eA hy1 => ?_)
    subst eA
    obtain rfl : e = y1 := by rw [he] at hy1; exact Option.some.inj hy1
    (repeat' (first | (refine gG ?_; try intro _) | ((first | refine g_split rfl rfl tE (fun _ => ?_) (fun _ => ?_) | refine gk_cond rfl rfl tE (fun _ => ?_) (fun _ => ?_)) <;> (try first | (exfalso; omega; done) | (rename_i hx; exact absurd rfl hx) | (rename_i hx; cases hx; done)))))
    rename_i g5
    cases i with
    | zero =>
      refine gk_any [0, 1] (Cut _ (fun _ : Unit => [(0, .pointer (some ⟨tg, 0, none⟩)), (3, .slice (some ⟨b1, o1, none⟩) Z.length zc), (8, .slice (some ⟨b1, o1, none⟩) Z.length zc), (9, .int .i64 Z.length), (10, .int .i64 ((0 : Nat) : Int)), (28, .bool false)]) (fun _ => []) (fun _ => [sl (some ⟨b1, o1, none⟩) 4 EE Z, blk tg [rootV a, .int .i64 n] 55])) rfl rfl (by kernel_rfl) ?_ (cut_k fun _ => ?_)
      · skip
        refine gb_take 0 rfl (by decide +kernel) rfl rfl (ys_ev (nw := true) hT rfl sI) sF ?_
        refine gb_take 1 rfl (by decide +kernel) rfl rfl (ys_ev (nw := true) hT rfl sI) sF ?_
        try (refine gb_say 16 (.bool false) rfl (congrArg Value.bool (tB_false (by omega))) ?_)
        refine gb_take 2 rfl (by decide +kernel) rfl rfl (ys_ev (nw := true) hT rfl sI) sF ?_
        first | refine gb_take 3 rfl (by decide +kernel) rfl rfl (ys_ev (nw := true) hT rfl sI) sF ?_ | refine gb_skip 3 rfl (by decide +kernel) rfl rfl sF ?_
        first | refine gb_take 4 rfl (by decide +kernel) rfl rfl (ys_ev (nw := true) hT rfl sI) sF ?_ | refine gb_skip 4 rfl (by decide +kernel) rfl rfl sF ?_
        first | refine gb_take 5 rfl (by decide +kernel) rfl rfl (ys_ev (nw := true) hT rfl sI) sF ?_ | refine gb_skip 5 rfl (by decide +kernel) rfl rfl sF ?_
        first | refine gb_take 6 rfl (by decide +kernel) rfl rfl (ys_ev (nw := true) hT rfl sI) sF ?_ | refine gb_skip 6 rfl (by decide +kernel) rfl rfl sF ?_
        first | refine gb_take 7 rfl (by decide +kernel) rfl rfl (ys_ev (nw := true) hT rfl sI) sF ?_ | refine gb_skip 7 rfl (by decide +kernel) rfl rfl sF ?_
        first | refine gb_take 8 rfl (by decide +kernel) rfl rfl (by first | exact ys_blk hT rfl rfl mE rfl rfl | exact ys_row hT rfl rfl mE rfl rfl | exact ys_row0 hT rfl rfl mE rfl rfl) sF ?_ | refine gb_skip 8 rfl (by decide +kernel) rfl rfl sF ?_
        first | refine gb_take 9 rfl (by decide +kernel) rfl rfl (ys_ev (nw := true) hT rfl sI) sF ?_ | refine gb_skip 9 rfl (by decide +kernel) rfl rfl sF ?_
        first | refine gb_take 10 rfl (by decide +kernel) rfl rfl (by first | exact ys_blk hT rfl rfl mE rfl rfl | exact ys_row hT rfl rfl mE rfl rfl | exact ys_row0 hT rfl rfl mE rfl rfl) sF ?_ | refine gb_skip 10 rfl (by decide +kernel) rfl rfl sF ?_
        first | refine gb_skip 11 rfl (by decide +kernel) rfl rfl sF ?_ | (refine gb_only 11 (by decide +kernel) rfl rfl ?_; (first | (refine mv_box rfl rfl rfl rfl ?_; intro _) | (refine mv_alloc rfl hT rfl rfl ?_; intro _) | refine mv_store hT rfl rfl rfl rfl rfl rfl sO rfl ?_ | (refine mv_buildSlice rfl hT rfl rfl rfl rfl rfl rfl rfl rfl ?_; intro _)); refine ⟨sF, ?_⟩)
        first | refine gb_take 12 rfl (by decide +kernel) rfl rfl (ys_ev (nw := true) hT rfl sI) sF ?_ | refine gb_skip 12 rfl (by decide +kernel) rfl rfl sF ?_
        refine gb_take 13 rfl (by decide +kernel) rfl rfl (ys_ev (nw := true) hT rfl sI) sF ?_
        refine gb_nil (by decide +kernel) ?_
        exact ⟨(), (by repeat (first | exact trivial | refine ⟨rfl, ?_⟩)), sA, sS⟩
      · (repeat (refine gG ?_; try intro _))
        refine gk_again_sel rfl 1 ⟨by omega, fun j hj => absurd hj (by omega)⟩ (by omega) (by repeat (first | exact trivial | refine ⟨rfl, ?_⟩)) sA sS
    | succ m =>
      obtain ⟨e0, he0⟩ : ∃ e, Z[m]? = some e := ⟨Z[m], List.getElem?_eq_getElem (by omega)⟩
      refine gk_elem (enc := EE) (L := Z) m mE (by omega) (by decide) (fun b2 o2 y2 eA hy2 => ?_)
      injection eA with eA
      injection eA with e2 e3
      subst e2 e3
      obtain rfl : e0 = y2 := by rw [he0] at hy2; exact Option.some.inj hy2
      by_cases hlk : klt e0.k e.k
      · refine gk_any [0, 1, 2] (Cut _ (fun _ : Unit => [(0, .pointer (some ⟨tg, 0, none⟩)), (3, .slice (some ⟨b1, o1, none⟩) Z.length zc), (8, .slice (some ⟨b1, o1, none⟩) Z.length zc), (9, .int .i64 Z.length), (10, .int .i64 ((m + 1 : Nat) : Int)), (28, .bool false)]) (fun _ => []) (fun _ => [sl (some ⟨b1, o1, none⟩) 4 EE Z, blk tg [rootV a, .int .i64 n] 55])) rfl rfl (by kernel_rfl) ?_ (cut_k fun _ => ?_)
        · skip
          refine gb_take 0 rfl (by decide +kernel) rfl rfl (ys_ev (nw := true) hT rfl sI) sF ?_
          refine gb_take 1 rfl (by decide +kernel) rfl rfl (ys_ev (nw := true) hT rfl sI) sF ?_
          try (refine gb_say 16 (.bool true) rfl (congrArg Value.bool (tB_true (by omega))) ?_)
          refine gb_take 2 rfl (by decide +kernel) rfl rfl (ys_ev (nw := true) hT rfl sI) sF ?_
          first | refine gb_take 3 rfl (by decide +kernel) rfl rfl (ys_ev (nw := true) hT rfl sI) sF ?_ | refine gb_skip 3 rfl (by decide +kernel) rfl rfl sF ?_
          first | refine gb_take 4 rfl (by decide +kernel) rfl rfl (ys_ev (nw := true) hT rfl sI) sF ?_ | refine gb_skip 4 rfl (by decide +kernel) rfl rfl sF ?_
          first | refine gb_take 5 rfl (by decide +kernel) rfl rfl (ys_ev (nw := true) hT rfl sI) sF ?_ | refine gb_skip 5 rfl (by decide +kernel) rfl rfl sF ?_
          try (refine gb_say 20 (.int .i64 (m : Nat)) rfl (by congr 1; omega) ?_)
          first | refine gb_take 6 rfl (by decide +kernel) rfl rfl (ys_ev (nw := true) hT rfl sI) sF ?_ | refine gb_skip 6 rfl (by decide +kernel) rfl rfl sF ?_
          first | refine gb_take 7 rfl (by decide +kernel) rfl rfl (ys_ev (nw := true) hT rfl sI) sF ?_ | refine gb_skip 7 rfl (by decide +kernel) rfl rfl sF ?_
          first | refine gb_take 8 rfl (by decide +kernel) rfl rfl (by first | exact ys_blk hT rfl rfl mE rfl rfl | exact ys_row hT rfl rfl mE rfl rfl | exact ys_row0 hT rfl rfl mE rfl rfl) sF ?_ | refine gb_skip 8 rfl (by decide +kernel) rfl rfl sF ?_
          first | refine gb_take 9 rfl (by decide +kernel) rfl rfl (ys_ev (nw := true) hT rfl sI) sF ?_ | refine gb_skip 9 rfl (by decide +kernel) rfl rfl sF ?_
          first | refine gb_take 10 rfl (by decide +kernel) rfl rfl (by first | exact ys_blk hT rfl rfl mE rfl rfl | exact ys_row hT rfl rfl mE rfl rfl | exact ys_row0 hT rfl rfl mE rfl rfl) sF ?_ | refine gb_skip 10 rfl (by decide +kernel) rfl rfl sF ?_
          first | refine gb_skip 11 rfl (by decide +kernel) rfl rfl sF ?_ | (refine gb_only 11 (by decide +kernel) rfl rfl ?_; (refine mv_call_bel (fun w hk => kless_any e0.k e.k w) rfl rfl rfl rfl rfl (by kernel_rfl) ?_); refine ⟨sF, ?_⟩)
          try (refine gb_say 26 (.bool true) rfl (congrArg Value.bool (tB_true hlk)) ?_)
          first | refine gb_take 12 rfl (by decide +kernel) rfl rfl (ys_ev (nw := true) hT rfl sI) sF ?_ | refine gb_skip 12 rfl (by decide +kernel) rfl rfl sF ?_
          refine gb_take 13 rfl (by decide +kernel) rfl rfl (ys_ev (nw := true) hT rfl sI) sF ?_
          refine gb_nil (by decide +kernel) ?_
          exact ⟨(), (by repeat (first | exact trivial | refine ⟨rfl, ?_⟩)), sA, sS⟩
        · (repeat (refine gG ?_; try intro _))
          refine gk_again_sel rfl (m + 1 + 1) ⟨by omega, fun j hj => ?_⟩ (by omega) (by repeat (first | exact trivial | refine ⟨rfl, ?_⟩)) sA sS
          by_cases ej : j = m
          · subst ej
            rw [keys_at he0, keys_at he]
            exact hlk
          · exact hA j (by omega)
      · refine gk_any [0, 1, 2] (Cut _ (fun _ : Unit => [(28, .bool true)]) (fun _ => []) (fun _ => [])) rfl rfl (by kernel_rfl) ?_ (cut_k fun _ => ?_)
        · skip
          refine gb_take 0 rfl (by decide +kernel) rfl rfl (ys_ev (nw := true) hT rfl sI) sF ?_
          refine gb_take 1 rfl (by decide +kernel) rfl rfl (ys_ev (nw := true) hT rfl sI) sF ?_
          try (refine gb_say 16 (.bool true) rfl (congrArg Value.bool (tB_true (by omega))) ?_)
          refine gb_take 2 rfl (by decide +kernel) rfl rfl (ys_ev (nw := true) hT rfl sI) sF ?_
          first | refine gb_take 3 rfl (by decide +kernel) rfl rfl (ys_ev (nw := true) hT rfl sI) sF ?_ | refine gb_skip 3 rfl (by decide +kernel) rfl rfl sF ?_
          first | refine gb_take 4 rfl (by decide +kernel) rfl rfl (ys_ev (nw := true) hT rfl sI) sF ?_ | refine gb_skip 4 rfl (by decide +kernel) rfl rfl sF ?_
          first | refine gb_take 5 rfl (by decide +kernel) rfl rfl (ys_ev (nw := true) hT rfl sI) sF ?_ | refine gb_skip 5 rfl (by decide +kernel) rfl rfl sF ?_
          try (refine gb_say 20 (.int .i64 (m : Nat)) rfl (by congr 1; omega) ?_)
          first | refine gb_take 6 rfl (by decide +kernel) rfl rfl (ys_ev (nw := true) hT rfl sI) sF ?_ | refine gb_skip 6 rfl (by decide +kernel) rfl rfl sF ?_
          first | refine gb_take 7 rfl (by decide +kernel) rfl rfl (ys_ev (nw := true) hT rfl sI) sF ?_ | refine gb_skip 7 rfl (by decide +kernel) rfl rfl sF ?_
          first | refine gb_take 8 rfl (by decide +kernel) rfl rfl (by first | exact ys_blk hT rfl rfl mE rfl rfl | exact ys_row hT rfl rfl mE rfl rfl | exact ys_row0 hT rfl rfl mE rfl rfl) sF ?_ | refine gb_skip 8 rfl (by decide +kernel) rfl rfl sF ?_
          first | refine gb_take 9 rfl (by decide +kernel) rfl rfl (ys_ev (nw := true) hT rfl sI) sF ?_ | refine gb_skip 9 rfl (by decide +kernel) rfl rfl sF ?_
          first | refine gb_take 10 rfl (by decide +kernel) rfl rfl (by first | exact ys_blk hT rfl rfl mE rfl rfl | exact ys_row hT rfl rfl mE rfl rfl | exact ys_row0 hT rfl rfl mE rfl rfl) sF ?_ | refine gb_skip 10 rfl (by decide +kernel) rfl rfl sF ?_
          first | refine gb_skip 11 rfl (by decide +kernel) rfl rfl sF ?_ | (refine gb_only 11 (by decide +kernel) rfl rfl ?_; (refine mv_call_bel (fun w hk => kless_any e0.k e.k w) rfl rfl rfl rfl rfl (by kernel_rfl) ?_); refine ⟨sF, ?_⟩)
          try (refine gb_say 26 (.bool false) rfl (congrArg Value.bool (tB_false hlk)) ?_)
          first | refine gb_take 12 rfl (by decide +kernel) rfl rfl (ys_ev (nw := true) hT rfl sI) sF ?_ | refine gb_skip 12 rfl (by decide +kernel) rfl rfl sF ?_
          refine gb_take 13 rfl (by decide +kernel) rfl rfl (ys_ev (nw := true) hT rfl sI) sF ?_
          refine gb_nil (by decide +kernel) ?_
          exact ⟨(), (by repeat (first | exact trivial | refine ⟨rfl, ?_⟩)), sA, sS⟩
        · (repeat (refine gG ?_; try intro _))
          refine gk_ret hT rfl rfl (.tmp rfl .nil) (fun w' hk => ?_)
          refine ⟨?_, hk.toBelow⟩
          unfold entR
          rw [if_neg (by rw [tB_false (fun h : AscK (keysOf Z) => hlk (by have := h m (m + 1) (by omega) (by rw [keys_len]; omega); rw [keys_at he0, keys_at he] at this; exact this))]; decide)]
          rfl
  · have hasc : AscK (keysOf Z) := asc_near fun j hj => hA j (by rw [keys_len] at hj; omega)
    (repeat' (first | (refine gG ?_; try intro _) | (refine g_mv rfl ?_; first | refine mv_call_bel (fun w hk => tlen_any tg (rootV a) n w (hk.rR mE)) rfl rfl rfl rfl rfl (by kernel_rfl) ?_) | ((first | refine g_split rfl rfl tE (fun _ => ?_) (fun _ => ?_) | refine gk_cond rfl rfl tE (fun _ => ?_) (fun _ => ?_)) <;> (try first | (exfalso; omega; done) | (rename_i hx; exact absurd rfl hx) | (rename_i hx; cases hx; done)))))
    all_goals
      refine gk_ret hT rfl rfl (.tmp rfl .nil) (fun w' hk => ?_)
      refine ⟨?_, hk.toBelow⟩
      unfold entR
      rw [if_pos (tB_true hasc)]
      split <;> first | rfl | (exfalso; omega)
end Go.Proofs.YtaghmffgoomebaaGreat.Ck
namespace Go.Proofs.YtaghmffgoomebaaGreat.Tw
open Go.RowKit Mem Nd Gx Sk
open Tr hiding T row
set_option linter.unusedVariables false
set_option linter.unusedSimpArgs false
set_option maxRecDepth 100000
set_option maxHeartbeats 4000000
/-- How far a queue of trees has come. -/
inductive BfsR (a : AT) : List AT → Nat → Prop
  | start : BfsR a [a] 0
  | step {Q : List AT} {i : Nat} {b : AT} (h : BfsR a Q i) (hb : Q[i]? = some b) : BfsR a (Q ++ b.kids) (i + 1)
theorem BfsR.count {a : AT} {Q : List AT} {i : Nat} (h : BfsR a Q i) : Q.length + left Q i = a.cnt := by
  induction h with
  | start =>
    have : 1 ≤ a.cnt := cnt_pos a.h a.t
    show 1 + left [a] 0 = _
    unfold left
    simp
    omega
  | step h hb ih => rw [left_step hb]; exact ih
theorem BfsR.der {a : AT} {Q : List AT} {i : Nat} (h : BfsR a Q i) : ∀ q ∈ Q, Der [stF (some a)] (treeF q.h q.t) := by
  induction h with
  | start =>
    intro q hq
    obtain rfl := List.mem_singleton.1 hq
    exact Der.elem (L := [q]) (F := fun a : AT => treeF a.h a.t) (Der.mem (.head _)) (.head _)
  | @step Q i b h hb ih =>
    intro q hq
    rcases List.mem_append.1 hq with hq | hq
    · exact ih q hq
    · skip
      obtain ⟨hh, tt⟩ := b
      cases hh with
      | zero => cases hq
      | succ hh =>
        obtain ⟨k, hk, rfl⟩ := List.mem_map.1 (show q ∈ (Tr.kids tt).map (fun k => (⟨hh, k⟩ : AT)) from hq)
        refine (der_kid (t := tt) hk).trans fun ψ hψ => ?_
        obtain rfl := List.mem_singleton.1 hψ
        exact ih _ (List.mem_of_getElem? hb)
theorem BfsR.ok {a : AT} {Q : List AT} {i : Nat} (h : BfsR a Q i) (ok : a.Ok) : ∀ q ∈ Q, q.Ok := by
  induction h with
  | start => intro q hq; obtain rfl := List.mem_singleton.1 hq; exact ok
  | step h hb ih =>
    intro q hq
    rcases List.mem_append.1 hq with hq | hq
    · exact ih q hq
    · exact AT.kids_ok (ih _ (List.mem_of_getElem? hb)) q hq
theorem BfsR.pos {a : AT} {Q : List AT} {i : Nat} (h : BfsR a Q i) : 0 < Q.length := by
  induction h with
  | start => exact Nat.one_pos
  | step h hb ih => rw [List.length_append]; omega
end Go.Proofs.YtaghmffgoomebaaGreat.Tw
