/- check.entries: do all entries rise, are there as many as there should be? -/
import Derived.Test.YtahfjkibononfaaCk
namespace Go.Proofs.Ytahfjkibononfaa.Ck
open Go.RowKit Mem Nd Gx Sk Tw Wk
open Tr hiding T row
set_option linter.unusedVariables false
set_option linter.unusedSimpArgs false
set_option maxRecDepth 100000
set_option maxHeartbeats 1000000
noncomputable def entR (Z : List EntD) (n : Int) : Int := if tB (AscK (keysOf Z)) = true then (if (Z.length : Int) = n then 0 else 5) else 1
theorem keys_at {Z : List EntD} {i : Nat} {e : EntD} (h : Z[i]? = some e) : (keysOf Z).getD i default = e.k := getD_at (by show (Z.map EntD.k)[i]? = _; rw [List.getElem?_map, h]; rfl)
theorem keys_len (Z : List EntD) : (keysOf Z).length = Z.length := List.length_map ..
theorem centries_any (a : Option AT) (tg : Nat) (n : Int) (f0 t0 : KeyD) (ys : List (Tr.T 0)) (Z : List EntD) (w : World) (hf0 : f0 = ⟨0, 0, 0⟩) (ht0 : t0 = maxK) (hl : LvO a f0 ys) (hu : UpTo t0 (rows ys)) (h9 : (rows ys).length ≤ 10000) (hZ : win f0 t0 (rows ys) = Z) (hB : Rd1 w (blk tg [rootV a, .int .i64 n] 63)) (hF : Rd1 w (stF a)) :
    Calls Try.prog 33 [.pointer (some ⟨tg, 0, none⟩)].toArray w fun e w' => e = .returned (.int .i64 (entR Z n)) ∧ Below w.heap.size w w' := by
  have hZl : Z.length ≤ 10000 := by rw [← hZ]; exact Nat.le_trans (win_le f0 t0 _) h9
  refine g_enter0 T [] [] [blk tg [rootV a, .int .i64 n] 63, stF a] Try.func33 rfl Try.ntmps33 rfl (Rds.cons hB (.cons hF .nil)).kn ?_
  (repeat (refine gG ?_; try intro _))
  refine g_mv rfl ?_; refine mv_call_rt (fun w hk => all_any a tg n f0 t0 ys w hf0 ht0 hl hu h9 (hk.rR mE) (hk.rR mE)) rfl rfl rfl rfl rfl (by kernel_rfl) (fun _ => rfl) (fun v _ => ?_)
  rw [hZ]
  refine g_freeze v (by intro _; first | ((repeat (first | with_reducible exact Upd.here _ | with_reducible apply Upd.there)); done) | ((repeat (first | exact Upd.here _ | apply Upd.there)); done) | fail) (fun zA zc hv _ _ _ => ?_)
  subst hv
  refine g_share (by repeat (first | with_reducible exact Sel.here | with_reducible apply Sel.there)) ?_
  (repeat (refine gG ?_; try intro _))
  refine gk_loop_sel (fun (i : Nat) => (i ≤ Z.length ∧ ∀ j, j + 1 < i → klt ((keysOf Z).getD j default) ((keysOf Z).getD (j + 1) default))) (fun (i : Nat) => [(0, .pointer (some ⟨tg, 0, none⟩)), (3, .slice zA Z.length zc), (8, .slice zA Z.length zc), (9, .int .i64 Z.length), (10, .int .i64 i)]) (fun (i : Nat) => []) (fun (i : Nat) => [sl zA 4 EE Z, blk tg [rootV a, .int .i64 n] 63]) (fun (i : Nat) => Z.length - i) 0 rfl ⟨Nat.zero_le _, fun j hj => absurd hj (by omega)⟩ (by repeat (first | exact trivial | refine ⟨rfl, ?_⟩)) sA sS ?_
  rintro i hI
  replace hI : (i ≤ Z.length ∧ ∀ j, j + 1 < i → klt ((keysOf Z).getD j default) ((keysOf Z).getD (j + 1) default)) := hI
  change GK _ _ [(0, .pointer (some ⟨tg, 0, none⟩)), (3, .slice zA Z.length zc), (8, .slice zA Z.length zc), (9, .int .i64 Z.length), (10, .int .i64 i)] [] [sl zA 4 EE Z, blk tg [rootV a, .int .i64 n] 63]
  obtain ⟨hi, hA⟩ := hI
  by_cases hlt : i < Z.length
  · obtain ⟨e, he⟩ : ∃ e, Z[i]? = some e := ⟨Z[i], List.getElem?_eq_getElem hlt⟩
    refine gk_elem (enc := EE) (L := Z) i mE hlt (by decide) (fun b1 o1 y1 eA hy1 => ?_)
    subst eA
    obtain rfl : e = y1 := by rw [he] at hy1; exact Option.some.inj hy1
    (repeat' (first | (refine gG ?_; try intro _) | ((first | refine g_split rfl rfl tE (fun _ => ?_) (fun _ => ?_) | refine gk_cond rfl rfl tE (fun _ => ?_) (fun _ => ?_)) <;> (try first | (exfalso; omega; done) | (rename_i hx; exact absurd rfl hx) | (rename_i hx; cases hx; done)))))
    rename_i g5
    cases i with
    | zero =>
      refine gk_any [0, 1] (Cut _ (fun _ : Unit => [(0, .pointer (some ⟨tg, 0, none⟩)), (3, .slice (some ⟨b1, o1, none⟩) Z.length zc), (8, .slice (some ⟨b1, o1, none⟩) Z.length zc), (9, .int .i64 Z.length), (10, .int .i64 ((0 : Nat) : Int)), (28, .bool false)]) (fun _ => []) (fun _ => [sl (some ⟨b1, o1, none⟩) 4 EE Z, blk tg [rootV a, .int .i64 n] 63])) rfl rfl (by kernel_rfl) ?_ (cut_k fun _ => ?_)
      · skip
        refine gb_take 0 rfl (by decide +kernel) rfl rfl (ys_ev (nw := true) hT rfl sI) sF ?_
        refine gb_take 1 rfl (by decide +kernel) rfl rfl (ys_ev (nw := true) hT rfl sI) sF ?_
        try (refine gb_say 16 (.bool false) rfl (congrArg Value.bool (tB_false (by omega))) ?_)
        refine gb_take 2 rfl (by decide +kernel) rfl rfl (ys_ev (nw := true) hT rfl sI) sF ?_
        first | refine gb_take 3 rfl (by decide +kernel) rfl rfl (ys_ev (nw := true) hT rfl sI) sF ?_ | refine gb_skip 3 rfl (by decide +kernel) rfl rfl sF ?_
        first | refine gb_take 4 rfl (by decide +kernel) rfl rfl (ys_ev (nw := true) hT rfl sI) sF ?_ | refine gb_skip 4 rfl (by decide +kernel) rfl rfl sF ?_
        first | refine gb_take 5 rfl (by decide +kernel) rfl rfl (ys_ev (nw := true) hT rfl sI) sF ?_ | refine gb_skip 5 rfl (by decide +kernel) rfl rfl sF ?_
        first | refine gb_take 6 rfl (by decide +kernel) rfl rfl (ys_ev (nw := true) hT rfl sI) sF ?_ | refine gb_skip 6 rfl (by decide +kernel) rfl rfl sF ?_
        first | refine gb_take 7 rfl (by decide +kernel) rfl rfl (ys_ev (nw := true) hT rfl sI) sF ?_ | refine gb_skip 7 rfl (by decide +kernel) rfl rfl sF ?_
        first | refine gb_take 8 rfl (by decide +kernel) rfl rfl (by first | exact ys_blk hT rfl rfl mE rfl rfl | exact ys_row hT rfl rfl mE rfl rfl | exact ys_row0 hT rfl rfl mE rfl rfl) sF ?_ | refine gb_skip 8 rfl (by decide +kernel) rfl rfl sF ?_
        first | refine gb_take 9 rfl (by decide +kernel) rfl rfl (ys_ev (nw := true) hT rfl sI) sF ?_ | refine gb_skip 9 rfl (by decide +kernel) rfl rfl sF ?_
        first | refine gb_take 10 rfl (by decide +kernel) rfl rfl (by first | exact ys_blk hT rfl rfl mE rfl rfl | exact ys_row hT rfl rfl mE rfl rfl | exact ys_row0 hT rfl rfl mE rfl rfl) sF ?_ | refine gb_skip 10 rfl (by decide +kernel) rfl rfl sF ?_
        first | refine gb_skip 11 rfl (by decide +kernel) rfl rfl sF ?_ | (refine gb_only 11 (by decide +kernel) rfl rfl ?_; (first | (refine mv_box rfl rfl rfl rfl ?_; intro _) | (refine mv_alloc rfl hT rfl rfl ?_; intro _) | refine mv_store hT rfl rfl rfl rfl rfl rfl sO rfl ?_ | (refine mv_buildSlice rfl hT rfl rfl rfl rfl rfl rfl rfl rfl ?_; intro _)); refine ⟨sF, ?_⟩)
        first | refine gb_take 12 rfl (by decide +kernel) rfl rfl (ys_ev (nw := true) hT rfl sI) sF ?_ | refine gb_skip 12 rfl (by decide +kernel) rfl rfl sF ?_
        refine gb_take 13 rfl (by decide +kernel) rfl rfl (ys_ev (nw := true) hT rfl sI) sF ?_
        refine gb_nil (by decide +kernel) ?_
        exact ⟨(), (by repeat (first | exact trivial | refine ⟨rfl, ?_⟩)), sA, sS⟩
      · (repeat (refine gG ?_; try intro _))
        refine gk_again_sel rfl 1 ⟨by omega, fun j hj => absurd hj (by omega)⟩ (by omega) (by repeat (first | exact trivial | refine ⟨rfl, ?_⟩)) sA sS
    | succ m =>
      obtain ⟨e0, he0⟩ : ∃ e, Z[m]? = some e := ⟨Z[m], List.getElem?_eq_getElem (by omega)⟩
      refine gk_elem (enc := EE) (L := Z) m mE (by omega) (by decide) (fun b2 o2 y2 eA hy2 => ?_)
      injection eA with eA
      injection eA with e2 e3
      subst e2 e3
      obtain rfl : e0 = y2 := by rw [he0] at hy2; exact Option.some.inj hy2
      by_cases hlk : klt e0.k e.k
      · refine gk_any [0, 1, 2] (Cut _ (fun _ : Unit => [(0, .pointer (some ⟨tg, 0, none⟩)), (3, .slice (some ⟨b1, o1, none⟩) Z.length zc), (8, .slice (some ⟨b1, o1, none⟩) Z.length zc), (9, .int .i64 Z.length), (10, .int .i64 ((m + 1 : Nat) : Int)), (28, .bool false)]) (fun _ => []) (fun _ => [sl (some ⟨b1, o1, none⟩) 4 EE Z, blk tg [rootV a, .int .i64 n] 63])) rfl rfl (by kernel_rfl) ?_ (cut_k fun _ => ?_)
        · skip
          refine gb_take 0 rfl (by decide +kernel) rfl rfl (ys_ev (nw := true) hT rfl sI) sF ?_
          refine gb_take 1 rfl (by decide +kernel) rfl rfl (ys_ev (nw := true) hT rfl sI) sF ?_
          try (refine gb_say 16 (.bool true) rfl (congrArg Value.bool (tB_true (by omega))) ?_)
          refine gb_take 2 rfl (by decide +kernel) rfl rfl (ys_ev (nw := true) hT rfl sI) sF ?_
          first | refine gb_take 3 rfl (by decide +kernel) rfl rfl (ys_ev (nw := true) hT rfl sI) sF ?_ | refine gb_skip 3 rfl (by decide +kernel) rfl rfl sF ?_
          first | refine gb_take 4 rfl (by decide +kernel) rfl rfl (ys_ev (nw := true) hT rfl sI) sF ?_ | refine gb_skip 4 rfl (by decide +kernel) rfl rfl sF ?_
          first | refine gb_take 5 rfl (by decide +kernel) rfl rfl (ys_ev (nw := true) hT rfl sI) sF ?_ | refine gb_skip 5 rfl (by decide +kernel) rfl rfl sF ?_
          try (refine gb_say 20 (.int .i64 (m : Nat)) rfl (by congr 1; omega) ?_)
          first | refine gb_take 6 rfl (by decide +kernel) rfl rfl (ys_ev (nw := true) hT rfl sI) sF ?_ | refine gb_skip 6 rfl (by decide +kernel) rfl rfl sF ?_
          first | refine gb_take 7 rfl (by decide +kernel) rfl rfl (ys_ev (nw := true) hT rfl sI) sF ?_ | refine gb_skip 7 rfl (by decide +kernel) rfl rfl sF ?_
          first | refine gb_take 8 rfl (by decide +kernel) rfl rfl (by first | exact ys_blk hT rfl rfl mE rfl rfl | exact ys_row hT rfl rfl mE rfl rfl | exact ys_row0 hT rfl rfl mE rfl rfl) sF ?_ | refine gb_skip 8 rfl (by decide +kernel) rfl rfl sF ?_
          first | refine gb_take 9 rfl (by decide +kernel) rfl rfl (ys_ev (nw := true) hT rfl sI) sF ?_ | refine gb_skip 9 rfl (by decide +kernel) rfl rfl sF ?_
          first | refine gb_take 10 rfl (by decide +kernel) rfl rfl (by first | exact ys_blk hT rfl rfl mE rfl rfl | exact ys_row hT rfl rfl mE rfl rfl | exact ys_row0 hT rfl rfl mE rfl rfl) sF ?_ | refine gb_skip 10 rfl (by decide +kernel) rfl rfl sF ?_
          first | refine gb_skip 11 rfl (by decide +kernel) rfl rfl sF ?_ | (refine gb_only 11 (by decide +kernel) rfl rfl ?_; (refine mv_call_bel (fun w hk => kless_any e0.k e.k w) rfl rfl rfl rfl rfl (by kernel_rfl) ?_); refine ⟨sF, ?_⟩)
          try (refine gb_say 26 (.bool true) rfl (congrArg Value.bool (tB_true hlk)) ?_)
          first | refine gb_take 12 rfl (by decide +kernel) rfl rfl (ys_ev (nw := true) hT rfl sI) sF ?_ | refine gb_skip 12 rfl (by decide +kernel) rfl rfl sF ?_
          refine gb_take 13 rfl (by decide +kernel) rfl rfl (ys_ev (nw := true) hT rfl sI) sF ?_
          refine gb_nil (by decide +kernel) ?_
          exact ⟨(), (by repeat (first | exact trivial | refine ⟨rfl, ?_⟩)), sA, sS⟩
        · (repeat (refine gG ?_; try intro _))
          refine gk_again_sel rfl (m + 1 + 1) ⟨by omega, fun j hj => ?_⟩ (by omega) (by repeat (first | exact trivial | refine ⟨rfl, ?_⟩)) sA sS
          by_cases ej : j = m
          · subst ej
            rw [keys_at he0, keys_at he]
            exact hlk
          · exact hA j (by omega)
      · refine gk_any [0, 1, 2] (Cut _ (fun _ : Unit => [(28, .bool true)]) (fun _ => []) (fun _ => [])) rfl rfl (by kernel_rfl) ?_ (cut_k fun _ => ?_)
        · skip
          refine gb_take 0 rfl (by decide +kernel) rfl rfl (ys_ev (nw := true) hT rfl sI) sF ?_
          refine gb_take 1 rfl (by decide +kernel) rfl rfl (ys_ev (nw := true) hT rfl sI) sF ?_
          try (refine gb_say 16 (.bool true) rfl (congrArg Value.bool (tB_true (by omega))) ?_)
          refine gb_take 2 rfl (by decide +kernel) rfl rfl (ys_ev (nw := true) hT rfl sI) sF ?_
          first | refine gb_take 3 rfl (by decide +kernel) rfl rfl (ys_ev (nw := true) hT rfl sI) sF ?_ | refine gb_skip 3 rfl (by decide +kernel) rfl rfl sF ?_
          first | refine gb_take 4 rfl (by decide +kernel) rfl rfl (ys_ev (nw := true) hT rfl sI) sF ?_ | refine gb_skip 4 rfl (by decide +kernel) rfl rfl sF ?_
          first | refine gb_take 5 rfl (by decide +kernel) rfl rfl (ys_ev (nw := true) hT rfl sI) sF ?_ | refine gb_skip 5 rfl (by decide +kernel) rfl rfl sF ?_
          try (refine gb_say 20 (.int .i64 (m : Nat)) rfl (by congr 1; omega) ?_)
          first | refine gb_take 6 rfl (by decide +kernel) rfl rfl (ys_ev (nw := true) hT rfl sI) sF ?_ | refine gb_skip 6 rfl (by decide +kernel) rfl rfl sF ?_
          first | refine gb_take 7 rfl (by decide +kernel) rfl rfl (ys_ev (nw := true) hT rfl sI) sF ?_ | refine gb_skip 7 rfl (by decide +kernel) rfl rfl sF ?_
          first | refine gb_take 8 rfl (by decide +kernel) rfl rfl (by first | exact ys_blk hT rfl rfl mE rfl rfl | exact ys_row hT rfl rfl mE rfl rfl | exact ys_row0 hT rfl rfl mE rfl rfl) sF ?_ | refine gb_skip 8 rfl (by decide +kernel) rfl rfl sF ?_
          first | refine gb_take 9 rfl (by decide +kernel) rfl rfl (ys_ev (nw := true) hT rfl sI) sF ?_ | refine gb_skip 9 rfl (by decide +kernel) rfl rfl sF ?_
          first | refine gb_take 10 rfl (by decide +kernel) rfl rfl (by first | exact ys_blk hT rfl rfl mE rfl rfl | exact ys_row hT rfl rfl mE rfl rfl | exact ys_row0 hT rfl rfl mE rfl rfl) sF ?_ | refine gb_skip 10 rfl (by decide +kernel) rfl rfl sF ?_
          first | refine gb_skip 11 rfl (by decide +kernel) rfl rfl sF ?_ | (refine gb_only 11 (by decide +kernel) rfl rfl ?_; (refine mv_call_bel (fun w hk => kless_any e0.k e.k w) rfl rfl rfl rfl rfl (by kernel_rfl) ?_); refine ⟨sF, ?_⟩)
          try (refine gb_say 26 (.bool false) rfl (congrArg Value.bool (tB_false hlk)) ?_)
          first | refine gb_take 12 rfl (by decide +kernel) rfl rfl (ys_ev (nw := true) hT rfl sI) sF ?_ | refine gb_skip 12 rfl (by decide +kernel) rfl rfl sF ?_
          refine gb_take 13 rfl (by decide +kernel) rfl rfl (ys_ev (nw := true) hT rfl sI) sF ?_
          refine gb_nil (by decide +kernel) ?_
          exact ⟨(), (by repeat (first | exact trivial | refine ⟨rfl, ?_⟩)), sA, sS⟩
        · (repeat (refine gG ?_; try intro _))
          refine gk_ret hT rfl rfl (.tmp rfl .nil) (fun w' hk => ?_)
          refine ⟨?_, hk.toBelow⟩
          unfold entR
          rw [if_neg (by rw [tB_false (fun h : AscK (keysOf Z) => hlk (by have := h m (m + 1) (by omega) (by rw [keys_len]; omega); rw [keys_at he0, keys_at he] at this; exact this))]; decide)]
          rfl
  · have hasc : AscK (keysOf Z) := asc_near fun j hj => hA j (by rw [keys_len] at hj; omega)
    (repeat' (first | (refine gG ?_; try intro _) | (refine g_mv rfl ?_; first | refine mv_call_bel (fun w hk => tlen_any tg (rootV a) n w (hk.rR mE)) rfl rfl rfl rfl rfl (by kernel_rfl) ?_) | ((first | refine g_split rfl rfl tE (fun _ => ?_) (fun _ => ?_) | refine gk_cond rfl rfl tE (fun _ => ?_) (fun _ => ?_)) <;> (try first | (exfalso; omega; done) | (rename_i hx; exact absurd rfl hx) | (rename_i hx; cases hx; done)))))
    all_goals
      refine gk_ret hT rfl rfl (.tmp rfl .nil) (fun w' hk => ?_)
      refine ⟨?_, hk.toBelow⟩
      unfold entR
      rw [if_pos (tB_true hasc)]
      split <;> first | rfl | (exfalso; omega)
end Go.Proofs.Ytahfjkibononfaa.Ck

