/- The chapter's example; the statement ExtentOf. -/
import Derived.Test.YtmehbhabheokbaaEx4
namespace Go.Proofs.Ytmehbhabheokbaa.Ex
open Go.RowKit Mem Gx Dd
set_option linter.unusedVariables false
set_option linter.unusedSimpArgs false
set_option maxRecDepth 100000
set_option maxHeartbeats 1000000
theorem rd_own {α : Type} [Inhabited α] {base e sz n c : Nat} {A : Option Addr} {enc : α → Nat → Value} {L : List α} {w : World} (h : Rd1 w (own base e sz (.slice A n c) enc L)) : Rd1 w (sl A sz enc L) := der_own.rd fun ψ hψ => by
  obtain rfl := List.mem_singleton.1 hψ
  exact h
theorem ofP_ex : ofP [3, 1, 2, 7] = [⟨1, 3⟩, ⟨7, 1⟩] := by
  have h1 : srt [3, 1, 2, 7] = [1, 2, 3, 7] := by simp [srt, List.mergeSort, List.MergeSort.Internal.splitInTwo, List.merge]
  unfold ofP
  rw [h1]
  rfl
theorem txt_ex : txtP [⟨1, 3⟩, ⟨7, 1⟩] = [49, 45, 51, 44, 55] := by
  have h : rightE (-1) [⟨1, 3⟩, ⟨7, 1⟩] := by simp [rightE, okR]
  unfold txtP
  rw [tB_true h, if_pos rfl]
  have d : ∀ k : Nat, k < 10 → dgs k = [48 + (k : Int)] := fun k hk => dgs_small hk
  show ([] ++ ([] ++ txtR ⟨1, 3⟩)) ++ ([44] ++ txtR ⟨7, 1⟩) = _
  have e1 : txtR ⟨1, 3⟩ = [49, 45, 51] := by
    show dgs 1 ++ (45 :: dgs 3) = _
    rw [d 1 (by decide), d 3 (by decide)]
    rfl
  have e2 : txtR ⟨7, 1⟩ = [55] := by
    show dgs 7 ++ [] = _
    rw [d 7 (by decide)]
    rfl
  rw [e1, e2]
  rfl
theorem alive_any (w : World) : Calls Try.prog 40 [].toArray w fun e w' => e = .returned (.bool true) ∧ Below w.heap.size w w' := by
  refine g_enter0 T [] [] [] Try.func40 rfl Try.ntmps40 rfl (Kn.start _) ?_
  (repeat (refine gG ?_; try intro _))
  rename_i g
  refine g_blk_own (g := g) (base := 0) (e := 3) (sz := 1) (n := 4) (c := 4) (enc := IE .i64) [3, 1, 2, 7] (by decide) (by first | ((repeat (first | with_reducible exact Upd.here _ | with_reducible apply Upd.there)); done) | ((repeat (first | exact Upd.here _ | apply Upd.there)); done) | fail) rfl rfl (by decide) (by decide) (Nat.zero_le _) rfl ?_
  refine g_mv rfl ?_; refine mv_call_rt (fun w hk => xof_any (some ⟨g, 0, none⟩) 4 4 [3, 1, 2, 7] w rfl (by decide) (rd_own (hk.rO (φ := own 0 3 1 (.slice (some ⟨g, 0, none⟩) 4 4) (IE .i64) [3, 1, 2, 7]) mE))) rfl rfl rfl rfl rfl (by kernel_rfl) (fun _ => rfl) (fun v _ => ?_)
  rw [ofP_ex]
  refine g_freeze _ (by intro _; first | ((repeat (first | with_reducible exact Upd.here _ | with_reducible apply Upd.there)); done) | ((repeat (first | exact Upd.here _ | apply Upd.there)); done) | fail) (fun A2 c2 hA2 hA21 hA22 hA23 => ?_); subst hA2
  refine g_share (φ := sl A2 2 RE [⟨1, 3⟩, ⟨7, 1⟩]) (by repeat (first | with_reducible exact Sel.here | with_reducible apply Sel.there)) ?_
  refine g_mv rfl (mv_call_bel (fun w hk => xtext_any A2 2 c2 [⟨1, 3⟩, ⟨7, 1⟩] w rfl (by decide) (hk.rR mE)) rfl rfl rfl rfl rfl (by kernel_rfl) ?_)
  rw [txt_ex]
  (repeat (refine gG ?_; try intro _))
  refine gk_ret hT rfl rfl (.tmp rfl .nil) (fun w' hk => ?_)
  refine ⟨?_, hk.toBelow⟩
  exact congrArg (fun q => Ending.returned (.bool q)) (tB_true rfl)
theorem extentOf_any (A : Option Addr) (n c : Nat) (L : List Int) (w : World) (hn : n = L.length) (hs : Rd1 w (sl A 1 (IE .i64) L)) :
    Calls Try.prog 5 [.slice A n c].toArray w fun e w' => e = .returned (.bool true) ∧ Below w.heap.size w w' := by
  refine g_enter0 T [] [] [sl A 1 (IE .i64) L] Try.func5 rfl Try.ntmps5 rfl (Rds.cons hs .nil).kn ?_
  by_cases h200 : 200 < n
  · (repeat' (first | (refine gG ?_; try intro _) | ((first | refine g_split rfl rfl tE (fun _ => ?_) (fun _ => ?_) | refine gk_cond rfl rfl tE (fun _ => ?_) (fun _ => ?_)) <;> (try first | (exfalso; omega; done) | (rename_i hx; exact absurd rfl hx) | (rename_i hx; cases hx; done)))))
    refine gk_ret hT rfl rfl (.tmp rfl .nil) (fun w' hk => ?_)
    exact ⟨rfl, hk.toBelow⟩
  · (repeat' (first | (refine gG ?_; try intro _) | ((first | refine g_split rfl rfl tE (fun _ => ?_) (fun _ => ?_) | refine gk_cond rfl rfl tE (fun _ => ?_) (fun _ => ?_)) <;> (try first | (exfalso; omega; done) | (rename_i hx; exact absurd rfl hx) | (rename_i hx; cases hx; done)))))
    refine g_mv rfl ?_; refine mv_call_rt (fun w hk => cloneI_own A n c L w hn (by omega) (hk.pR (sl A 1 (IE .i64) L) mE)) rfl rfl rfl rfl rfl (by kernel_rfl) (fun _ => rfl) (fun v1 _ => ?_)
    (repeat (refine gG ?_; try intro _))
    refine g_mv rfl (mv_call_mod (φ := own 0 3 1 v1 (IE .i64) L) (ψ := fun L' : List Int => own 0 3 1 v1 (IE .i64) L') (fun w1 hk => by exact SoI.sort_any v1 L w1 (by omega) (hk.rO (φ := own 0 3 1 v1 (IE .i64) L) mE)) rfl rfl rfl rfl rfl (by kernel_rfl) (by intro _; first | ((repeat (first | with_reducible exact Upd.here _ | with_reducible apply Upd.there)); done) | ((repeat (first | exact Upd.here _ | apply Upd.there)); done) | fail) (fun S hS => ?_))
    obtain rfl := srt_of hS.1 hS.2
    clear hS
    have hl := srt_len L
    have hof := ofP_inv L
    generalize hS : srt L = S at hl hof ⊢
    refine g_freeze _ (by intro _; first | ((repeat (first | with_reducible exact Upd.here _ | with_reducible apply Upd.there)); done) | ((repeat (first | exact Upd.here _ | apply Upd.there)); done) | fail) (fun A2 c2 hA2 hA21 hA22 hA23 => ?_); subst hA2
    (repeat (refine gG ?_; try intro _))
    refine gk_share (φ := sl A2 1 (IE .i64) S) (by repeat (first | with_reducible exact Sel.here | with_reducible apply Sel.there)) ?_
    refine gk_own 0 3 1 (IE .i64) ?_
    rw [show S.length = n by omega]
    refine gk_loop_sel (fun (q : Nat × Value) => match q with | (i, v) => (i ≤ n)) (fun (q : Nat × Value) => match q with | (i, v) => [(0, .slice A n c), (3, v), (4, .slice A2 n c2), (5, .int .i64 (i : Int))]) (fun (q : Nat × Value) => match q with | (i, v) => [own 0 3 1 v (IE .i64) ((ddN S i).filter inr)]) (fun (q : Nat × Value) => match q with | (i, v) => [sl A2 1 (IE .i64) S, sl A 1 (IE .i64) L]) (fun (q : Nat × Value) => match q with | (i, v) => n - i) (0, .slice none 0 0) rfl (Nat.zero_le _) (by repeat (first | exact trivial | refine ⟨rfl, ?_⟩)) sA sS ?_
    rintro ⟨i, v⟩ hI
    replace hI : (i ≤ n) := hI
    change GK _ _ [(0, .slice A n c), (3, v), (4, .slice A2 n c2), (5, .int .i64 (i : Int))] [own 0 3 1 v (IE .i64) ((ddN S i).filter inr)] [sl A2 1 (IE .i64) S, sl A 1 (IE .i64) L]
    by_cases hlt : i < n
    · obtain ⟨x, hx⟩ : ∃ x, S[i]? = some x := ⟨S[i], List.getElem?_eq_getElem (by omega)⟩
      have hWl : ((ddN S i).filter inr).length ≤ i := Nat.le_trans (List.length_filter_le _ _) ddN_len
      have hkeep : (i = 0 ∨ S[i - 1]? ≠ some x) → (ddN S (i + 1)).filter inr = (ddN S i).filter inr ++ (if inr x then [x] else []) := fun h => by
        rw [ddN_keep hx h, List.filter_append]
        congr 1
        cases hxr : inr x <;> simp [hxr]
      have hskip : i ≠ 0 → S[i - 1]? = some x → (ddN S (i + 1)).filter inr = (ddN S i).filter inr := fun h h' => by rw [ddN_skip hx h h']
      have hout : inr x = false → (ddN S (i + 1)).filter inr = (ddN S i).filter inr := fun h => by
        by_cases h' : i = 0 ∨ S[i - 1]? ≠ some x
        · rw [hkeep h', h, if_neg (by simp), List.append_nil]
        · exact hskip (fun e => h' (.inl e)) (Classical.byContradiction fun e => h' (.inr e))
      generalize (ddN S i).filter inr = W at hWl hkeep hskip hout ⊢
      refine gk_elem (enc := IE .i64) (L := S) i mE (by omega) (by decide) (fun b o y eA hy => ?_)
      subst eA
      obtain rfl : x = y := by rw [hx] at hy; exact Option.some.inj hy
      (repeat' (first | (refine gG ?_; try intro _) | ((first | refine g_split rfl rfl tE (fun _ => ?_) (fun _ => ?_) | refine gk_cond rfl rfl tE (fun _ => ?_) (fun _ => ?_)) <;> (try first | (exfalso; omega; done) | (rename_i hx; exact absurd rfl hx) | (rename_i hx; cases hx; done)))))
      by_cases hx0 : x < 0
      · rw [show W = (ddN S (i + 1)).filter inr from (hout (by simp [inr]; omega)).symm]
        refine gk_any [1] (Cut _ (fun _ : Unit => [(0, .slice A n c), (3, v), (4, .slice (some ⟨b, o, none⟩) n c2), (5, .int .i64 (i : Int)), (47, .bool false)]) (fun _ => [own 0 3 1 v (IE .i64) ((ddN S (i + 1)).filter inr)]) (fun _ => [sl (some ⟨b, o, none⟩) 1 (IE .i64) S, sl A 1 (IE .i64) L])) rfl rfl (by kernel_rfl) ?_ (cut_k fun _ => ?_)
        · skip
          refine gb_take 0 rfl (by decide +kernel) rfl rfl (ys_ev (nw := true) hT rfl sI) sF ?_
          refine gb_take 1 rfl (by decide +kernel) rfl rfl (ys_ev (nw := true) hT rfl sI) sF ?_
          refine gb_take 2 rfl (by decide +kernel) rfl rfl (ys_ev (nw := true) hT rfl sI) sF ?_
          refine gb_take 3 rfl (by decide +kernel) rfl rfl (by first | exact ys_blk hT rfl rfl mE rfl rfl | exact ys_row hT rfl rfl mE rfl rfl | exact ys_row0 hT rfl rfl mE rfl rfl) sF ?_
          refine gb_take 4 rfl (by decide +kernel) rfl rfl (ys_ev (nw := true) hT rfl sI) sF ?_
          refine gb_take 5 rfl (by decide +kernel) rfl rfl (ys_ev (nw := true) hT rfl sI) sF ?_
          try (refine gb_say 25 (.bool false) rfl (congrArg Value.bool (tB_false (show ¬ 0 ≤ x by omega))) ?_)
          first | refine gb_take 6 rfl (by decide +kernel) rfl rfl (ys_ev (nw := true) hT rfl sI) sF ?_ | refine gb_skip 6 rfl (by decide +kernel) rfl rfl sF ?_
          first | refine gb_take 7 rfl (by decide +kernel) rfl rfl (ys_ev (nw := true) hT rfl sI) sF ?_ | refine gb_skip 7 rfl (by decide +kernel) rfl rfl sF ?_
          first | refine gb_take 8 rfl (by decide +kernel) rfl rfl (ys_ev (nw := true) hT rfl sI) sF ?_ | refine gb_skip 8 rfl (by decide +kernel) rfl rfl sF ?_
          first | refine gb_take 9 rfl (by decide +kernel) rfl rfl (by first | exact ys_blk hT rfl rfl mE rfl rfl | exact ys_row hT rfl rfl mE rfl rfl | exact ys_row0 hT rfl rfl mE rfl rfl) sF ?_ | refine gb_skip 9 rfl (by decide +kernel) rfl rfl sF ?_
          first | refine gb_take 10 rfl (by decide +kernel) rfl rfl (ys_ev (nw := true) hT rfl sI) sF ?_ | refine gb_skip 10 rfl (by decide +kernel) rfl rfl sF ?_
          refine gb_take 11 rfl (by decide +kernel) rfl rfl (ys_ev (nw := true) hT rfl sI) sF ?_
          refine gb_take 12 rfl (by decide +kernel) rfl rfl (ys_ev (nw := true) hT rfl sI) sF ?_
          first | refine gb_take 13 rfl (by decide +kernel) rfl rfl (ys_ev (nw := true) hT rfl sI) sF ?_ | refine gb_skip 13 rfl (by decide +kernel) rfl rfl sF ?_
          first | refine gb_take 14 rfl (by decide +kernel) rfl rfl (ys_ev (nw := true) hT rfl sI) sF ?_ | refine gb_skip 14 rfl (by decide +kernel) rfl rfl sF ?_
          first | refine gb_take 15 rfl (by decide +kernel) rfl rfl (ys_ev (nw := true) hT rfl sI) sF ?_ | refine gb_skip 15 rfl (by decide +kernel) rfl rfl sF ?_
          first | refine gb_take 16 rfl (by decide +kernel) rfl rfl (ys_ev (nw := true) hT rfl sI) sF ?_ | refine gb_skip 16 rfl (by decide +kernel) rfl rfl sF ?_
          first | refine gb_take 17 rfl (by decide +kernel) rfl rfl (ys_ev (nw := true) hT rfl sI) sF ?_ | refine gb_skip 17 rfl (by decide +kernel) rfl rfl sF ?_
          first | refine gb_take 18 rfl (by decide +kernel) rfl rfl (ys_ev (nw := true) hT rfl sI) sF ?_ | refine gb_skip 18 rfl (by decide +kernel) rfl rfl sF ?_
          first | refine gb_take 19 rfl (by decide +kernel) rfl rfl (by first | exact ys_blk hT rfl rfl mE rfl rfl | exact ys_row hT rfl rfl mE rfl rfl | exact ys_row0 hT rfl rfl mE rfl rfl) sF ?_ | refine gb_skip 19 rfl (by decide +kernel) rfl rfl sF ?_
          first | refine gb_take 20 rfl (by decide +kernel) rfl rfl (ys_ev (nw := true) hT rfl sI) sF ?_ | refine gb_skip 20 rfl (by decide +kernel) rfl rfl sF ?_
          first | refine gb_take 21 rfl (by decide +kernel) rfl rfl (ys_ev (nw := true) hT rfl sI) sF ?_ | refine gb_skip 21 rfl (by decide +kernel) rfl rfl sF ?_
          first | refine gb_take 22 rfl (by decide +kernel) rfl rfl (ys_ev (nw := true) hT rfl sI) sF ?_ | refine gb_skip 22 rfl (by decide +kernel) rfl rfl sF ?_
          first | refine gb_take 23 rfl (by decide +kernel) rfl rfl (ys_ev (nw := true) hT rfl sI) sF ?_ | refine gb_skip 23 rfl (by decide +kernel) rfl rfl sF ?_
          first | refine gb_take 24 rfl (by decide +kernel) rfl rfl (by first | exact ys_blk hT rfl rfl mE rfl rfl | exact ys_row hT rfl rfl mE rfl rfl | exact ys_row0 hT rfl rfl mE rfl rfl) sF ?_ | refine gb_skip 24 rfl (by decide +kernel) rfl rfl sF ?_
          first | refine gb_take 25 rfl (by decide +kernel) rfl rfl (ys_ev (nw := true) hT rfl sI) sF ?_ | refine gb_skip 25 rfl (by decide +kernel) rfl rfl sF ?_
          first | refine gb_take 26 rfl (by decide +kernel) rfl rfl (ys_ev (nw := true) hT rfl sI) sF ?_ | refine gb_skip 26 rfl (by decide +kernel) rfl rfl sF ?_
          refine gb_take 27 rfl (by decide +kernel) rfl rfl (ys_ev (nw := true) hT rfl sI) sF ?_
          refine gb_nil (by decide +kernel) ?_
          exact ⟨(), (by repeat (first | exact trivial | refine ⟨rfl, ?_⟩)), sA, sS⟩
        · (repeat (refine gG ?_; try intro _))
          refine gk_say 5 (.int .i64 ((i + 1 : Nat) : Int)) rfl (by first | (congr 1; done) | (congr 1; omega)) ?_
          refine gk_again_sel rfl (i + 1, v) (by omega) (by dsimp only; omega) (by repeat (first | exact trivial | refine ⟨rfl, ?_⟩)) sA sS
      by_cases hx1 : 4096 < x
      · rw [show W = (ddN S (i + 1)).filter inr from (hout (by simp [inr]; omega)).symm]
        refine gk_any [1] (Cut _ (fun _ : Unit => [(0, .slice A n c), (3, v), (4, .slice (some ⟨b, o, none⟩) n c2), (5, .int .i64 (i : Int)), (47, .bool false)]) (fun _ => [own 0 3 1 v (IE .i64) ((ddN S (i + 1)).filter inr)]) (fun _ => [sl (some ⟨b, o, none⟩) 1 (IE .i64) S, sl A 1 (IE .i64) L])) rfl rfl (by kernel_rfl) ?_ (cut_k fun _ => ?_)
        · skip
          refine gb_take 0 rfl (by decide +kernel) rfl rfl (ys_ev (nw := true) hT rfl sI) sF ?_
          refine gb_take 1 rfl (by decide +kernel) rfl rfl (ys_ev (nw := true) hT rfl sI) sF ?_
          refine gb_take 2 rfl (by decide +kernel) rfl rfl (ys_ev (nw := true) hT rfl sI) sF ?_
          refine gb_take 3 rfl (by decide +kernel) rfl rfl (by first | exact ys_blk hT rfl rfl mE rfl rfl | exact ys_row hT rfl rfl mE rfl rfl | exact ys_row0 hT rfl rfl mE rfl rfl) sF ?_
          refine gb_take 4 rfl (by decide +kernel) rfl rfl (ys_ev (nw := true) hT rfl sI) sF ?_
          refine gb_take 5 rfl (by decide +kernel) rfl rfl (ys_ev (nw := true) hT rfl sI) sF ?_
          try (refine gb_say 25 (.bool true) rfl (congrArg Value.bool (tB_true (show 0 ≤ x by omega))) ?_)
          first | refine gb_take 6 rfl (by decide +kernel) rfl rfl (ys_ev (nw := true) hT rfl sI) sF ?_ | refine gb_skip 6 rfl (by decide +kernel) rfl rfl sF ?_
          first | refine gb_take 7 rfl (by decide +kernel) rfl rfl (ys_ev (nw := true) hT rfl sI) sF ?_ | refine gb_skip 7 rfl (by decide +kernel) rfl rfl sF ?_
          first | refine gb_take 8 rfl (by decide +kernel) rfl rfl (ys_ev (nw := true) hT rfl sI) sF ?_ | refine gb_skip 8 rfl (by decide +kernel) rfl rfl sF ?_
          first | refine gb_take 9 rfl (by decide +kernel) rfl rfl (by first | exact ys_blk hT rfl rfl mE rfl rfl | exact ys_row hT rfl rfl mE rfl rfl | exact ys_row0 hT rfl rfl mE rfl rfl) sF ?_ | refine gb_skip 9 rfl (by decide +kernel) rfl rfl sF ?_
          first | refine gb_take 10 rfl (by decide +kernel) rfl rfl (ys_ev (nw := true) hT rfl sI) sF ?_ | refine gb_skip 10 rfl (by decide +kernel) rfl rfl sF ?_
          try (refine gb_say 30 (.bool false) rfl (congrArg Value.bool (tB_false (show ¬ x ≤ 4096 by omega))) ?_)
          refine gb_take 11 rfl (by decide +kernel) rfl rfl (ys_ev (nw := true) hT rfl sI) sF ?_
          refine gb_take 12 rfl (by decide +kernel) rfl rfl (ys_ev (nw := true) hT rfl sI) sF ?_
          first | refine gb_take 13 rfl (by decide +kernel) rfl rfl (ys_ev (nw := true) hT rfl sI) sF ?_ | refine gb_skip 13 rfl (by decide +kernel) rfl rfl sF ?_
          first | refine gb_take 14 rfl (by decide +kernel) rfl rfl (ys_ev (nw := true) hT rfl sI) sF ?_ | refine gb_skip 14 rfl (by decide +kernel) rfl rfl sF ?_
          first | refine gb_take 15 rfl (by decide +kernel) rfl rfl (ys_ev (nw := true) hT rfl sI) sF ?_ | refine gb_skip 15 rfl (by decide +kernel) rfl rfl sF ?_
          first | refine gb_take 16 rfl (by decide +kernel) rfl rfl (ys_ev (nw := true) hT rfl sI) sF ?_ | refine gb_skip 16 rfl (by decide +kernel) rfl rfl sF ?_
          first | refine gb_take 17 rfl (by decide +kernel) rfl rfl (ys_ev (nw := true) hT rfl sI) sF ?_ | refine gb_skip 17 rfl (by decide +kernel) rfl rfl sF ?_
          first | refine gb_take 18 rfl (by decide +kernel) rfl rfl (ys_ev (nw := true) hT rfl sI) sF ?_ | refine gb_skip 18 rfl (by decide +kernel) rfl rfl sF ?_
          first | refine gb_take 19 rfl (by decide +kernel) rfl rfl (by first | exact ys_blk hT rfl rfl mE rfl rfl | exact ys_row hT rfl rfl mE rfl rfl | exact ys_row0 hT rfl rfl mE rfl rfl) sF ?_ | refine gb_skip 19 rfl (by decide +kernel) rfl rfl sF ?_
          first | refine gb_take 20 rfl (by decide +kernel) rfl rfl (ys_ev (nw := true) hT rfl sI) sF ?_ | refine gb_skip 20 rfl (by decide +kernel) rfl rfl sF ?_
          first | refine gb_take 21 rfl (by decide +kernel) rfl rfl (ys_ev (nw := true) hT rfl sI) sF ?_ | refine gb_skip 21 rfl (by decide +kernel) rfl rfl sF ?_
          first | refine gb_take 22 rfl (by decide +kernel) rfl rfl (ys_ev (nw := true) hT rfl sI) sF ?_ | refine gb_skip 22 rfl (by decide +kernel) rfl rfl sF ?_
          first | refine gb_take 23 rfl (by decide +kernel) rfl rfl (ys_ev (nw := true) hT rfl sI) sF ?_ | refine gb_skip 23 rfl (by decide +kernel) rfl rfl sF ?_
          first | refine gb_take 24 rfl (by decide +kernel) rfl rfl (by first | exact ys_blk hT rfl rfl mE rfl rfl | exact ys_row hT rfl rfl mE rfl rfl | exact ys_row0 hT rfl rfl mE rfl rfl) sF ?_ | refine gb_skip 24 rfl (by decide +kernel) rfl rfl sF ?_
          first | refine gb_take 25 rfl (by decide +kernel) rfl rfl (ys_ev (nw := true) hT rfl sI) sF ?_ | refine gb_skip 25 rfl (by decide +kernel) rfl rfl sF ?_
          first | refine gb_take 26 rfl (by decide +kernel) rfl rfl (ys_ev (nw := true) hT rfl sI) sF ?_ | refine gb_skip 26 rfl (by decide +kernel) rfl rfl sF ?_
          refine gb_take 27 rfl (by decide +kernel) rfl rfl (ys_ev (nw := true) hT rfl sI) sF ?_
          refine gb_nil (by decide +kernel) ?_
          exact ⟨(), (by repeat (first | exact trivial | refine ⟨rfl, ?_⟩)), sA, sS⟩
        · (repeat (refine gG ?_; try intro _))
          refine gk_say 5 (.int .i64 ((i + 1 : Nat) : Int)) rfl (by first | (congr 1; done) | (congr 1; omega)) ?_
          refine gk_again_sel rfl (i + 1, v) (by omega) (by dsimp only; omega) (by repeat (first | exact trivial | refine ⟨rfl, ?_⟩)) sA sS
      have hin : inr x = true := by simp [inr]; omega
      by_cases hd : i = 0 ∨ S[i - 1]? ≠ some x
      · have hst := hkeep hd
        rw [hin, if_pos rfl] at hst
        suffices hgo : GK _ _ [(0, .slice A n c), (3, v), (4, .slice (some ⟨b, o, none⟩) n c2), (5, .int .i64 (i : Int)), (47, .bool true)] [own 0 3 1 v (IE .i64) W] [sl (some ⟨b, o, none⟩) 1 (IE .i64) S, row b (o + i * 1) (encF (IE .i64) x 0 1), sl A 1 (IE .i64) L] by
          rcases Nat.eq_zero_or_pos i with h0 | h0
          · refine gk_any [1] (Cut _ (fun _ : Unit => [(0, .slice A n c), (3, v), (4, .slice (some ⟨b, o, none⟩) n c2), (5, .int .i64 (i : Int)), (47, .bool true)]) (fun _ => [own 0 3 1 v (IE .i64) W]) (fun _ => [sl (some ⟨b, o, none⟩) 1 (IE .i64) S, row b (o + i * 1) (encF (IE .i64) x 0 1), sl A 1 (IE .i64) L])) rfl rfl (by kernel_rfl) ?_ (cut_k fun _ => hgo)
            refine gb_take 0 rfl (by decide +kernel) rfl rfl (ys_ev (nw := true) hT rfl sI) sF ?_
            refine gb_take 1 rfl (by decide +kernel) rfl rfl (ys_ev (nw := true) hT rfl sI) sF ?_
            refine gb_take 2 rfl (by decide +kernel) rfl rfl (ys_ev (nw := true) hT rfl sI) sF ?_
            refine gb_take 3 rfl (by decide +kernel) rfl rfl (by first | exact ys_blk hT rfl rfl mE rfl rfl | exact ys_row hT rfl rfl mE rfl rfl | exact ys_row0 hT rfl rfl mE rfl rfl) sF ?_
            refine gb_take 4 rfl (by decide +kernel) rfl rfl (ys_ev (nw := true) hT rfl sI) sF ?_
            refine gb_take 5 rfl (by decide +kernel) rfl rfl (ys_ev (nw := true) hT rfl sI) sF ?_
            try (refine gb_say 25 (.bool true) rfl (congrArg Value.bool (tB_true (show 0 ≤ x by omega))) ?_)
            first | refine gb_take 6 rfl (by decide +kernel) rfl rfl (ys_ev (nw := true) hT rfl sI) sF ?_ | refine gb_skip 6 rfl (by decide +kernel) rfl rfl sF ?_
            first | refine gb_take 7 rfl (by decide +kernel) rfl rfl (ys_ev (nw := true) hT rfl sI) sF ?_ | refine gb_skip 7 rfl (by decide +kernel) rfl rfl sF ?_
            first | refine gb_take 8 rfl (by decide +kernel) rfl rfl (ys_ev (nw := true) hT rfl sI) sF ?_ | refine gb_skip 8 rfl (by decide +kernel) rfl rfl sF ?_
            first | refine gb_take 9 rfl (by decide +kernel) rfl rfl (by first | exact ys_blk hT rfl rfl mE rfl rfl | exact ys_row hT rfl rfl mE rfl rfl | exact ys_row0 hT rfl rfl mE rfl rfl) sF ?_ | refine gb_skip 9 rfl (by decide +kernel) rfl rfl sF ?_
            first | refine gb_take 10 rfl (by decide +kernel) rfl rfl (ys_ev (nw := true) hT rfl sI) sF ?_ | refine gb_skip 10 rfl (by decide +kernel) rfl rfl sF ?_
            try (refine gb_say 30 (.bool true) rfl (congrArg Value.bool (tB_true (show x ≤ 4096 by omega))) ?_)
            refine gb_take 11 rfl (by decide +kernel) rfl rfl (ys_ev (nw := true) hT rfl sI) sF ?_
            refine gb_take 12 rfl (by decide +kernel) rfl rfl (ys_ev (nw := true) hT rfl sI) sF ?_
            first | refine gb_take 13 rfl (by decide +kernel) rfl rfl (ys_ev (nw := true) hT rfl sI) sF ?_ | refine gb_skip 13 rfl (by decide +kernel) rfl rfl sF ?_
            first | refine gb_take 14 rfl (by decide +kernel) rfl rfl (ys_ev (nw := true) hT rfl sI) sF ?_ | refine gb_skip 14 rfl (by decide +kernel) rfl rfl sF ?_
            try (refine gb_say 34 (.bool true) rfl (congrArg Value.bool (tB_true (by omega))) ?_)
            first | refine gb_take 15 rfl (by decide +kernel) rfl rfl (ys_ev (nw := true) hT rfl sI) sF ?_ | refine gb_skip 15 rfl (by decide +kernel) rfl rfl sF ?_
            first | refine gb_take 16 rfl (by decide +kernel) rfl rfl (ys_ev (nw := true) hT rfl sI) sF ?_ | refine gb_skip 16 rfl (by decide +kernel) rfl rfl sF ?_
            first | refine gb_take 17 rfl (by decide +kernel) rfl rfl (ys_ev (nw := true) hT rfl sI) sF ?_ | refine gb_skip 17 rfl (by decide +kernel) rfl rfl sF ?_
            first | refine gb_take 18 rfl (by decide +kernel) rfl rfl (ys_ev (nw := true) hT rfl sI) sF ?_ | refine gb_skip 18 rfl (by decide +kernel) rfl rfl sF ?_
            first | refine gb_take 19 rfl (by decide +kernel) rfl rfl (by first | exact ys_blk hT rfl rfl mE rfl rfl | exact ys_row hT rfl rfl mE rfl rfl | exact ys_row0 hT rfl rfl mE rfl rfl) sF ?_ | refine gb_skip 19 rfl (by decide +kernel) rfl rfl sF ?_
            first | refine gb_take 20 rfl (by decide +kernel) rfl rfl (ys_ev (nw := true) hT rfl sI) sF ?_ | refine gb_skip 20 rfl (by decide +kernel) rfl rfl sF ?_
            first | refine gb_take 21 rfl (by decide +kernel) rfl rfl (ys_ev (nw := true) hT rfl sI) sF ?_ | refine gb_skip 21 rfl (by decide +kernel) rfl rfl sF ?_
            first | refine gb_take 22 rfl (by decide +kernel) rfl rfl (ys_ev (nw := true) hT rfl sI) sF ?_ | refine gb_skip 22 rfl (by decide +kernel) rfl rfl sF ?_
            first | refine gb_take 23 rfl (by decide +kernel) rfl rfl (ys_ev (nw := true) hT rfl sI) sF ?_ | refine gb_skip 23 rfl (by decide +kernel) rfl rfl sF ?_
            first | refine gb_take 24 rfl (by decide +kernel) rfl rfl (by first | exact ys_blk hT rfl rfl mE rfl rfl | exact ys_row hT rfl rfl mE rfl rfl | exact ys_row0 hT rfl rfl mE rfl rfl) sF ?_ | refine gb_skip 24 rfl (by decide +kernel) rfl rfl sF ?_
            first | refine gb_take 25 rfl (by decide +kernel) rfl rfl (ys_ev (nw := true) hT rfl sI) sF ?_ | refine gb_skip 25 rfl (by decide +kernel) rfl rfl sF ?_
            first | refine gb_take 26 rfl (by decide +kernel) rfl rfl (ys_ev (nw := true) hT rfl sI) sF ?_ | refine gb_skip 26 rfl (by decide +kernel) rfl rfl sF ?_
            refine gb_take 27 rfl (by decide +kernel) rfl rfl (ys_ev (nw := true) hT rfl sI) sF ?_
            refine gb_nil (by decide +kernel) ?_
            exact ⟨(), (by repeat (first | exact trivial | refine ⟨rfl, ?_⟩)), sA, sS⟩
          · obtain ⟨p, hp⟩ : ∃ p, S[i - 1]? = some p := ⟨S[i - 1], List.getElem?_eq_getElem (by omega)⟩
            have hne : ¬ x = p := fun e => (hd.resolve_left (by omega)) (by rw [hp, e])
            refine gk_elem (enc := IE .i64) (L := S) (i - 1) mE (by omega) (by decide) (fun b2 o2 y2 eA2 hy2 => ?_); injection eA2 with eA2; injection eA2 with eb eo _; subst eb; subst eo; obtain rfl : p = y2 := by rw [hp] at hy2; exact Option.some.inj hy2
            refine gk_any [1, 2] (Cut _ (fun _ : Unit => [(0, .slice A n c), (3, v), (4, .slice (some ⟨b, o, none⟩) n c2), (5, .int .i64 (i : Int)), (47, .bool true)]) (fun _ => [own 0 3 1 v (IE .i64) W]) (fun _ => [sl (some ⟨b, o, none⟩) 1 (IE .i64) S, row b (o + i * 1) (encF (IE .i64) x 0 1), sl A 1 (IE .i64) L])) rfl rfl (by kernel_rfl) ?_ (cut_k fun _ => hgo)
            refine gb_take 0 rfl (by decide +kernel) rfl rfl (ys_ev (nw := true) hT rfl sI) sF ?_
            refine gb_take 1 rfl (by decide +kernel) rfl rfl (ys_ev (nw := true) hT rfl sI) sF ?_
            refine gb_take 2 rfl (by decide +kernel) rfl rfl (ys_ev (nw := true) hT rfl sI) sF ?_
            refine gb_take 3 rfl (by decide +kernel) rfl rfl (by first | exact ys_blk hT rfl rfl mE rfl rfl | exact ys_row hT rfl rfl mE rfl rfl | exact ys_row0 hT rfl rfl mE rfl rfl) sF ?_
            refine gb_take 4 rfl (by decide +kernel) rfl rfl (ys_ev (nw := true) hT rfl sI) sF ?_
            refine gb_take 5 rfl (by decide +kernel) rfl rfl (ys_ev (nw := true) hT rfl sI) sF ?_
            try (refine gb_say 25 (.bool true) rfl (congrArg Value.bool (tB_true (show 0 ≤ x by omega))) ?_)
            first | refine gb_take 6 rfl (by decide +kernel) rfl rfl (ys_ev (nw := true) hT rfl sI) sF ?_ | refine gb_skip 6 rfl (by decide +kernel) rfl rfl sF ?_
            first | refine gb_take 7 rfl (by decide +kernel) rfl rfl (ys_ev (nw := true) hT rfl sI) sF ?_ | refine gb_skip 7 rfl (by decide +kernel) rfl rfl sF ?_
            first | refine gb_take 8 rfl (by decide +kernel) rfl rfl (ys_ev (nw := true) hT rfl sI) sF ?_ | refine gb_skip 8 rfl (by decide +kernel) rfl rfl sF ?_
            first | refine gb_take 9 rfl (by decide +kernel) rfl rfl (by first | exact ys_blk hT rfl rfl mE rfl rfl | exact ys_row hT rfl rfl mE rfl rfl | exact ys_row0 hT rfl rfl mE rfl rfl) sF ?_ | refine gb_skip 9 rfl (by decide +kernel) rfl rfl sF ?_
            first | refine gb_take 10 rfl (by decide +kernel) rfl rfl (ys_ev (nw := true) hT rfl sI) sF ?_ | refine gb_skip 10 rfl (by decide +kernel) rfl rfl sF ?_
            try (refine gb_say 30 (.bool true) rfl (congrArg Value.bool (tB_true (show x ≤ 4096 by omega))) ?_)
            refine gb_take 11 rfl (by decide +kernel) rfl rfl (ys_ev (nw := true) hT rfl sI) sF ?_
            refine gb_take 12 rfl (by decide +kernel) rfl rfl (ys_ev (nw := true) hT rfl sI) sF ?_
            first | refine gb_take 13 rfl (by decide +kernel) rfl rfl (ys_ev (nw := true) hT rfl sI) sF ?_ | refine gb_skip 13 rfl (by decide +kernel) rfl rfl sF ?_
            first | refine gb_take 14 rfl (by decide +kernel) rfl rfl (ys_ev (nw := true) hT rfl sI) sF ?_ | refine gb_skip 14 rfl (by decide +kernel) rfl rfl sF ?_
            try (refine gb_say 34 (.bool false) rfl (congrArg Value.bool (tB_false (by omega))) ?_)
            first | refine gb_take 15 rfl (by decide +kernel) rfl rfl (ys_ev (nw := true) hT rfl sI) sF ?_ | refine gb_skip 15 rfl (by decide +kernel) rfl rfl sF ?_
            first | refine gb_take 16 rfl (by decide +kernel) rfl rfl (ys_ev (nw := true) hT rfl sI) sF ?_ | refine gb_skip 16 rfl (by decide +kernel) rfl rfl sF ?_
            first | refine gb_take 17 rfl (by decide +kernel) rfl rfl (ys_ev (nw := true) hT rfl sI) sF ?_ | refine gb_skip 17 rfl (by decide +kernel) rfl rfl sF ?_
            first | refine gb_take 18 rfl (by decide +kernel) rfl rfl (ys_ev (nw := true) hT rfl sI) sF ?_ | refine gb_skip 18 rfl (by decide +kernel) rfl rfl sF ?_
            first | refine gb_take 19 rfl (by decide +kernel) rfl rfl (by first | exact ys_blk hT rfl rfl mE rfl rfl | exact ys_row hT rfl rfl mE rfl rfl | exact ys_row0 hT rfl rfl mE rfl rfl) sF ?_ | refine gb_skip 19 rfl (by decide +kernel) rfl rfl sF ?_
            first | refine gb_take 20 rfl (by decide +kernel) rfl rfl (ys_ev (nw := true) hT rfl sI) sF ?_ | refine gb_skip 20 rfl (by decide +kernel) rfl rfl sF ?_
            first | refine gb_take 21 rfl (by decide +kernel) rfl rfl (ys_ev (nw := true) hT rfl sI) sF ?_ | refine gb_skip 21 rfl (by decide +kernel) rfl rfl sF ?_
            first | refine gb_take 22 rfl (by decide +kernel) rfl rfl (ys_ev (nw := true) hT rfl sI) sF ?_ | refine gb_skip 22 rfl (by decide +kernel) rfl rfl sF ?_
            try (refine gb_say 42 (.int .i64 ((i - 1 : Nat) : Int)) rfl (by first | (congr 1; done) | (congr 1; omega)) ?_)
            first | refine gb_take 23 rfl (by decide +kernel) rfl rfl (ys_ev (nw := true) hT rfl sI) sF ?_ | refine gb_skip 23 rfl (by decide +kernel) rfl rfl sF ?_
            first | refine gb_take 24 rfl (by decide +kernel) rfl rfl (by first | exact ys_blk hT rfl rfl mE rfl rfl | exact ys_row hT rfl rfl mE rfl rfl | exact ys_row0 hT rfl rfl mE rfl rfl) sF ?_ | refine gb_skip 24 rfl (by decide +kernel) rfl rfl sF ?_
            first | refine gb_take 25 rfl (by decide +kernel) rfl rfl (ys_ev (nw := true) hT rfl sI) sF ?_ | refine gb_skip 25 rfl (by decide +kernel) rfl rfl sF ?_
            try (refine gb_say 45 (.bool true) rfl (congrArg Value.bool (tB_true hne)) ?_)
            first | refine gb_take 26 rfl (by decide +kernel) rfl rfl (ys_ev (nw := true) hT rfl sI) sF ?_ | refine gb_skip 26 rfl (by decide +kernel) rfl rfl sF ?_
            refine gb_take 27 rfl (by decide +kernel) rfl rfl (ys_ev (nw := true) hT rfl sI) sF ?_
            refine gb_nil (by decide +kernel) ?_
            exact ⟨(), (by repeat (first | exact trivial | refine ⟨rfl, ?_⟩)), sA, sS⟩
        (repeat (refine gG ?_; try intro _))
        refine g_mv rfl (mv_append (L := W) rfl [x] rfl rfl rfl rfl elt_I (by intro _; first | ((repeat (first | with_reducible exact Upd.here _ | with_reducible apply Upd.there)); done) | ((repeat (first | exact Upd.here _ | apply Upd.there)); done) | fail) (src_blk mE rfl) rfl oneI (by simp only [maxLen, List.length_cons, List.length_nil]; omega) (by simp only [List.length_cons, List.length_nil]; omega) (Nat.zero_le _) (fun v2 => ?_))
        (repeat (refine gG ?_; try intro _))
        refine gk_say 5 (.int .i64 ((i + 1 : Nat) : Int)) rfl (by first | (congr 1; done) | (congr 1; omega)) ?_
        rw [← hst]
        refine gk_again_sel rfl (i + 1, v2) (by omega) (by dsimp only; omega) (by repeat (first | exact trivial | refine ⟨rfl, ?_⟩)) sA sS
      · have h0 : i ≠ 0 := fun e => hd (.inl e)
        have hp : S[i - 1]? = some x := Classical.byContradiction fun e => hd (.inr e)
        obtain ⟨p, hpx⟩ : ∃ p, p = x := ⟨_, rfl⟩
        rw [← hpx] at hp
        rw [show W = (ddN S (i + 1)).filter inr from (hskip h0 (by rw [hp, hpx])).symm]
        refine gk_elem (enc := IE .i64) (L := S) (i - 1) mE (by omega) (by decide) (fun b2 o2 y2 eA2 hy2 => ?_); injection eA2 with eA2; injection eA2 with eb eo _; subst eb; subst eo; obtain rfl : p = y2 := by rw [hp] at hy2; exact Option.some.inj hy2
        refine gk_any [1, 2] (Cut _ (fun _ : Unit => [(0, .slice A n c), (3, v), (4, .slice (some ⟨b, o, none⟩) n c2), (5, .int .i64 (i : Int)), (47, .bool false)]) (fun _ => [own 0 3 1 v (IE .i64) ((ddN S (i + 1)).filter inr)]) (fun _ => [sl (some ⟨b, o, none⟩) 1 (IE .i64) S, sl A 1 (IE .i64) L])) rfl rfl (by kernel_rfl) ?_ (cut_k fun _ => ?_)
        · skip
          refine gb_take 0 rfl (by decide +kernel) rfl rfl (ys_ev (nw := true) hT rfl sI) sF ?_
          refine gb_take 1 rfl (by decide +kernel) rfl rfl (ys_ev (nw := true) hT rfl sI) sF ?_
          refine gb_take 2 rfl (by decide +kernel) rfl rfl (ys_ev (nw := true) hT rfl sI) sF ?_
          refine gb_take 3 rfl (by decide +kernel) rfl rfl (by first | exact ys_blk hT rfl rfl mE rfl rfl | exact ys_row hT rfl rfl mE rfl rfl | exact ys_row0 hT rfl rfl mE rfl rfl) sF ?_
          refine gb_take 4 rfl (by decide +kernel) rfl rfl (ys_ev (nw := true) hT rfl sI) sF ?_
          refine gb_take 5 rfl (by decide +kernel) rfl rfl (ys_ev (nw := true) hT rfl sI) sF ?_
          try (refine gb_say 25 (.bool true) rfl (congrArg Value.bool (tB_true (show 0 ≤ x by omega))) ?_)
          first | refine gb_take 6 rfl (by decide +kernel) rfl rfl (ys_ev (nw := true) hT rfl sI) sF ?_ | refine gb_skip 6 rfl (by decide +kernel) rfl rfl sF ?_
          first | refine gb_take 7 rfl (by decide +kernel) rfl rfl (ys_ev (nw := true) hT rfl sI) sF ?_ | refine gb_skip 7 rfl (by decide +kernel) rfl rfl sF ?_
          first | refine gb_take 8 rfl (by decide +kernel) rfl rfl (ys_ev (nw := true) hT rfl sI) sF ?_ | refine gb_skip 8 rfl (by decide +kernel) rfl rfl sF ?_
          first | refine gb_take 9 rfl (by decide +kernel) rfl rfl (by first | exact ys_blk hT rfl rfl mE rfl rfl | exact ys_row hT rfl rfl mE rfl rfl | exact ys_row0 hT rfl rfl mE rfl rfl) sF ?_ | refine gb_skip 9 rfl (by decide +kernel) rfl rfl sF ?_
          first | refine gb_take 10 rfl (by decide +kernel) rfl rfl (ys_ev (nw := true) hT rfl sI) sF ?_ | refine gb_skip 10 rfl (by decide +kernel) rfl rfl sF ?_
          try (refine gb_say 30 (.bool true) rfl (congrArg Value.bool (tB_true (show x ≤ 4096 by omega))) ?_)
          refine gb_take 11 rfl (by decide +kernel) rfl rfl (ys_ev (nw := true) hT rfl sI) sF ?_
          refine gb_take 12 rfl (by decide +kernel) rfl rfl (ys_ev (nw := true) hT rfl sI) sF ?_
          first | refine gb_take 13 rfl (by decide +kernel) rfl rfl (ys_ev (nw := true) hT rfl sI) sF ?_ | refine gb_skip 13 rfl (by decide +kernel) rfl rfl sF ?_
          first | refine gb_take 14 rfl (by decide +kernel) rfl rfl (ys_ev (nw := true) hT rfl sI) sF ?_ | refine gb_skip 14 rfl (by decide +kernel) rfl rfl sF ?_
          try (refine gb_say 34 (.bool false) rfl (congrArg Value.bool (tB_false (by omega))) ?_)
          first | refine gb_take 15 rfl (by decide +kernel) rfl rfl (ys_ev (nw := true) hT rfl sI) sF ?_ | refine gb_skip 15 rfl (by decide +kernel) rfl rfl sF ?_
          first | refine gb_take 16 rfl (by decide +kernel) rfl rfl (ys_ev (nw := true) hT rfl sI) sF ?_ | refine gb_skip 16 rfl (by decide +kernel) rfl rfl sF ?_
          first | refine gb_take 17 rfl (by decide +kernel) rfl rfl (ys_ev (nw := true) hT rfl sI) sF ?_ | refine gb_skip 17 rfl (by decide +kernel) rfl rfl sF ?_
          first | refine gb_take 18 rfl (by decide +kernel) rfl rfl (ys_ev (nw := true) hT rfl sI) sF ?_ | refine gb_skip 18 rfl (by decide +kernel) rfl rfl sF ?_
          first | refine gb_take 19 rfl (by decide +kernel) rfl rfl (by first | exact ys_blk hT rfl rfl mE rfl rfl | exact ys_row hT rfl rfl mE rfl rfl | exact ys_row0 hT rfl rfl mE rfl rfl) sF ?_ | refine gb_skip 19 rfl (by decide +kernel) rfl rfl sF ?_
          first | refine gb_take 20 rfl (by decide +kernel) rfl rfl (ys_ev (nw := true) hT rfl sI) sF ?_ | refine gb_skip 20 rfl (by decide +kernel) rfl rfl sF ?_
          first | refine gb_take 21 rfl (by decide +kernel) rfl rfl (ys_ev (nw := true) hT rfl sI) sF ?_ | refine gb_skip 21 rfl (by decide +kernel) rfl rfl sF ?_
          first | refine gb_take 22 rfl (by decide +kernel) rfl rfl (ys_ev (nw := true) hT rfl sI) sF ?_ | refine gb_skip 22 rfl (by decide +kernel) rfl rfl sF ?_
          try (refine gb_say 42 (.int .i64 ((i - 1 : Nat) : Int)) rfl (by first | (congr 1; done) | (congr 1; omega)) ?_)
          first | refine gb_take 23 rfl (by decide +kernel) rfl rfl (ys_ev (nw := true) hT rfl sI) sF ?_ | refine gb_skip 23 rfl (by decide +kernel) rfl rfl sF ?_
          first | refine gb_take 24 rfl (by decide +kernel) rfl rfl (by first | exact ys_blk hT rfl rfl mE rfl rfl | exact ys_row hT rfl rfl mE rfl rfl | exact ys_row0 hT rfl rfl mE rfl rfl) sF ?_ | refine gb_skip 24 rfl (by decide +kernel) rfl rfl sF ?_
          first | refine gb_take 25 rfl (by decide +kernel) rfl rfl (ys_ev (nw := true) hT rfl sI) sF ?_ | refine gb_skip 25 rfl (by decide +kernel) rfl rfl sF ?_
          try (refine gb_say 45 (.bool false) rfl (congrArg Value.bool (tB_false (fun h => h hpx.symm))) ?_)
          first | refine gb_take 26 rfl (by decide +kernel) rfl rfl (ys_ev (nw := true) hT rfl sI) sF ?_ | refine gb_skip 26 rfl (by decide +kernel) rfl rfl sF ?_
          refine gb_take 27 rfl (by decide +kernel) rfl rfl (ys_ev (nw := true) hT rfl sI) sF ?_
          refine gb_nil (by decide +kernel) ?_
          exact ⟨(), (by repeat (first | exact trivial | refine ⟨rfl, ?_⟩)), sA, sS⟩
        · (repeat (refine gG ?_; try intro _))
          refine gk_say 5 (.int .i64 ((i + 1 : Nat) : Int)) rfl (by first | (congr 1; done) | (congr 1; omega)) ?_
          refine gk_again_sel rfl (i + 1, v) (by omega) (by dsimp only; omega) (by repeat (first | exact trivial | refine ⟨rfl, ?_⟩)) sA sS
    · have ht : ddN S i = dd S := by unfold dd; congr 1; omega
      rw [ht]
      (repeat' (first | (refine gG ?_; try intro _) | ((first | refine g_split rfl rfl tE (fun _ => ?_) (fun _ => ?_) | refine gk_cond rfl rfl tE (fun _ => ?_) (fun _ => ?_)) <;> (try first | (exfalso; omega; done) | (rename_i hx; exact absurd rfl hx) | (rename_i hx; cases hx; done)))))
      refine g_mv rfl ?_; refine mv_call_rt (fun w hk => xof_any A n c L w hn (by omega) (hk.rR mE)) rfl rfl rfl rfl rfl (by kernel_rfl) (fun _ => rfl) (fun v6 _ => ?_)
      have hrl : (ofP L).length ≤ 200 := by
        have h1 := rlN_len (dd (srt L)) (dd (srt L)).length
        have h2 : (dd (srt L)).length ≤ (srt L).length := ddN_len
        rw [srt_len] at h2
        unfold ofP rl
        omega
      have hb : blocksP (ofP L) = (dd S).filter inr := by unfold blocksP; rw [tB_true hof.right, if_pos rfl, hof.ex]
      generalize ofP L = R at hrl hof hb ⊢
      refine g_freeze _ (by intro _; first | ((repeat (first | with_reducible exact Upd.here _ | with_reducible apply Upd.there)); done) | ((repeat (first | exact Upd.here _ | apply Upd.there)); done) | fail) (fun A6 c6 hA6 hA61 hA62 hA63 => ?_); subst hA6
      refine g_freeze _ (by intro _; first | ((repeat (first | with_reducible exact Upd.here _ | with_reducible apply Upd.there)); done) | ((repeat (first | exact Upd.here _ | apply Upd.there)); done) | fail) (fun A3 c3 hA3 hA31 hA32 hA33 => ?_); subst hA3
      refine g_share (φ := sl A6 2 RE R) (by repeat (first | with_reducible exact Sel.here | with_reducible apply Sel.there)) ?_
      refine g_share (φ := sl A3 1 (IE .i64) ((dd S).filter inr)) (by repeat (first | with_reducible exact Sel.here | with_reducible apply Sel.there)) ?_
      (repeat' (first | (refine gG ?_; try intro _) | (refine g_mv rfl ?_; first | refine mv_call_bel (fun w hk => by have hc := lright_any A6 R.length c6 R w rfl (by omega) (hk.rR mE); rw [tB_true hof.right] at hc; exact hc) rfl rfl rfl rfl rfl (by kernel_rfl) ?_ | refine mv_call_bel (fun w hk => by have hc := xright_any A6 R.length c6 R w rfl (by omega) (hk.rR mE); rw [tB_true hof.right] at hc; exact hc) rfl rfl rfl rfl rfl (by kernel_rfl) ?_) | ((first | refine g_split rfl rfl tE (fun _ => ?_) (fun _ => ?_) | refine gk_cond rfl rfl tE (fun _ => ?_) (fun _ => ?_)) <;> (try first | (exfalso; omega; done) | (rename_i hx; exact absurd rfl hx) | (rename_i hx; cases hx; done)))))
      refine g_mv rfl ?_; refine mv_call_rt (fun w hk => xblocks_any A6 R.length c6 R w rfl (by omega) (hk.rR mE)) rfl rfl rfl rfl rfl (by kernel_rfl) (fun _ => rfl) (fun v7 _ => ?_)
      rw [hb]
      refine g_freeze _ (by intro _; first | ((repeat (first | with_reducible exact Upd.here _ | with_reducible apply Upd.there)); done) | ((repeat (first | exact Upd.here _ | apply Upd.there)); done) | fail) (fun A7 c7 hA7 hA71 hA72 hA73 => ?_); subst hA7
      refine g_share (φ := sl A7 1 (IE .i64) ((dd S).filter inr)) (by repeat (first | with_reducible exact Sel.here | with_reducible apply Sel.there)) ?_
      (repeat' (first | (refine gG ?_; try intro _) | (refine g_mv rfl ?_; first | refine mv_call_bel (fun w hk => by have hc := equal_I A7 A3 ((dd S).filter inr).length c7 ((dd S).filter inr).length c3 ((dd S).filter inr) ((dd S).filter inr) w rfl rfl (by unfold maxLen at hA72; omega) (hk.pR (sl A7 1 (IE .i64) ((dd S).filter inr)) mE) (hk.pR (sl A3 1 (IE .i64) ((dd S).filter inr)) mE); rw [tB_true rfl] at hc; exact hc) rfl rfl rfl rfl rfl (by kernel_rfl) ?_ | refine mv_call_bel (fun w hk => alive_any w) rfl rfl rfl rfl rfl (by kernel_rfl) ?_) | ((first | refine g_split rfl rfl tE (fun _ => ?_) (fun _ => ?_) | refine gk_cond rfl rfl tE (fun _ => ?_) (fun _ => ?_)) <;> (try first | (exfalso; omega; done) | (rename_i hx; exact absurd rfl hx) | (rename_i hx; cases hx; done)))))
      refine gk_ret hT rfl rfl (.tmp rfl .nil) (fun w' hk => ?_)
      exact ⟨rfl, hk.toBelow⟩
end Go.Proofs.Ytmehbhabheokbaa.Ex

