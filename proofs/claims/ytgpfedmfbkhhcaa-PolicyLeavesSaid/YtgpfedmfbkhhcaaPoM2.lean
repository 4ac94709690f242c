/- The laws of consolidations: alive; times that rise; may one go back. The law PolicyLeaves, plain. A catalog with its bounds, a rule, three numbers as arguments. -/
import Derived.Test.YtgpfedmfbkhhcaaPoM1
namespace Go.Proofs.Ytgpfedmfbkhhcaa.Po
open Go.RowKit Mem Gx Ct Dd Hp
set_option linter.unusedVariables false
set_option linter.unusedSimpArgs false
set_option maxRecDepth 100000
set_option maxHeartbeats 4000000
/-- Times that may be. -/
structure RightT (L : List MarkD) : Prop where
  s : ∀ (i : Nat) (a b : MarkD), L[i]? = some a → L[i + 1]? = some b → a.s < b.s ∧ a.n < b.n
  len : L.length ≤ 64
theorem RightT.rise {L : List MarkD} (h : RightT L) : RiseN L := by
  have key : ∀ (d i : Nat) (a b : MarkD), L[i]? = some a → L[i + d + 1]? = some b → a.n < b.n := by
    intro d
    induction d with
    | zero => exact fun i a b ha hb => (h.s i a b ha hb).2
    | succ d ih =>
      intro i a b ha hb
      have hl := (List.getElem?_eq_some_iff.1 hb).1
      obtain ⟨m, hm⟩ : ∃ m, L[i + d + 1]? = some m := ⟨_, List.getElem?_eq_getElem (by omega)⟩
      have h1 := ih i a m ha hm
      have h2 := (h.s (i + d + 1) m b hm hb).2
      omega
  intro i j a b hij ha hb
  obtain ⟨d, rfl⟩ : ∃ d, j = i + d + 1 := ⟨j - i - 1, by omega⟩
  exact key d i a b ha hb
theorem rtright_any (A : Option Addr) (n c : Nat) (L : List MarkD) (w : World) (hn : n = L.length) (h9 : n ≤ 1000000) (hs : Rd1 w (sl A 2 ME L)) :
    Calls Try.prog 18 [.slice A n c].toArray w fun e w' => e = .returned (.bool (tB (RightT L))) ∧ Below w.heap.size w w' := by
  refine g_enter0 T [] [] [sl A 2 ME L] Try.func18 rfl Try.ntmps18 rfl (Rds.cons hs .nil).kn ?_
  (repeat (refine gG ?_; try intro _))
  refine gk_loop_sel (fun (q : Nat × Unit) => match q with | (j, u) => (∀ (i : Nat) (a b : MarkD), i < j → L[i]? = some a → L[i + 1]? = some b → a.s < b.s ∧ a.n < b.n)) (fun (q : Nat × Unit) => match q with | (j, u) => [(0, .slice A n c), (3, .int .i64 ((j + 1 : Nat) : Int))]) (fun (q : Nat × Unit) => match q with | (j, u) => []) (fun (q : Nat × Unit) => match q with | (j, u) => [sl A 2 ME L]) (fun (q : Nat × Unit) => match q with | (j, u) => n - j) (0, ()) rfl (fun i a b h => absurd h (Nat.not_lt_zero _)) (by repeat (first | exact trivial | refine ⟨rfl, ?_⟩)) sA sS ?_
  rintro ⟨j, u⟩ hI
  replace hI : (∀ (i : Nat) (a b : MarkD), i < j → L[i]? = some a → L[i + 1]? = some b → a.s < b.s ∧ a.n < b.n) := hI
  change GK _ _ [(0, .slice A n c), (3, .int .i64 ((j + 1 : Nat) : Int))] [] [sl A 2 ME L]
  by_cases hlt : j + 1 < n
  · obtain ⟨x, hx⟩ : ∃ y, L[j]? = some y := ⟨L[j], List.getElem?_eq_getElem (by omega)⟩
    obtain ⟨y, hy⟩ : ∃ y, L[j + 1]? = some y := ⟨L[j + 1], List.getElem?_eq_getElem (by omega)⟩
    refine gk_elem (A := A) (enc := ME) (L := L) j mE (by omega) (by decide) (fun kb ko x' eA hx' => ?_)
    subst eA
    obtain rfl : x = x' := by rw [hx] at hx'; exact Option.some.inj hx'
    refine gk_elem (A := some ⟨kb, ko, none⟩) (enc := ME) (L := L) (j + 1) mE (by omega) (by decide) (fun zb zo y' eZ hy' => ?_)
    cases eZ
    obtain rfl : y = y' := by rw [hy] at hy'; exact Option.some.inj hy'
    by_cases h1 : x.s < y.s
    · by_cases h2 : x.n < y.n
      · (repeat' (first | (refine gG ?_; try intro _) | ((first | refine g_split rfl rfl tE (fun _ => ?_) (fun _ => ?_) | refine gk_cond rfl rfl tE (fun _ => ?_) (fun _ => ?_)) <;> (try first | (exfalso; omega; done) | (rename_i hx; exact absurd rfl hx) | (rename_i hx; cases hx; done)))))
        refine gk_any [0, 1, 2] (Cut _ (fun _ : Unit => [(0, .slice (some ⟨kb, ko, none⟩) n c), (3, .int .i64 ((j + 1 : Nat) : Int)), (35, .bool false)]) (fun _ => []) (fun _ => [sl (some ⟨kb, ko, none⟩) 2 ME L])) rfl rfl (by kernel_rfl) ?_ (cut_k fun _ => ?_)
        · skip
          refine gb_take 0 rfl (by decide +kernel) rfl rfl (ys_ev (nw := true) hT rfl sI) sF ?_
          refine gb_take 1 rfl (by decide +kernel) rfl rfl (ys_ev (nw := true) hT rfl sI) sF ?_
          refine gb_take 2 rfl (by decide +kernel) rfl rfl (ys_ev (nw := true) hT rfl sI) sF ?_
          try (refine gb_say 12 (.int .i64 (j : Int)) rfl (by congr 1; omega) ?_)
          refine gb_take 3 rfl (by decide +kernel) rfl rfl (ys_ev (nw := true) hT rfl sI) sF ?_
          refine gb_take 4 rfl (by decide +kernel) rfl rfl (ys_ev (nw := true) hT rfl sI) sF ?_
          refine gb_take 5 rfl (by decide +kernel) rfl rfl (by first | exact ys_blk hT rfl rfl mE rfl rfl | exact ys_row hT rfl rfl mE rfl rfl | exact ys_row0 hT rfl rfl mE rfl rfl) sF ?_
          refine gb_take 6 rfl (by decide +kernel) rfl rfl (ys_ev (nw := true) hT rfl sI) sF ?_
          refine gb_take 7 rfl (by decide +kernel) rfl rfl (ys_ev (nw := true) hT rfl sI) sF ?_
          refine gb_take 8 rfl (by decide +kernel) rfl rfl (ys_ev (nw := true) hT rfl sI) sF ?_
          refine gb_take 9 rfl (by decide +kernel) rfl rfl (ys_ev (nw := true) hT rfl sI) sF ?_
          refine gb_take 10 rfl (by decide +kernel) rfl rfl (by first | exact ys_blk hT rfl rfl mE rfl rfl | exact ys_row hT rfl rfl mE rfl rfl | exact ys_row0 hT rfl rfl mE rfl rfl) sF ?_
          refine gb_take 11 rfl (by decide +kernel) rfl rfl (ys_ev (nw := true) hT rfl sI) sF ?_
          try (refine gb_say 21 (.bool false) rfl (congrArg Value.bool (tB_false (by omega))) ?_)
          refine gb_take 12 rfl (by decide +kernel) rfl rfl (ys_ev (nw := true) hT rfl sI) sF ?_
          first | refine gb_take 13 rfl (by decide +kernel) rfl rfl (ys_ev (nw := true) hT rfl sI) sF ?_ | refine gb_skip 13 rfl (by decide +kernel) rfl rfl sF ?_
          first | refine gb_take 14 rfl (by decide +kernel) rfl rfl (ys_ev (nw := true) hT rfl sI) sF ?_ | refine gb_skip 14 rfl (by decide +kernel) rfl rfl sF ?_
          first | refine gb_take 15 rfl (by decide +kernel) rfl rfl (ys_ev (nw := true) hT rfl sI) sF ?_ | refine gb_skip 15 rfl (by decide +kernel) rfl rfl sF ?_
          try (refine gb_say 25 (.int .i64 (j : Int)) rfl (by congr 1; omega) ?_)
          first | refine gb_take 16 rfl (by decide +kernel) rfl rfl (ys_ev (nw := true) hT rfl sI) sF ?_ | refine gb_skip 16 rfl (by decide +kernel) rfl rfl sF ?_
          first | refine gb_take 17 rfl (by decide +kernel) rfl rfl (ys_ev (nw := true) hT rfl sI) sF ?_ | refine gb_skip 17 rfl (by decide +kernel) rfl rfl sF ?_
          first | refine gb_take 18 rfl (by decide +kernel) rfl rfl (by first | exact ys_blk hT rfl rfl mE rfl rfl | exact ys_row hT rfl rfl mE rfl rfl | exact ys_row0 hT rfl rfl mE rfl rfl) sF ?_ | refine gb_skip 18 rfl (by decide +kernel) rfl rfl sF ?_
          first | refine gb_take 19 rfl (by decide +kernel) rfl rfl (ys_ev (nw := true) hT rfl sI) sF ?_ | refine gb_skip 19 rfl (by decide +kernel) rfl rfl sF ?_
          first | refine gb_take 20 rfl (by decide +kernel) rfl rfl (ys_ev (nw := true) hT rfl sI) sF ?_ | refine gb_skip 20 rfl (by decide +kernel) rfl rfl sF ?_
          first | refine gb_take 21 rfl (by decide +kernel) rfl rfl (ys_ev (nw := true) hT rfl sI) sF ?_ | refine gb_skip 21 rfl (by decide +kernel) rfl rfl sF ?_
          first | refine gb_take 22 rfl (by decide +kernel) rfl rfl (ys_ev (nw := true) hT rfl sI) sF ?_ | refine gb_skip 22 rfl (by decide +kernel) rfl rfl sF ?_
          first | refine gb_take 23 rfl (by decide +kernel) rfl rfl (by first | exact ys_blk hT rfl rfl mE rfl rfl | exact ys_row hT rfl rfl mE rfl rfl | exact ys_row0 hT rfl rfl mE rfl rfl) sF ?_ | refine gb_skip 23 rfl (by decide +kernel) rfl rfl sF ?_
          first | refine gb_take 24 rfl (by decide +kernel) rfl rfl (ys_ev (nw := true) hT rfl sI) sF ?_ | refine gb_skip 24 rfl (by decide +kernel) rfl rfl sF ?_
          try (refine gb_say 34 (.bool false) rfl (congrArg Value.bool (tB_false (by omega))) ?_)
          refine gb_take 25 rfl (by decide +kernel) rfl rfl (ys_ev (nw := true) hT rfl sI) sF ?_
          refine gb_nil (by decide +kernel) ?_
          exact ⟨(), (by repeat (first | exact trivial | refine ⟨rfl, ?_⟩)), sA, sS⟩
        · (repeat (refine gG ?_; try intro _))
          refine gk_say 3 (.int .i64 ((j + 1 + 1 : Nat) : Int)) rfl (by first | (congr 1; done) | (congr 1; omega)) ?_
          refine gk_again_sel rfl (j + 1, ()) (fun i a b hi ha hb => by
            rcases Nat.lt_or_ge i j with h | h
            · exact hI i a b h ha hb
            · obtain rfl : i = j := by omega
              rw [hx] at ha; rw [hy] at hb
              rw [← Option.some.inj ha, ← Option.some.inj hb]; exact ⟨h1, h2⟩) (by dsimp only; omega) (by repeat (first | exact trivial | refine ⟨rfl, ?_⟩)) sA sS
      · have hno : tB (RightT L) = false := tB_false (fun h => h2 (h.s j x y hx hy).2)
        rw [hno]
        (repeat' (first | (refine gG ?_; try intro _) | ((first | refine g_split rfl rfl tE (fun _ => ?_) (fun _ => ?_) | refine gk_cond rfl rfl tE (fun _ => ?_) (fun _ => ?_)) <;> (try first | (exfalso; omega; done) | (rename_i hx; exact absurd rfl hx) | (rename_i hx; cases hx; done)))))
        refine gk_any [0, 1, 2] (Cut _ (fun _ : Unit => [(35, .bool true)]) (fun _ => []) (fun _ => [])) rfl rfl (by kernel_rfl) ?_ (cut_k fun _ => ?_)
        · skip
          refine gb_take 0 rfl (by decide +kernel) rfl rfl (ys_ev (nw := true) hT rfl sI) sF ?_
          refine gb_take 1 rfl (by decide +kernel) rfl rfl (ys_ev (nw := true) hT rfl sI) sF ?_
          refine gb_take 2 rfl (by decide +kernel) rfl rfl (ys_ev (nw := true) hT rfl sI) sF ?_
          try (refine gb_say 12 (.int .i64 (j : Int)) rfl (by congr 1; omega) ?_)
          refine gb_take 3 rfl (by decide +kernel) rfl rfl (ys_ev (nw := true) hT rfl sI) sF ?_
          refine gb_take 4 rfl (by decide +kernel) rfl rfl (ys_ev (nw := true) hT rfl sI) sF ?_
          refine gb_take 5 rfl (by decide +kernel) rfl rfl (by first | exact ys_blk hT rfl rfl mE rfl rfl | exact ys_row hT rfl rfl mE rfl rfl | exact ys_row0 hT rfl rfl mE rfl rfl) sF ?_
          refine gb_take 6 rfl (by decide +kernel) rfl rfl (ys_ev (nw := true) hT rfl sI) sF ?_
          refine gb_take 7 rfl (by decide +kernel) rfl rfl (ys_ev (nw := true) hT rfl sI) sF ?_
          refine gb_take 8 rfl (by decide +kernel) rfl rfl (ys_ev (nw := true) hT rfl sI) sF ?_
          refine gb_take 9 rfl (by decide +kernel) rfl rfl (ys_ev (nw := true) hT rfl sI) sF ?_
          refine gb_take 10 rfl (by decide +kernel) rfl rfl (by first | exact ys_blk hT rfl rfl mE rfl rfl | exact ys_row hT rfl rfl mE rfl rfl | exact ys_row0 hT rfl rfl mE rfl rfl) sF ?_
          refine gb_take 11 rfl (by decide +kernel) rfl rfl (ys_ev (nw := true) hT rfl sI) sF ?_
          try (refine gb_say 21 (.bool false) rfl (congrArg Value.bool (tB_false (by omega))) ?_)
          refine gb_take 12 rfl (by decide +kernel) rfl rfl (ys_ev (nw := true) hT rfl sI) sF ?_
          first | refine gb_take 13 rfl (by decide +kernel) rfl rfl (ys_ev (nw := true) hT rfl sI) sF ?_ | refine gb_skip 13 rfl (by decide +kernel) rfl rfl sF ?_
          first | refine gb_take 14 rfl (by decide +kernel) rfl rfl (ys_ev (nw := true) hT rfl sI) sF ?_ | refine gb_skip 14 rfl (by decide +kernel) rfl rfl sF ?_
          first | refine gb_take 15 rfl (by decide +kernel) rfl rfl (ys_ev (nw := true) hT rfl sI) sF ?_ | refine gb_skip 15 rfl (by decide +kernel) rfl rfl sF ?_
          try (refine gb_say 25 (.int .i64 (j : Int)) rfl (by congr 1; omega) ?_)
          first | refine gb_take 16 rfl (by decide +kernel) rfl rfl (ys_ev (nw := true) hT rfl sI) sF ?_ | refine gb_skip 16 rfl (by decide +kernel) rfl rfl sF ?_
          first | refine gb_take 17 rfl (by decide +kernel) rfl rfl (ys_ev (nw := true) hT rfl sI) sF ?_ | refine gb_skip 17 rfl (by decide +kernel) rfl rfl sF ?_
          first | refine gb_take 18 rfl (by decide +kernel) rfl rfl (by first | exact ys_blk hT rfl rfl mE rfl rfl | exact ys_row hT rfl rfl mE rfl rfl | exact ys_row0 hT rfl rfl mE rfl rfl) sF ?_ | refine gb_skip 18 rfl (by decide +kernel) rfl rfl sF ?_
          first | refine gb_take 19 rfl (by decide +kernel) rfl rfl (ys_ev (nw := true) hT rfl sI) sF ?_ | refine gb_skip 19 rfl (by decide +kernel) rfl rfl sF ?_
          first | refine gb_take 20 rfl (by decide +kernel) rfl rfl (ys_ev (nw := true) hT rfl sI) sF ?_ | refine gb_skip 20 rfl (by decide +kernel) rfl rfl sF ?_
          first | refine gb_take 21 rfl (by decide +kernel) rfl rfl (ys_ev (nw := true) hT rfl sI) sF ?_ | refine gb_skip 21 rfl (by decide +kernel) rfl rfl sF ?_
          first | refine gb_take 22 rfl (by decide +kernel) rfl rfl (ys_ev (nw := true) hT rfl sI) sF ?_ | refine gb_skip 22 rfl (by decide +kernel) rfl rfl sF ?_
          first | refine gb_take 23 rfl (by decide +kernel) rfl rfl (by first | exact ys_blk hT rfl rfl mE rfl rfl | exact ys_row hT rfl rfl mE rfl rfl | exact ys_row0 hT rfl rfl mE rfl rfl) sF ?_ | refine gb_skip 23 rfl (by decide +kernel) rfl rfl sF ?_
          first | refine gb_take 24 rfl (by decide +kernel) rfl rfl (ys_ev (nw := true) hT rfl sI) sF ?_ | refine gb_skip 24 rfl (by decide +kernel) rfl rfl sF ?_
          try (refine gb_say 34 (.bool true) rfl (congrArg Value.bool (tB_true (by omega))) ?_)
          refine gb_take 25 rfl (by decide +kernel) rfl rfl (ys_ev (nw := true) hT rfl sI) sF ?_
          refine gb_nil (by decide +kernel) ?_
          exact ⟨(), (by repeat (first | exact trivial | refine ⟨rfl, ?_⟩)), sA, sS⟩
        · (repeat (refine gG ?_; try intro _))
          refine gk_ret hT rfl rfl (.tmp rfl .nil) (fun w' hk => ?_)
          exact ⟨rfl, hk.toBelow⟩
    · have hno : tB (RightT L) = false := tB_false (fun h => h1 (h.s j x y hx hy).1)
      rw [hno]
      (repeat' (first | (refine gG ?_; try intro _) | ((first | refine g_split rfl rfl tE (fun _ => ?_) (fun _ => ?_) | refine gk_cond rfl rfl tE (fun _ => ?_) (fun _ => ?_)) <;> (try first | (exfalso; omega; done) | (rename_i hx; exact absurd rfl hx) | (rename_i hx; cases hx; done)))))
      refine gk_any [0, 1, 2] (Cut _ (fun _ : Unit => [(35, .bool true)]) (fun _ => []) (fun _ => [])) rfl rfl (by kernel_rfl) ?_ (cut_k fun _ => ?_)
      · skip
        refine gb_take 0 rfl (by decide +kernel) rfl rfl (ys_ev (nw := true) hT rfl sI) sF ?_
        refine gb_take 1 rfl (by decide +kernel) rfl rfl (ys_ev (nw := true) hT rfl sI) sF ?_
        refine gb_take 2 rfl (by decide +kernel) rfl rfl (ys_ev (nw := true) hT rfl sI) sF ?_
        try (refine gb_say 12 (.int .i64 (j : Int)) rfl (by congr 1; omega) ?_)
        refine gb_take 3 rfl (by decide +kernel) rfl rfl (ys_ev (nw := true) hT rfl sI) sF ?_
        refine gb_take 4 rfl (by decide +kernel) rfl rfl (ys_ev (nw := true) hT rfl sI) sF ?_
        refine gb_take 5 rfl (by decide +kernel) rfl rfl (by first | exact ys_blk hT rfl rfl mE rfl rfl | exact ys_row hT rfl rfl mE rfl rfl | exact ys_row0 hT rfl rfl mE rfl rfl) sF ?_
        refine gb_take 6 rfl (by decide +kernel) rfl rfl (ys_ev (nw := true) hT rfl sI) sF ?_
        refine gb_take 7 rfl (by decide +kernel) rfl rfl (ys_ev (nw := true) hT rfl sI) sF ?_
        refine gb_take 8 rfl (by decide +kernel) rfl rfl (ys_ev (nw := true) hT rfl sI) sF ?_
        refine gb_take 9 rfl (by decide +kernel) rfl rfl (ys_ev (nw := true) hT rfl sI) sF ?_
        refine gb_take 10 rfl (by decide +kernel) rfl rfl (by first | exact ys_blk hT rfl rfl mE rfl rfl | exact ys_row hT rfl rfl mE rfl rfl | exact ys_row0 hT rfl rfl mE rfl rfl) sF ?_
        refine gb_take 11 rfl (by decide +kernel) rfl rfl (ys_ev (nw := true) hT rfl sI) sF ?_
        try (refine gb_say 21 (.bool true) rfl (congrArg Value.bool (tB_true (by omega))) ?_)
        refine gb_take 12 rfl (by decide +kernel) rfl rfl (ys_ev (nw := true) hT rfl sI) sF ?_
        first | refine gb_take 13 rfl (by decide +kernel) rfl rfl (ys_ev (nw := true) hT rfl sI) sF ?_ | refine gb_skip 13 rfl (by decide +kernel) rfl rfl sF ?_
        first | refine gb_take 14 rfl (by decide +kernel) rfl rfl (ys_ev (nw := true) hT rfl sI) sF ?_ | refine gb_skip 14 rfl (by decide +kernel) rfl rfl sF ?_
        first | refine gb_take 15 rfl (by decide +kernel) rfl rfl (ys_ev (nw := true) hT rfl sI) sF ?_ | refine gb_skip 15 rfl (by decide +kernel) rfl rfl sF ?_
        first | refine gb_take 16 rfl (by decide +kernel) rfl rfl (ys_ev (nw := true) hT rfl sI) sF ?_ | refine gb_skip 16 rfl (by decide +kernel) rfl rfl sF ?_
        first | refine gb_take 17 rfl (by decide +kernel) rfl rfl (ys_ev (nw := true) hT rfl sI) sF ?_ | refine gb_skip 17 rfl (by decide +kernel) rfl rfl sF ?_
        first | refine gb_take 18 rfl (by decide +kernel) rfl rfl (by first | exact ys_blk hT rfl rfl mE rfl rfl | exact ys_row hT rfl rfl mE rfl rfl | exact ys_row0 hT rfl rfl mE rfl rfl) sF ?_ | refine gb_skip 18 rfl (by decide +kernel) rfl rfl sF ?_
        first | refine gb_take 19 rfl (by decide +kernel) rfl rfl (ys_ev (nw := true) hT rfl sI) sF ?_ | refine gb_skip 19 rfl (by decide +kernel) rfl rfl sF ?_
        first | refine gb_take 20 rfl (by decide +kernel) rfl rfl (ys_ev (nw := true) hT rfl sI) sF ?_ | refine gb_skip 20 rfl (by decide +kernel) rfl rfl sF ?_
        first | refine gb_take 21 rfl (by decide +kernel) rfl rfl (ys_ev (nw := true) hT rfl sI) sF ?_ | refine gb_skip 21 rfl (by decide +kernel) rfl rfl sF ?_
        first | refine gb_take 22 rfl (by decide +kernel) rfl rfl (ys_ev (nw := true) hT rfl sI) sF ?_ | refine gb_skip 22 rfl (by decide +kernel) rfl rfl sF ?_
        first | refine gb_take 23 rfl (by decide +kernel) rfl rfl (by first | exact ys_blk hT rfl rfl mE rfl rfl | exact ys_row hT rfl rfl mE rfl rfl | exact ys_row0 hT rfl rfl mE rfl rfl) sF ?_ | refine gb_skip 23 rfl (by decide +kernel) rfl rfl sF ?_
        first | refine gb_take 24 rfl (by decide +kernel) rfl rfl (ys_ev (nw := true) hT rfl sI) sF ?_ | refine gb_skip 24 rfl (by decide +kernel) rfl rfl sF ?_
        refine gb_take 25 rfl (by decide +kernel) rfl rfl (ys_ev (nw := true) hT rfl sI) sF ?_
        refine gb_nil (by decide +kernel) ?_
        exact ⟨(), (by repeat (first | exact trivial | refine ⟨rfl, ?_⟩)), sA, sS⟩
      · (repeat (refine gG ?_; try intro _))
        refine gk_ret hT rfl rfl (.tmp rfl .nil) (fun w' hk => ?_)
        exact ⟨rfl, hk.toBelow⟩
  · (repeat' (first | (refine gG ?_; try intro _) | ((first | refine g_split rfl rfl tE (fun _ => ?_) (fun _ => ?_) | refine gk_cond rfl rfl tE (fun _ => ?_) (fun _ => ?_)) <;> (try first | (exfalso; omega; done) | (rename_i hx; exact absurd rfl hx) | (rename_i hx; cases hx; done)))))
    refine gk_ret hT rfl rfl (.tmp rfl .nil) (fun w' hk => ?_)
    refine ⟨congrArg (fun b => Ending.returned (.bool b)) ?_, hk.toBelow⟩
    refine tB_congr ⟨fun h => ⟨fun i a b ha hb => hI i a b ?_ ha hb, by omega⟩, fun h => ?_⟩
    · have := (List.getElem?_eq_some_iff.1 hb).1
      omega
    · have := h.len
      omega
theorem der_blk {g T : Nat} {cs : List Value} {α : Type} [Inhabited α] {sz : Nat} {enc : α → Nat → Value} {M : List α} (he : cs = flatF sz enc M) : Der [blk g cs T] (sl (some ⟨g, 0, none⟩) sz enc M) := ⟨fun w hw => by
  have hb : w.heap[g]? = some (.cells cs.toArray T (0, 0)) := hw _ (.head _)
  intro hn
  refine ⟨g, 0, rfl, fun i hi j hj => ?_⟩
  have hy : M[i]? = some M[i] := List.getElem?_eq_getElem hi
  rw [Nat.zero_add, cell_of_row w g _ cs.toArray T (0, 0) hb, LF_at hy, he]
  simpa using flatF_get sz enc M i j _ hy hj, fun b hb => by
    obtain ⟨_, a, ha, hb⟩ := hb
    injection ha with ha
    subst ha
    subst hb
    exact ⟨_, .head _, rfl⟩⟩
/-- A catalog's facts, out of others. -/
theorem catF_der {l : List Fact} {c : CatD} (h1 : Der l (sl c.v.A 3 VE c.V)) (h2 : Der l (allF c.V VolD.f)) (h3 : Der l (sl c.g.A 2 GE c.G)) (h4 : Der l (allF c.G GrpD.f)) (h5 : Der l (sl c.b.A 3 BE c.B)) (h6 : Der l (allF c.B BokD.f)) (h7 : Der l (sl c.k.A 1 (IE .u64) c.K)) (h8 : Der l (sl c.t.A 2 ME c.T)) : Der l (catF c) :=
  Der.all (L := c.fs) (F := id) fun φ hφ => by
    rcases List.mem_cons.1 hφ with rfl | hφ
    · exact h1
    rcases List.mem_cons.1 hφ with rfl | hφ
    · exact h2
    rcases List.mem_cons.1 hφ with rfl | hφ
    · exact h3
    rcases List.mem_cons.1 hφ with rfl | hφ
    · exact h4
    rcases List.mem_cons.1 hφ with rfl | hφ
    · exact h5
    rcases List.mem_cons.1 hφ with rfl | hφ
    · exact h6
    rcases List.mem_cons.1 hφ with rfl | hφ
    · exact h7
    rcases List.mem_cons.1 hφ with rfl | hφ
    · exact h8
    · cases hφ
theorem der_sl0 {α : Type} [Inhabited α] {l : List Fact} {A : Option Addr} {sz : Nat} {enc : α → Nat → Value} : Der l (sl A sz enc ([] : List α)) := ⟨fun w hw h => absurd h (Nat.lt_irrefl 0), fun b hb => absurd hb.1 (Nat.lt_irrefl 0)⟩
theorem der_all0 {α : Type} {l : List Fact} {F : α → Fact} : Der l (allF ([] : List α) F) := .all fun x hx => by cases hx
theorem alive24 (w : World) : Calls Try.prog 27 [].toArray w fun e w' => e = .returned (.bool true) ∧ Below w.heap.size w w' := by
  refine g_enter0 T [] [] [] Try.func27 rfl Try.ntmps27 rfl (Kn.start _) ?_
  (repeat (refine gG ?_; try intro _))
  rename_i g2 g1
  refine g_derO [blk g2 [.int .u64 5, .int .u64 7] 103] [blk g1 [.int .i64 0, .int .i64 0, .int .i64 0, .int .u64 0, .slice none 0 0, .slice none 0 0, .slice none 0 0, .slice none 0 0, .slice (some ⟨g2, 0, none⟩) 1 1] 67] (φ := sl (some ⟨g2, 0, none⟩) 2 ME [(⟨5, 7⟩ : MarkD)]) (der_blk rfl) sA ?_
  refine g_derO [sl (some ⟨g2, 0, none⟩) 2 ME [(⟨5, 7⟩ : MarkD)]] [blk g1 [.int .i64 0, .int .i64 0, .int .i64 0, .int .u64 0, .slice none 0 0, .slice none 0 0, .slice none 0 0, .slice none 0 0, .slice (some ⟨g2, 0, none⟩) 1 1] 67] (φ := catF (⟨0, 0, 0, 0, ⟨none, 0, 0⟩, [], ⟨none, 0, 0⟩, [], ⟨none, 0, 0⟩, [], ⟨none, 0, 0⟩, [], ⟨some ⟨g2, 0, none⟩, 1, 1⟩, [⟨5, 7⟩]⟩ : CatD)) (catF_der der_sl0 der_all0 der_sl0 der_all0 der_sl0 der_all0 der_sl0 (.mem (.head _))) sA ?_
  have hok : ((⟨0, 0, 0, 0, ⟨none, 0, 0⟩, [], ⟨none, 0, 0⟩, [], ⟨none, 0, 0⟩, [], ⟨none, 0, 0⟩, [], ⟨some ⟨g2, 0, none⟩, 1, 1⟩, [⟨5, 7⟩]⟩ : CatD)).Ok := ⟨ok_nil, ok_nil, ok_nil, ok_nil, ⟨rfl, Nat.le_refl _, (by show 1 ≤ maxLen; decide), fun h => by cases h⟩, fun x hx => (by cases hx), fun x hx => (by cases hx), fun x hx => (by cases hx), fun x hx => (by cases hx), (by show (-9223372036854775808 : Int) ≤ 0 ∧ (0 : Int) ≤ 9223372036854775807; decide), (by show (-9223372036854775808 : Int) ≤ 0 ∧ (0 : Int) ≤ 9223372036854775807; decide), (by show (-9223372036854775808 : Int) ≤ 0 ∧ (0 : Int) ≤ 9223372036854775807; decide)⟩
  have hrs : RiseN ((⟨0, 0, 0, 0, ⟨none, 0, 0⟩, [], ⟨none, 0, 0⟩, [], ⟨none, 0, 0⟩, [], ⟨none, 0, 0⟩, [], ⟨some ⟨g2, 0, none⟩, 1, 1⟩, [⟨5, 7⟩]⟩ : CatD)).T := fun i j a b h ha hb => by
    have := (List.getElem?_eq_some_iff.1 hb).1
    have h1 : j < 1 := this
    omega
  have e1 : floorP [(⟨5, 7⟩ : MarkD)] 0 10 3 = 5 := by decide
  have e2 : keptP [] 5 0 2 = [0, 2, 4] := by decide
  have c1 := fun w h => pfloor_any (⟨0, 0, 0, 0, ⟨none, 0, 0⟩, [], ⟨none, 0, 0⟩, [], ⟨none, 0, 0⟩, [], ⟨none, 0, 0⟩, [], ⟨some ⟨g2, 0, none⟩, 1, 1⟩, [⟨5, 7⟩]⟩ : CatD) 10 3 w hok (by show 1 ≤ 1000; decide) hrs (by decide) (by decide) (by decide) h
  dsimp only at c1
  have c2 := fun w h => pkept_any (⟨0, 0, 0, 0, ⟨none, 0, 0⟩, [], ⟨none, 0, 0⟩, [], ⟨none, 0, 0⟩, [], ⟨none, 0, 0⟩, [], ⟨some ⟨g2, 0, none⟩, 1, 1⟩, [⟨5, 7⟩]⟩ : CatD) 5 2 w hok (by show 0 ≤ 1000; decide) (by decide) (by decide) (by decide) h
  dsimp only at c2
  rw [e1] at c1
  rw [e2] at c2
  (repeat' (first | (refine gG ?_; try intro _) | (refine g_mv rfl ?_; first | refine mv_call_bel (fun w hk => c1 w (hk.rO (φ := catF (⟨0, 0, 0, 0, ⟨none, 0, 0⟩, [], ⟨none, 0, 0⟩, [], ⟨none, 0, 0⟩, [], ⟨none, 0, 0⟩, [], ⟨some ⟨g2, 0, none⟩, 1, 1⟩, [⟨5, 7⟩]⟩ : CatD)) mE)) rfl rfl rfl rfl rfl (by kernel_rfl) ?_) | ((first | refine g_split rfl rfl tE (fun _ => ?_) (fun _ => ?_) | refine gk_cond rfl rfl tE (fun _ => ?_) (fun _ => ?_)) <;> (try first | (exfalso; omega; done) | (rename_i hx; exact absurd rfl hx) | (rename_i hx; cases hx; done)))))
  refine g_mv rfl ?_; refine mv_call_rs (fun w hk => c2 w (hk.rO (φ := catF (⟨0, 0, 0, 0, ⟨none, 0, 0⟩, [], ⟨none, 0, 0⟩, [], ⟨none, 0, 0⟩, [], ⟨none, 0, 0⟩, [], ⟨some ⟨g2, 0, none⟩, 1, 1⟩, [⟨5, 7⟩]⟩ : CatD)) mE)) rfl rfl rfl rfl rfl (by kernel_rfl) sS (fun _ => rfl) (fun q hq hqn => ?_)
  (repeat (refine gG ?_; try intro _))
  rename_i g11
  refine g_lit g11 3 [(0 : Int), 2, 4] (enc := IE .u64) rfl (by decide) rfl (by first | ((repeat (first | with_reducible exact Upd.here _ | with_reducible apply Upd.there)); done) | ((repeat (first | exact Upd.here _ | apply Upd.there)); done) | fail) ?_
  refine g_mv rfl ?_; refine mv_call_bel (fun w hk => equal_U q.A (some ⟨g11, 0, none⟩) q.n q.c 3 3 [0, 2, 4] [0, 2, 4] w hq.n rfl (by rw [hq.n]; decide) (hk.pR (sl q.A 1 (IE .u64) [0, 2, 4]) mE) (own_slT (base := 0) (e := 31) (n := 3) (c := 3) hk mE)) rfl rfl rfl rfl rfl (by kernel_rfl) ?_
  refine g_say 12 (.bool true) rfl (congrArg Value.bool (tB_true rfl)) ?_
  (repeat (refine gG ?_; try intro _))
  refine gk_ret hT rfl rfl (.tmp rfl .nil) (fun w' hk => ?_)
  exact ⟨rfl, hk.toBelow⟩
/-- May one go back? -/
def mayP (V : List VolD) (P : List Int) (fl vol seq last : Int) : Prop := (∃ i, pos (V.map VolD.id) vol = some i) ∧ ¬ seq < (findV V vol).q ∧ ¬ last < seq ∧ (seq ∈ P ∨ fl ≤ seq)
theorem may_any (c : CatD) (vol seq last : Int) (w : World) (hc : c.Ok) (hk9 : c.K.length ≤ 400) (hb9 : c.B.length ≤ 400) (hB9 : ∀ b, b ∈ c.B → b.L.length ≤ 1000) (h : Rd1 w (catF c)) :
    Calls Try.prog 28 [c.val, .int .i64 vol, .int .u64 seq, .int .u64 last].toArray w fun e w' => e = .returned (.bool (tB (mayP c.V (ofP c.K (c.B.map BokD.d) vol) c.fl vol seq last))) ∧ Below w.heap.size w w' := by
  have h1 := fun w (h : Rd1 w (catF c)) => rfind_any c vol w hc h
  have h2 := fun w h1 h2 h3 => rof_any c vol w hc.k hc.b hc.B hk9 hb9 hB9 h1 h2 h3
  have hfv : (findV c.V vol).val = .agg #[.int .i64 (findV c.V vol).id, .int .u64 (findV c.V vol).q, .slice (findV c.V vol).s.A (findV c.V vol).s.n (findV c.V vol).s.c] := rfl
  rw [hfv] at h1
  have hol := ofP_len c.K c.B vol
  obtain ⟨nv, ng, nb, fl, ⟨vA, vm, vc⟩, V, ⟨gA, gm, gc⟩, G, ⟨bA, bm, bc⟩, B, ⟨kA, km, kd⟩, K, ⟨tA, tm, tc⟩, M⟩ := c
  dsimp only [CatD.val] at h1 h2 hfv hol hk9 hb9 ⊢
  obtain ⟨z, hz⟩ : ∃ z, z = findV V vol := ⟨_, rfl⟩
  obtain ⟨P, hP⟩ : ∃ P, P = ofP K (B.map BokD.d) vol := ⟨_, rfl⟩
  unfold mayP
  rw [← hz] at h1 ⊢
  rw [← hP] at h2 hol ⊢
  refine g_enter0 T [] [] [catF (⟨nv, ng, nb, fl, ⟨vA, vm, vc⟩, V, ⟨gA, gm, gc⟩, G, ⟨bA, bm, bc⟩, B, ⟨kA, km, kd⟩, K, ⟨tA, tm, tc⟩, M⟩ : CatD)] Try.func28 rfl Try.ntmps28 rfl (Rds.cons h .nil).kn ?_
  refine gk_der [catF (⟨nv, ng, nb, fl, ⟨vA, vm, vc⟩, V, ⟨gA, gm, gc⟩, G, ⟨bA, bm, bc⟩, B, ⟨kA, km, kd⟩, K, ⟨tA, tm, tc⟩, M⟩ : CatD)] (φ := sl kA 1 (IE .u64) K) d_k sS ?_
  refine gk_der [catF (⟨nv, ng, nb, fl, ⟨vA, vm, vc⟩, V, ⟨gA, gm, gc⟩, G, ⟨bA, bm, bc⟩, B, ⟨kA, km, kd⟩, K, ⟨tA, tm, tc⟩, M⟩ : CatD)] (φ := sl bA 3 BE B) d_b sS ?_
  refine gk_der [catF (⟨nv, ng, nb, fl, ⟨vA, vm, vc⟩, V, ⟨gA, gm, gc⟩, G, ⟨bA, bm, bc⟩, B, ⟨kA, km, kd⟩, K, ⟨tA, tm, tc⟩, M⟩ : CatD)] (φ := allF B BokD.f) d_B sS ?_
  (repeat (refine gG ?_; try intro _))
  rename_i g4
  refine g_mv rfl ?_; refine mv_call_bel (fun w hk => h1 w (hk.rR (φ := catF (⟨nv, ng, nb, fl, ⟨vA, vm, vc⟩, V, ⟨gA, gm, gc⟩, G, ⟨bA, bm, bc⟩, B, ⟨kA, km, kd⟩, K, ⟨tA, tm, tc⟩, M⟩ : CatD)) mE)) rfl rfl rfl rfl rfl (by kernel_rfl) ?_
  cases hp : pos (V.map VolD.id) vol with
  | none =>
    have e : tB ((∃ i, (none : Option Nat) = some i) ∧ ¬ seq < z.q ∧ ¬ last < seq ∧ (seq ∈ P ∨ fl ≤ seq)) = false := tB_false (fun h => by obtain ⟨⟨i, hi⟩, _⟩ := h; cases hi)
    rw [e]
    refine g_say 16 (.tuple #[.agg #[.int .i64 z.id, .int .u64 z.q, .slice z.s.A z.s.n z.s.c], .bool false]) rfl rfl ?_
    (repeat' (first | (refine gG ?_; try intro _) | ((first | refine g_split rfl rfl tE (fun _ => ?_) (fun _ => ?_) | refine gk_cond rfl rfl tE (fun _ => ?_) (fun _ => ?_)) <;> (try first | (exfalso; omega; done) | (rename_i hx; exact absurd rfl hx) | (rename_i hx; cases hx; done)))))
    refine gk_ret hT rfl rfl (.tmp rfl .nil) (fun w' hk => ?_)
    exact ⟨rfl, hk.toBelow⟩
  | some i =>
    refine g_say 16 (.tuple #[.agg #[.int .i64 z.id, .int .u64 z.q, .slice z.s.A z.s.n z.s.c], .bool true]) rfl rfl ?_
    by_cases ha : seq < z.q
    · have e : tB ((∃ j, some i = some j) ∧ ¬ seq < z.q ∧ ¬ last < seq ∧ (seq ∈ P ∨ fl ≤ seq)) = false := tB_false (fun h => h.2.1 ha)
      rw [e]
      (repeat' (first | (refine gG ?_; try intro _) | ((first | refine g_split rfl rfl tE (fun _ => ?_) (fun _ => ?_) | refine gk_cond rfl rfl tE (fun _ => ?_) (fun _ => ?_)) <;> (try first | (exfalso; omega; done) | (rename_i hx; exact absurd rfl hx) | (rename_i hx; cases hx; done)))))
      refine gk_ret hT rfl rfl (.tmp rfl .nil) (fun w' hk => ?_)
      exact ⟨rfl, hk.toBelow⟩
    · by_cases hb : last < seq
      · have e : tB ((∃ j, some i = some j) ∧ ¬ seq < z.q ∧ ¬ last < seq ∧ (seq ∈ P ∨ fl ≤ seq)) = false := tB_false (fun h => h.2.2.1 hb)
        rw [e]
        (repeat' (first | (refine gG ?_; try intro _) | ((first | refine g_split rfl rfl tE (fun _ => ?_) (fun _ => ?_) | refine gk_cond rfl rfl tE (fun _ => ?_) (fun _ => ?_)) <;> (try first | (exfalso; omega; done) | (rename_i hx; exact absurd rfl hx) | (rename_i hx; cases hx; done)))))
        refine gk_ret hT rfl rfl (.tmp rfl .nil) (fun w' hk => ?_)
        exact ⟨rfl, hk.toBelow⟩
      · have e : tB ((∃ j, some i = some j) ∧ ¬ seq < z.q ∧ ¬ last < seq ∧ (seq ∈ P ∨ fl ≤ seq)) = tB (seq ∈ P ∨ fl ≤ seq) := tB_congr ⟨fun h => h.2.2.2, fun h => ⟨⟨i, rfl⟩, ha, hb, h⟩⟩
        rw [e]
        (repeat' (first | (refine gG ?_; try intro _) | ((first | refine g_split rfl rfl tE (fun _ => ?_) (fun _ => ?_) | refine gk_cond rfl rfl tE (fun _ => ?_) (fun _ => ?_)) <;> (try first | (exfalso; omega; done) | (rename_i hx; exact absurd rfl hx) | (rename_i hx; cases hx; done)))))
        refine g_mv rfl ?_; refine mv_call_rs (fun w hk => h2 w (hk.rR (φ := sl kA 1 (IE .u64) K) mE) (hk.rR (φ := sl bA 3 BE B) mE) (hk.rR (φ := allF B BokD.f) mE)) rfl rfl rfl rfl rfl (by kernel_rfl) sS (fun _ => rfl) (fun q hq hqn => ?_)
        obtain ⟨qA, qn, qc⟩ := q
        have hqn' : qn = P.length := hq.n
        (repeat (refine gG ?_; try intro _))
        refine gk_loop_sel (fun (q : Nat × Unit) => match q with | (j, u) => (j ≤ qn ∧ ∀ i, i < j → P[i]? ≠ some seq)) (fun (q : Nat × Unit) => match q with | (j, u) => [(2, .int .u64 seq), (4, .pointer (some ⟨g4, 0, none⟩)), (11, .slice qA qn qc), (12, .int .i64 (j : Int))]) (fun (q : Nat × Unit) => match q with | (j, u) => [blk g4 [.int .i64 nv, .int .i64 ng, .int .i64 nb, .int .u64 fl, .slice vA vm vc, .slice gA gm gc, .slice bA bm bc, .slice kA km kd, .slice tA tm tc] 67]) (fun (q : Nat × Unit) => match q with | (j, u) => [sl qA 1 (IE .u64) P]) (fun (q : Nat × Unit) => match q with | (j, u) => qn - j) (0, ()) rfl ⟨Nat.zero_le _, fun i h => absurd h (Nat.not_lt_zero _)⟩ (by repeat (first | exact trivial | refine ⟨rfl, ?_⟩)) sA sS ?_
        rintro ⟨j, u⟩ hI
        replace hI : (j ≤ qn ∧ ∀ i, i < j → P[i]? ≠ some seq) := hI
        change GK _ _ [(2, .int .u64 seq), (4, .pointer (some ⟨g4, 0, none⟩)), (11, .slice qA qn qc), (12, .int .i64 (j : Int))] [blk g4 [.int .i64 nv, .int .i64 ng, .int .i64 nb, .int .u64 fl, .slice vA vm vc, .slice gA gm gc, .slice bA bm bc, .slice kA km kd, .slice tA tm tc] 67] [sl qA 1 (IE .u64) P]
        obtain ⟨hj1, hno⟩ := hI
        by_cases hj : j < qn
        · obtain ⟨y, hy⟩ : ∃ y, P[j]? = some y := ⟨P[j], List.getElem?_eq_getElem (by omega)⟩
          refine gk_elem (A := qA) (enc := IE .u64) (L := P) j mE (by omega) (by decide) (fun mb mo y' eM hy' => ?_)
          subst eM
          obtain rfl : y = y' := by rw [hy] at hy'; exact Option.some.inj hy'
          by_cases he : y = seq
          · have e2 : tB (seq ∈ P ∨ fl ≤ seq) = true := tB_true (.inl (he ▸ List.mem_of_getElem? hy))
            rw [e2]
            (repeat' (first | (refine gG ?_; try intro _) | ((first | refine g_split rfl rfl tE (fun _ => ?_) (fun _ => ?_) | refine gk_cond rfl rfl tE (fun _ => ?_) (fun _ => ?_)) <;> (try first | (exfalso; omega; done) | (rename_i hx; exact absurd rfl hx) | (rename_i hx; cases hx; done)))))
            refine gk_ret hT rfl rfl (.tmp rfl .nil) (fun w' hk => ?_)
            exact ⟨rfl, hk.toBelow⟩
          · (repeat' (first | (refine gG ?_; try intro _) | ((first | refine g_split rfl rfl tE (fun _ => ?_) (fun _ => ?_) | refine gk_cond rfl rfl tE (fun _ => ?_) (fun _ => ?_)) <;> (try first | (exfalso; omega; done) | (rename_i hx; exact absurd rfl hx) | (rename_i hx; cases hx; done)))))
            refine gk_again_sel rfl (j + 1, ()) ⟨hj, fun i hi => by
              rcases Nat.lt_or_ge i j with h | h
              · exact hno i h
              · obtain rfl : i = j := by omega
                rw [hy]; exact fun h => he (Option.some.inj h)⟩ (by dsimp only; omega) (by repeat (first | exact trivial | refine ⟨rfl, ?_⟩)) sA sS
        · have e2 : tB (seq ∈ P ∨ fl ≤ seq) = tB (fl ≤ seq) := tB_congr ⟨fun h => h.resolve_left fun h => by
            obtain ⟨i, hi⟩ := List.getElem?_of_mem h
            have := (List.getElem?_eq_some_iff.1 hi).1
            exact hno i (by omega) hi, .inr⟩
          rw [e2]
          (repeat' (first | (refine gG ?_; try intro _) | ((first | refine g_split rfl rfl tE (fun _ => ?_) (fun _ => ?_) | refine gk_cond rfl rfl tE (fun _ => ?_) (fun _ => ?_)) <;> (try first | (exfalso; omega; done) | (rename_i hx; exact absurd rfl hx) | (rename_i hx; cases hx; done)))))
          refine gk_ret hT rfl rfl (.tmp rfl .nil) (fun w' hk => ?_)
          exact ⟨rfl, hk.toBelow⟩
end Go.Proofs.Ytgpfedmfbkhhcaa.Po
namespace Go.Proofs.Ytgpfedmfbkhhcaa.Po
open Go.RowKit Mem Gx Ct Dd Hp
set_option linter.unusedVariables false
set_option linter.unusedSimpArgs false
set_option maxRecDepth 100000
set_option maxHeartbeats 1000000
section
variable {c d : CatD} {now window ev vol seq last : Int}
theorem ret_fl (hp : d.p = retainP c.p now window ev) : d.fl = floorP c.T c.fl now window := congrArg CatP.fl hp
theorem ret_K (hp : d.p = retainP c.p now window ev) : d.K = keptP c.K (floorP c.T c.fl now window) c.fl ev := congrArg CatP.K hp
theorem ret_B (hp : d.p = retainP c.p now window ev) : d.B.map BokD.d = c.B.map BokD.d := congrArg CatP.B hp
theorem ret_V (hp : d.p = retainP c.p now window ev) : d.V.map (fun x => (x.id, x.q)) = c.V.map (fun x => (x.id, x.q)) := by
  have h := congrArg (List.map fun v : Int × Int × List MarkD => (v.1, v.2.1)) (congrArg CatP.V hp)
  unfold retainP CatD.p at h
  dsimp only at h
  rw [List.map_map, List.map_map, List.map_map] at h
  exact h
theorem ret_id (hp : d.p = retainP c.p now window ev) : d.V.map VolD.id = c.V.map VolD.id := by
  have h := congrArg (List.map Prod.fst) (ret_V hp)
  rw [List.map_map, List.map_map] at h
  exact h
theorem ret_q (hp : d.p = retainP c.p now window ev) {i : Nat} (h : pos (c.V.map VolD.id) vol = some i) : (findV d.V vol).q = (findV c.V vol).q := by
  have h1 := ret_V hp
  have hc := (pos_some h).1
  rw [List.getElem?_map, Option.map_eq_some_iff] at hc
  obtain ⟨x, hx, _⟩ := hc
  have h2 := congrArg (fun l => l[i]?) h1
  rw [List.getElem?_map, List.getElem?_map, hx] at h2
  rw [Option.map_some, Option.map_eq_some_iff] at h2
  obtain ⟨y, hy, e⟩ := h2
  unfold findV
  rw [ret_id hp, h]
  show (d.V.getD i default).q = (c.V.getD i default).q
  rw [List.getD_eq_getElem?_getD, List.getD_eq_getElem?_getD, hx, hy]
  exact congrArg Prod.snd e
theorem ret_may (hp : d.p = retainP c.p now window ev) (hm : mayP c.V (ofP c.K (c.B.map BokD.d) vol) c.fl vol seq last) (h : d.fl ≤ seq ∨ ∃ b, b ∈ c.B ∧ b.q = seq ∧ vol ∈ b.L) : mayP d.V (ofP d.K (d.B.map BokD.d) vol) d.fl vol seq last := by
  obtain ⟨⟨i, hi⟩, h1, h2, h3⟩ := hm
  refine ⟨⟨i, by rw [ret_id hp]; exact hi⟩, by rw [ret_q hp hi]; exact h1, h2, ?_⟩
  rcases h with h | ⟨b, hb, e1, e2⟩
  · exact .inr h
  · refine .inl ?_
    rw [ret_B hp, ofP_qs, mem_setP, List.mem_append]
    refine .inr ?_
    unfold qsP
    rw [List.mem_map]
    exact ⟨b, List.mem_filter.2 ⟨hb, by simp [e2]⟩, e1⟩
theorem ret_Bl (hp : d.p = retainP c.p now window ev) : d.B.length = c.B.length := by
  have h := congrArg List.length (ret_B hp)
  rwa [List.length_map, List.length_map] at h
theorem ret_BL (hp : d.p = retainP c.p now window ev) (h : ∀ b, b ∈ c.B → b.L.length ≤ 30) : ∀ b, b ∈ d.B → b.L.length ≤ 1000 := fun b hb => by
  have h1 : b.d ∈ d.B.map BokD.d := List.mem_map_of_mem hb
  rw [ret_B hp, List.mem_map] at h1
  obtain ⟨x, hx, e⟩ := h1
  have e2 : x.L = b.L := congrArg (fun p => p.2.2) e
  have := h x hx
  rw [e2] at this
  omega
/-- Is there a bookmark of a number that has a volume, among the first ones? -/
def MarkN (B : List BokD) (vol seq : Int) (j : Nat) : Prop := ∃ b, b ∈ B.take j ∧ b.q = seq ∧ vol ∈ b.L
theorem mark_zero {B : List BokD} : ¬ MarkN B vol seq 0 := fun ⟨b, h, _⟩ => by simp at h
theorem mark_step {B : List BokD} {j : Nat} {y : BokD} (hy : B[j]? = some y) : MarkN B vol seq (j + 1) ↔ MarkN B vol seq j ∨ (y.q = seq ∧ vol ∈ y.L) := by
  unfold MarkN
  rw [take_snoc hy]
  constructor
  · rintro ⟨b, h1, h2⟩
    rcases List.mem_append.1 h1 with h1 | h1
    · exact .inl ⟨b, h1, h2⟩
    · rw [List.mem_singleton.1 h1] at h2; exact .inr h2
  · rintro (⟨b, h1, h2⟩ | h)
    · exact ⟨b, List.mem_append_left _ h1, h2⟩
    · exact ⟨y, List.mem_append_right _ (.head _), h⟩
theorem mark_all {B : List BokD} {j : Nat} (h : B.length ≤ j) : MarkN B vol seq j ↔ ∃ b, b ∈ B ∧ b.q = seq ∧ vol ∈ b.L := by
  unfold MarkN
  rw [List.take_of_length_le h]
end
end Go.Proofs.Ytgpfedmfbkhhcaa.Po
namespace Go.Proofs.Ytgpfedmfbkhhcaa.Po
open Go.RowKit Mem Gx Ct
open Go.ChangeShapes Go.WideShapes Go.Deep
set_option linter.unusedVariables false
set_option linter.unusedSimpArgs false
set_option maxRecDepth 100000
set_option maxHeartbeats 4000000
section
variable {H : Type} {enc : TypeId × Value → H} {W : World}
theorem mark_leaves2 {V : Nat → Value} {l : List TypeId} (hl : l = [31, 31]) (hV : ∀ (j : Nat) (tj : TypeId), l[j]? = some tj → Leaf enc Try.prog W tj (V j)) : ∃ y : MarkD, (∀ j, j < 2 → V j = ME y j) ∧ (0 ≤ y.s ∧ y.s ≤ 18446744073709551615) := by
  subst hl
  obtain ⟨a, e, w1⟩ := leaf_int Try.underlying31 (hV 0 _ rfl)
  obtain ⟨b, e1, _⟩ := leaf_int Try.underlying31 (hV 1 _ rfl)
  refine ⟨⟨a, b⟩, fun j hj => ?_, u64_bd w1⟩
  match j, hj with
  | 0, _ => exact e
  | 1, _ => exact e1
theorem marks_of2 {v : Value} (h : Leaf enc Try.prog W 65 v) : ∃ (A : Option Addr) (n c : Nat) (L : List MarkD), v = .slice A n c ∧ (SlV.mk A n c).Ok L.length ∧ Sl W A 2 ME L ∧ ∀ y, y ∈ L → 0 ≤ y.s ∧ y.s ≤ 18446744073709551615 := by
  have hl : leaves Try.prog 8 103 = some [31, 31] := by decide +kernel
  obtain ⟨A, n, c, F, rfl, hA, h1, h2, h3, h4⟩ := leaf_slice Try.underlying65 hl (by kernel_rfl) (by decide) h
  obtain ⟨L, hn, hs, hb⟩ := arr_list (enc := ME) (Q := fun y => 0 ≤ y.s ∧ y.s ≤ 18446744073709551615) hA (fun i hi => mark_leaves2 rfl (h4 i hi))
  exact ⟨A, n, c, L, rfl, ⟨hn, h1, h2, fun h => (h3 h).2⟩, hs, hb⟩
theorem cat_of2 {base : Nat} {v : Value} {d : DataW H} {p : List MemPlace} (hv : Value.okWide Try.prog W .any base 67 v) (h : DataW.Trod enc Try.prog W 0 (fun _ => true) true 67 v d p) : ∃ c : CatD, v = c.val ∧ c.Ok ∧ CatB c ∧ Rd1 W (catF c) := by
  have hl : leaves Try.prog 8 67 = some [3, 3, 3, 31, 61, 62, 63, 64, 65] := by decide +kernel
  obtain ⟨V, rfl, hV⟩ := open_flat hl (by kernel_rfl) (by kernel_rfl) hv h
  obtain ⟨a0, e0, w0⟩ := leaf_int Try.underlying3 (hV 0 _ rfl)
  obtain ⟨a1, e1, w1⟩ := leaf_int Try.underlying3 (hV 1 _ rfl)
  obtain ⟨a2, e2, w2⟩ := leaf_int Try.underlying3 (hV 2 _ rfl)
  obtain ⟨a3, e3, w3⟩ := leaf_int Try.underlying31 (hV 3 _ rfl)
  obtain ⟨A4, n4, c4, L4, e4, k4, s4, q4⟩ := vols_of (hV 4 _ rfl)
  obtain ⟨A5, n5, c5, L5, e5, k5, s5, q5⟩ := grps_of (hV 5 _ rfl)
  obtain ⟨A6, n6, c6, L6, e6, k6, s6, q6⟩ := boks_of (hV 6 _ rfl)
  obtain ⟨A7, n7, c7, L7, e7, k7, s7⟩ := u64s_of (hV 7 _ rfl)
  obtain ⟨A8, n8, c8, L8, e8, k8, s8, q8⟩ := marks_of2 (hV 8 _ rfl)
  refine ⟨⟨a0, a1, a2, a3, ⟨A4, n4, c4⟩, L4, ⟨A5, n5, c5⟩, L5, ⟨A6, n6, c6⟩, L6, ⟨A7, n7, c7⟩, L7, ⟨A8, n8, c8⟩, L8⟩, ?_, ⟨k4, k5, k6, k7, k8, fun x hx => (q4 x hx).1.1, fun x hx => (q5 x hx).1, fun x hx => (q6 x hx).1, fun x hx => (q4 x hx).1.2, i64_of w0, i64_of w1, i64_of w2⟩, ⟨(u64_bd w3).1, (u64_bd w3).2, fun m hm => q8 m hm⟩, ?_⟩
  · have e' : (List.range 9).map V = [V 0, V 1, V 2, V 3, V 4, V 5, V 6, V 7, V 8] := rfl
    show Value.agg ((List.range 9).map V).toArray = _
    rw [e', e0, e1, e2, e3, e4, e5, e6, e7, e8]
  · refine Rd1.all fun φ hφ => ?_
    rcases List.mem_cons.1 hφ with rfl | hφ
    · exact rd_sl s4 (by decide)
    rcases List.mem_cons.1 hφ with rfl | hφ
    · exact Rd1.all fun x hx => rd_sl (q4 x hx).2 (by decide)
    rcases List.mem_cons.1 hφ with rfl | hφ
    · exact rd_sl s5 (by decide)
    rcases List.mem_cons.1 hφ with rfl | hφ
    · exact Rd1.all fun x hx => rd_sl (q5 x hx).2 (by decide)
    rcases List.mem_cons.1 hφ with rfl | hφ
    · exact rd_sl s6 (by decide)
    rcases List.mem_cons.1 hφ with rfl | hφ
    · exact Rd1.all fun x hx => rd_sl (q6 x hx).2 (by decide)
    rcases List.mem_cons.1 hφ with rfl | hφ
    · exact rd_sl s7 (by decide)
    rcases List.mem_cons.1 hφ with rfl | hφ
    · exact rd_sl s8 (by decide)
    · cases hφ
/-- Three numbers. -/
def v3 (a b c : Int) : Value := .agg #[.int .u64 a, .int .u64 b, .int .u64 c]
def B3 (a b c : Int) : Prop := (0 ≤ a ∧ a ≤ 18446744073709551615) ∧ (0 ≤ b ∧ b ≤ 18446744073709551615) ∧ (0 ≤ c ∧ c ≤ 18446744073709551615)
theorem rule_of {base : Nat} {v : Value} {d : DataW H} {p : List MemPlace} (hv : Value.okWide Try.prog W .any base 69 v) (h : DataW.Trod enc Try.prog W 0 (fun _ => true) true 69 v d p) : ∃ a b c : Int, v = v3 a b c ∧ B3 a b c := by
  have hl : leaves Try.prog 8 69 = some [31, 31, 31] := by decide +kernel
  obtain ⟨V, rfl, hV⟩ := open_flat hl (by kernel_rfl) (by kernel_rfl) hv h
  obtain ⟨a0, e0, w0⟩ := leaf_int Try.underlying31 (hV 0 _ rfl)
  obtain ⟨a1, e1, w1⟩ := leaf_int Try.underlying31 (hV 1 _ rfl)
  obtain ⟨a2, e2, w2⟩ := leaf_int Try.underlying31 (hV 2 _ rfl)
  refine ⟨a0, a1, a2, ?_, u64_bd w0, u64_bd w1, u64_bd w2⟩
  have e' : (List.range 3).map V = [V 0, V 1, V 2] := rfl
  show Value.agg ((List.range 3).map V).toArray = _
  rw [e', e0, e1, e2]
  rfl
theorem at3_of {base : Nat} {v : Value} {d : DataW H} {p : List MemPlace} (hv : Value.okWide Try.prog W .any base 78 v) (h : DataW.Trod enc Try.prog W 0 (fun _ => true) true 78 v d p) : ∃ a b c : Int, v = v3 a b c ∧ B3 a b c := by
  have hl : leaves Try.prog 8 78 = some [31, 31, 31] := by decide +kernel
  obtain ⟨V, rfl, hV⟩ := open_flat hl (by kernel_rfl) (by kernel_rfl) hv h
  obtain ⟨a0, e0, w0⟩ := leaf_int Try.underlying31 (hV 0 _ rfl)
  obtain ⟨a1, e1, w1⟩ := leaf_int Try.underlying31 (hV 1 _ rfl)
  obtain ⟨a2, e2, w2⟩ := leaf_int Try.underlying31 (hV 2 _ rfl)
  refine ⟨a0, a1, a2, ?_, u64_bd w0, u64_bd w1, u64_bd w2⟩
  have e' : (List.range 3).map V = [V 0, V 1, V 2] := rfl
  show Value.agg ((List.range 3).map V).toArray = _
  rw [e', e0, e1, e2]
  rfl
end
end Go.Proofs.Ytgpfedmfbkhhcaa.Po

