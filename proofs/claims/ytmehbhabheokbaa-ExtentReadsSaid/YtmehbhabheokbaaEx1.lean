/- extent.Of, Right, Blocks; the statement's right. -/
import Derived.Test.YtmehbhabheokbaaEx0
namespace Go.Proofs.Ytmehbhabheokbaa.Ex
open Go.RowKit Mem Gx Dd
set_option linter.unusedVariables false
set_option linter.unusedSimpArgs false
set_option maxRecDepth 100000
set_option maxHeartbeats 1000000
theorem drop_at {α : Type} {L : List α} {i : Nat} {x : α} (hx : L[i]? = some x) : L.drop i = x :: L.drop (i + 1) := by
  obtain ⟨h1, h2⟩ := List.getElem?_eq_some_iff.1 hx
  rw [← h2]
  exact List.drop_eq_getElem_cons h1
theorem take_at {α : Type} {L : List α} {i : Nat} {x : α} (hx : L[i]? = some x) : L.take (i + 1) = L.take i ++ [x] := by
  obtain ⟨h1, h2⟩ := List.getElem?_eq_some_iff.1 hx
  rw [List.take_succ_eq_append_getElem h1, h2]
theorem right_step {L : List RunD} {i : Nat} {e : Int} {r : RunD} (h : rightE (-1) L ↔ rightE e (L.drop i)) (hr : L[i]? = some r) : rightE (-1) L ↔ okR e r ∧ rightE (r.f + r.m) (L.drop (i + 1)) := by
  rw [h, drop_at hr]
  rfl
theorem xright_any (A : Option Addr) (n c : Nat) (L : List RunD) (w : World) (hn : n = L.length) (h9 : n ≤ 1000000) (hs : Rd1 w (sl A 2 RE L)) :
    Calls Try.prog 37 [.slice A n c].toArray w fun e w' => e = .returned (.bool (tB (rightE (-1) L))) ∧ Below w.heap.size w w' := by
  refine g_enter0 T [] [] [sl A 2 RE L] Try.func37 rfl Try.ntmps37 rfl (Rds.cons hs .nil).kn ?_
  (repeat (refine gG ?_; try intro _))
  refine gk_loop_sel (fun (q : Nat × Int) => match q with | (i, e) => (i ≤ n ∧ (rightE (-1) L ↔ rightE e (L.drop i)) ∧ -1 ≤ e ∧ e ≤ 9000)) (fun (q : Nat × Int) => match q with | (i, e) => [(3, .int .i64 e), (6, .slice A n c), (7, .int .i64 (n : Int)), (8, .int .i64 (i : Int))]) (fun (q : Nat × Int) => match q with | (i, e) => []) (fun (q : Nat × Int) => match q with | (i, e) => [sl A 2 RE L]) (fun (q : Nat × Int) => match q with | (i, e) => n - i) (0, -1) rfl ⟨Nat.zero_le _, Iff.rfl, by decide, by decide⟩ (by repeat (first | exact trivial | refine ⟨rfl, ?_⟩)) sA sS ?_
  rintro ⟨i, e⟩ hI
  replace hI : (i ≤ n ∧ (rightE (-1) L ↔ rightE e (L.drop i)) ∧ -1 ≤ e ∧ e ≤ 9000) := hI
  change GK _ _ [(3, .int .i64 e), (6, .slice A n c), (7, .int .i64 (n : Int)), (8, .int .i64 (i : Int))] [] [sl A 2 RE L]
  obtain ⟨hi, hq, e1, e2⟩ := hI
  by_cases hlt : i < n
  · obtain ⟨r, hr⟩ : ∃ r, L[i]? = some r := ⟨L[i], List.getElem?_eq_getElem (by omega)⟩
    have hst := right_step hq hr
    refine gk_elem (enc := RE) (L := L) i mE (by omega) (by decide) (fun b o y eA hy => ?_)
    subst eA
    obtain rfl : r = y := by rw [hr] at hy; exact Option.some.inj hy
    by_cases hok : okR e r
    · have hst2 : rightE (-1) L ↔ rightE (r.f + r.m) (L.drop (i + 1)) := hst.trans ⟨fun h => h.2, fun h => ⟨hok, h⟩⟩
      obtain ⟨o1, o2, o3, o4, o5⟩ := hok
      (repeat' (first | (refine gG ?_; try intro _) | ((first | refine g_split rfl rfl tE (fun _ => ?_) (fun _ => ?_) | refine gk_cond rfl rfl tE (fun _ => ?_) (fun _ => ?_)) <;> (try first | (exfalso; omega; done) | (rename_i hx; exact absurd rfl hx) | (rename_i hx; cases hx; done)))))
      refine gk_say 8 (.int .i64 ((i + 1 : Nat) : Int)) rfl (by first | (congr 1; done) | (congr 1; omega)) ?_
      refine gk_again_sel rfl (i + 1, r.f + r.m) ⟨by omega, hst2, (by show -1 ≤ r.f + r.m; omega), (by show r.f + r.m ≤ 9000; omega)⟩ (by dsimp only; omega) (by repeat (first | exact trivial | refine ⟨rfl, ?_⟩)) sA sS
    · have hno : tB (rightE (-1) L) = false := tB_false fun h => hok (hst.1 h).1
      have hbad : r.m < 1 ∨ r.f ≤ e ∨ r.f < 0 ∨ 4097 < r.m ∨ 4096 < r.f := by
        unfold okR at hok
        omega
      (repeat' (first | (refine gG ?_; try intro _) | ((first | refine g_split rfl rfl tE (fun _ => ?_) (fun _ => ?_) | refine gk_cond rfl rfl tE (fun _ => ?_) (fun _ => ?_)) <;> (try first | (exfalso; omega; done) | (rename_i hx; exact absurd rfl hx) | (rename_i hx; cases hx; done)))))
      all_goals (refine gk_ret hT rfl rfl (.tmp rfl .nil) (fun w' hk => ?_); exact ⟨by rw [hno]; rfl, hk.toBelow⟩)
  · have hyes : tB (rightE (-1) L) = true := tB_true (hq.2 (by rw [List.drop_of_length_le (by omega)]; exact trivial))
    (repeat' (first | (refine gG ?_; try intro _) | ((first | refine g_split rfl rfl tE (fun _ => ?_) (fun _ => ?_) | refine gk_cond rfl rfl tE (fun _ => ?_) (fun _ => ?_)) <;> (try first | (exfalso; omega; done) | (rename_i hx; exact absurd rfl hx) | (rename_i hx; cases hx; done)))))
    refine gk_ret hT rfl rfl (.tmp rfl .nil) (fun w' hk => ?_)
    exact ⟨by rw [hyes]; rfl, hk.toBelow⟩
theorem lright_any (A : Option Addr) (n c : Nat) (L : List RunD) (w : World) (hn : n = L.length) (h9 : n ≤ 1000000) (hs : Rd1 w (sl A 2 RE L)) :
    Calls Try.prog 36 [.slice A n c].toArray w fun e w' => e = .returned (.bool (tB (rightE (-1) L))) ∧ Below w.heap.size w w' := by
  refine g_enter0 T [] [] [sl A 2 RE L] Try.func36 rfl Try.ntmps36 rfl (Rds.cons hs .nil).kn ?_
  (repeat (refine gG ?_; try intro _))
  refine gk_loop_sel (fun (q : Nat × Int) => match q with | (i, e) => (i ≤ n ∧ (rightE (-1) L ↔ rightE e (L.drop i)) ∧ (i = 0 → e = -1) ∧ ∀ p, 0 < i → L[i - 1]? = some p → e = p.f + p.m ∧ 0 ≤ p.f ∧ p.f ≤ 4096 ∧ 1 ≤ p.m ∧ p.m ≤ 4097)) (fun (q : Nat × Int) => match q with | (i, e) => [(0, .slice A n c), (3, .int .i64 (i : Int))]) (fun (q : Nat × Int) => match q with | (i, e) => []) (fun (q : Nat × Int) => match q with | (i, e) => [sl A 2 RE L]) (fun (q : Nat × Int) => match q with | (i, e) => n - i) (0, -1) rfl ⟨Nat.zero_le _, Iff.rfl, fun _ => rfl, fun _ h => absurd h (Nat.lt_irrefl 0)⟩ (by repeat (first | exact trivial | refine ⟨rfl, ?_⟩)) sA sS ?_
  rintro ⟨i, e⟩ hI
  replace hI : (i ≤ n ∧ (rightE (-1) L ↔ rightE e (L.drop i)) ∧ (i = 0 → e = -1) ∧ ∀ p, 0 < i → L[i - 1]? = some p → e = p.f + p.m ∧ 0 ≤ p.f ∧ p.f ≤ 4096 ∧ 1 ≤ p.m ∧ p.m ≤ 4097) := hI
  change GK _ _ [(0, .slice A n c), (3, .int .i64 (i : Int))] [] [sl A 2 RE L]
  obtain ⟨hi, hq, e0, ep⟩ := hI
  by_cases hlt : i < n
  · obtain ⟨r, hr⟩ : ∃ r, L[i]? = some r := ⟨L[i], List.getElem?_eq_getElem (by omega)⟩
    have hst := right_step hq hr
    refine gk_elem (enc := RE) (L := L) i mE (by omega) (by decide) (fun b o y eA hy => ?_)
    subst eA
    obtain rfl : r = y := by rw [hr] at hy; exact Option.some.inj hy
    by_cases hb : r.m < 1 ∨ 4097 < r.m ∨ r.f < 0 ∨ 4096 < r.f
    · have hno : tB (rightE (-1) L) = false := tB_false fun h => by
        obtain ⟨o1, o2, o3, o4, o5⟩ := (hst.1 h).1
        omega
      (repeat' (first | (refine gG ?_; try intro _) | ((first | refine g_split rfl rfl tE (fun _ => ?_) (fun _ => ?_) | refine gk_cond rfl rfl tE (fun _ => ?_) (fun _ => ?_)) <;> (try first | (exfalso; omega; done) | (rename_i hx; exact absurd rfl hx) | (rename_i hx; cases hx; done)))))
      all_goals (refine gk_ret hT rfl rfl (.tmp rfl .nil) (fun w' hk => ?_); exact ⟨by rw [hno]; rfl, hk.toBelow⟩)
    · (repeat' (first | (refine gG ?_; try intro _) | ((first | refine g_split rfl rfl tE (fun _ => ?_) (fun _ => ?_) | refine gk_cond rfl rfl tE (fun _ => ?_) (fun _ => ?_)) <;> (try first | (exfalso; omega; done) | (rename_i hx; exact absurd rfl hx) | (rename_i hx; cases hx; done)))))
      rcases Nat.eq_zero_or_pos i with h0 | h0
      · have he := e0 h0
        have hst2 : rightE (-1) L ↔ rightE (r.f + r.m) (L.drop (i + 1)) := hst.trans ⟨fun h => h.2, fun h => ⟨⟨by omega, by omega, by omega, by omega, by omega⟩, h⟩⟩
        refine gk_any [0] (Cut _ (fun _ : Unit => [(0, .slice (some ⟨b, o, none⟩) n c), (3, .int .i64 (i : Int)), (62, .bool false)]) (fun _ => []) (fun _ => [sl (some ⟨b, o, none⟩) 2 RE L])) rfl rfl (by kernel_rfl) ?_ (cut_k fun _ => ?_)
        · skip
          refine gb_take 0 rfl (by decide +kernel) rfl rfl (ys_ev (nw := true) hT rfl sI) sF ?_
          refine gb_take 1 rfl (by decide +kernel) rfl rfl (ys_ev (nw := true) hT rfl sI) sF ?_
          refine gb_take 2 rfl (by decide +kernel) rfl rfl (ys_ev (nw := true) hT rfl sI) sF ?_
          try (refine gb_say 42 (.bool false) rfl (congrArg Value.bool (tB_false (by omega))) ?_)
          first | refine gb_take 3 rfl (by decide +kernel) rfl rfl (ys_ev (nw := true) hT rfl sI) sF ?_ | refine gb_skip 3 rfl (by decide +kernel) rfl rfl sF ?_
          first | refine gb_take 4 rfl (by decide +kernel) rfl rfl (ys_ev (nw := true) hT rfl sI) sF ?_ | refine gb_skip 4 rfl (by decide +kernel) rfl rfl sF ?_
          first | refine gb_take 5 rfl (by decide +kernel) rfl rfl (ys_ev (nw := true) hT rfl sI) sF ?_ | refine gb_skip 5 rfl (by decide +kernel) rfl rfl sF ?_
          first | refine gb_take 6 rfl (by decide +kernel) rfl rfl (ys_ev (nw := true) hT rfl sI) sF ?_ | refine gb_skip 6 rfl (by decide +kernel) rfl rfl sF ?_
          first | refine gb_take 7 rfl (by decide +kernel) rfl rfl (by first | exact ys_blk hT rfl rfl mE rfl rfl | exact ys_row hT rfl rfl mE rfl rfl | exact ys_row0 hT rfl rfl mE rfl rfl) sF ?_ | refine gb_skip 7 rfl (by decide +kernel) rfl rfl sF ?_
          first | refine gb_take 8 rfl (by decide +kernel) rfl rfl (ys_ev (nw := true) hT rfl sI) sF ?_ | refine gb_skip 8 rfl (by decide +kernel) rfl rfl sF ?_
          first | refine gb_take 9 rfl (by decide +kernel) rfl rfl (ys_ev (nw := true) hT rfl sI) sF ?_ | refine gb_skip 9 rfl (by decide +kernel) rfl rfl sF ?_
          first | refine gb_take 10 rfl (by decide +kernel) rfl rfl (ys_ev (nw := true) hT rfl sI) sF ?_ | refine gb_skip 10 rfl (by decide +kernel) rfl rfl sF ?_
          first | refine gb_take 11 rfl (by decide +kernel) rfl rfl (ys_ev (nw := true) hT rfl sI) sF ?_ | refine gb_skip 11 rfl (by decide +kernel) rfl rfl sF ?_
          first | refine gb_take 12 rfl (by decide +kernel) rfl rfl (ys_ev (nw := true) hT rfl sI) sF ?_ | refine gb_skip 12 rfl (by decide +kernel) rfl rfl sF ?_
          first | refine gb_take 13 rfl (by decide +kernel) rfl rfl (by first | exact ys_blk hT rfl rfl mE rfl rfl | exact ys_row hT rfl rfl mE rfl rfl | exact ys_row0 hT rfl rfl mE rfl rfl) sF ?_ | refine gb_skip 13 rfl (by decide +kernel) rfl rfl sF ?_
          first | refine gb_take 14 rfl (by decide +kernel) rfl rfl (ys_ev (nw := true) hT rfl sI) sF ?_ | refine gb_skip 14 rfl (by decide +kernel) rfl rfl sF ?_
          first | refine gb_take 15 rfl (by decide +kernel) rfl rfl (ys_ev (nw := true) hT rfl sI) sF ?_ | refine gb_skip 15 rfl (by decide +kernel) rfl rfl sF ?_
          first | refine gb_take 16 rfl (by decide +kernel) rfl rfl (ys_ev (nw := true) hT rfl sI) sF ?_ | refine gb_skip 16 rfl (by decide +kernel) rfl rfl sF ?_
          first | refine gb_take 17 rfl (by decide +kernel) rfl rfl (ys_ev (nw := true) hT rfl sI) sF ?_ | refine gb_skip 17 rfl (by decide +kernel) rfl rfl sF ?_
          first | refine gb_take 18 rfl (by decide +kernel) rfl rfl (ys_ev (nw := true) hT rfl sI) sF ?_ | refine gb_skip 18 rfl (by decide +kernel) rfl rfl sF ?_
          first | refine gb_take 19 rfl (by decide +kernel) rfl rfl (by first | exact ys_blk hT rfl rfl mE rfl rfl | exact ys_row hT rfl rfl mE rfl rfl | exact ys_row0 hT rfl rfl mE rfl rfl) sF ?_ | refine gb_skip 19 rfl (by decide +kernel) rfl rfl sF ?_
          first | refine gb_take 20 rfl (by decide +kernel) rfl rfl (ys_ev (nw := true) hT rfl sI) sF ?_ | refine gb_skip 20 rfl (by decide +kernel) rfl rfl sF ?_
          first | refine gb_take 21 rfl (by decide +kernel) rfl rfl (ys_ev (nw := true) hT rfl sI) sF ?_ | refine gb_skip 21 rfl (by decide +kernel) rfl rfl sF ?_
          refine gb_take 22 rfl (by decide +kernel) rfl rfl (ys_ev (nw := true) hT rfl sI) sF ?_
          refine gb_nil (by decide +kernel) ?_
          exact ⟨(), (by repeat (first | exact trivial | refine ⟨rfl, ?_⟩)), sA, sS⟩
        · (repeat (refine gG ?_; try intro _))
          refine gk_say 3 (.int .i64 ((i + 1 : Nat) : Int)) rfl (by first | (congr 1; done) | (congr 1; omega)) ?_
          refine gk_again_sel rfl (i + 1, r.f + r.m) ⟨by omega, hst2, fun h => absurd h (Nat.succ_ne_zero i), fun p _ hp => by
            have hp' : L[i]? = some p := hp
            rw [hr] at hp'
            injection hp' with hp'
            subst hp'
            exact ⟨rfl, by omega, by omega, by omega, by omega⟩⟩ (by dsimp only; omega) (by repeat (first | exact trivial | refine ⟨rfl, ?_⟩)) sA sS
      · obtain ⟨p, hp⟩ : ∃ p, L[i - 1]? = some p := ⟨L[i - 1], List.getElem?_eq_getElem (by omega)⟩
        obtain ⟨he, p1, p2, p3, p4⟩ := ep p h0 hp
        refine gk_elem (enc := RE) (L := L) (i - 1) mE (by omega) (by decide) (fun b2 o2 y2 eA2 hy2 => ?_)
        injection eA2 with eA2
        injection eA2 with eb eo _
        subst eb
        subst eo
        obtain rfl : p = y2 := by rw [hp] at hy2; exact Option.some.inj hy2
        by_cases hle : r.f ≤ p.f + p.m
        · have hno : tB (rightE (-1) L) = false := tB_false fun h => by
            obtain ⟨o1, o2, o3, o4, o5⟩ := (hst.1 h).1
            omega
          refine gk_any [0, 1] (Cut _ (fun _ : Unit => [(62, .bool true)]) (fun _ => []) (fun _ => [])) rfl rfl (by kernel_rfl) ?_ (cut_k fun _ => ?_)
          · skip
            refine gb_take 0 rfl (by decide +kernel) rfl rfl (ys_ev (nw := true) hT rfl sI) sF ?_
            refine gb_take 1 rfl (by decide +kernel) rfl rfl (ys_ev (nw := true) hT rfl sI) sF ?_
            refine gb_take 2 rfl (by decide +kernel) rfl rfl (ys_ev (nw := true) hT rfl sI) sF ?_
            try (refine gb_say 42 (.bool true) rfl (congrArg Value.bool (tB_true (by omega))) ?_)
            first | refine gb_take 3 rfl (by decide +kernel) rfl rfl (ys_ev (nw := true) hT rfl sI) sF ?_ | refine gb_skip 3 rfl (by decide +kernel) rfl rfl sF ?_
            first | refine gb_take 4 rfl (by decide +kernel) rfl rfl (ys_ev (nw := true) hT rfl sI) sF ?_ | refine gb_skip 4 rfl (by decide +kernel) rfl rfl sF ?_
            first | refine gb_take 5 rfl (by decide +kernel) rfl rfl (ys_ev (nw := true) hT rfl sI) sF ?_ | refine gb_skip 5 rfl (by decide +kernel) rfl rfl sF ?_
            first | refine gb_take 6 rfl (by decide +kernel) rfl rfl (ys_ev (nw := true) hT rfl sI) sF ?_ | refine gb_skip 6 rfl (by decide +kernel) rfl rfl sF ?_
            first | refine gb_take 7 rfl (by decide +kernel) rfl rfl (by first | exact ys_blk hT rfl rfl mE rfl rfl | exact ys_row hT rfl rfl mE rfl rfl | exact ys_row0 hT rfl rfl mE rfl rfl) sF ?_ | refine gb_skip 7 rfl (by decide +kernel) rfl rfl sF ?_
            first | refine gb_take 8 rfl (by decide +kernel) rfl rfl (ys_ev (nw := true) hT rfl sI) sF ?_ | refine gb_skip 8 rfl (by decide +kernel) rfl rfl sF ?_
            first | refine gb_take 9 rfl (by decide +kernel) rfl rfl (ys_ev (nw := true) hT rfl sI) sF ?_ | refine gb_skip 9 rfl (by decide +kernel) rfl rfl sF ?_
            first | refine gb_take 10 rfl (by decide +kernel) rfl rfl (ys_ev (nw := true) hT rfl sI) sF ?_ | refine gb_skip 10 rfl (by decide +kernel) rfl rfl sF ?_
            try (refine gb_say 50 (.int .i64 ((i - 1 : Nat) : Int)) rfl (by first | (congr 1; done) | (congr 1; omega)) ?_)
            first | refine gb_take 11 rfl (by decide +kernel) rfl rfl (ys_ev (nw := true) hT rfl sI) sF ?_ | refine gb_skip 11 rfl (by decide +kernel) rfl rfl sF ?_
            first | refine gb_take 12 rfl (by decide +kernel) rfl rfl (ys_ev (nw := true) hT rfl sI) sF ?_ | refine gb_skip 12 rfl (by decide +kernel) rfl rfl sF ?_
            first | refine gb_take 13 rfl (by decide +kernel) rfl rfl (by first | exact ys_blk hT rfl rfl mE rfl rfl | exact ys_row hT rfl rfl mE rfl rfl | exact ys_row0 hT rfl rfl mE rfl rfl) sF ?_ | refine gb_skip 13 rfl (by decide +kernel) rfl rfl sF ?_
            first | refine gb_take 14 rfl (by decide +kernel) rfl rfl (ys_ev (nw := true) hT rfl sI) sF ?_ | refine gb_skip 14 rfl (by decide +kernel) rfl rfl sF ?_
            first | refine gb_take 15 rfl (by decide +kernel) rfl rfl (ys_ev (nw := true) hT rfl sI) sF ?_ | refine gb_skip 15 rfl (by decide +kernel) rfl rfl sF ?_
            first | refine gb_take 16 rfl (by decide +kernel) rfl rfl (ys_ev (nw := true) hT rfl sI) sF ?_ | refine gb_skip 16 rfl (by decide +kernel) rfl rfl sF ?_
            try (refine gb_say 56 (.int .i64 ((i - 1 : Nat) : Int)) rfl (by first | (congr 1; done) | (congr 1; omega)) ?_)
            first | refine gb_take 17 rfl (by decide +kernel) rfl rfl (ys_ev (nw := true) hT rfl sI) sF ?_ | refine gb_skip 17 rfl (by decide +kernel) rfl rfl sF ?_
            first | refine gb_take 18 rfl (by decide +kernel) rfl rfl (ys_ev (nw := true) hT rfl sI) sF ?_ | refine gb_skip 18 rfl (by decide +kernel) rfl rfl sF ?_
            first | refine gb_take 19 rfl (by decide +kernel) rfl rfl (by first | exact ys_blk hT rfl rfl mE rfl rfl | exact ys_row hT rfl rfl mE rfl rfl | exact ys_row0 hT rfl rfl mE rfl rfl) sF ?_ | refine gb_skip 19 rfl (by decide +kernel) rfl rfl sF ?_
            first | refine gb_take 20 rfl (by decide +kernel) rfl rfl (ys_ev (nw := true) hT rfl sI) sF ?_ | refine gb_skip 20 rfl (by decide +kernel) rfl rfl sF ?_
            first | refine gb_take 21 rfl (by decide +kernel) rfl rfl (ys_ev (nw := true) hT rfl sI) sF ?_ | refine gb_skip 21 rfl (by decide +kernel) rfl rfl sF ?_
            try (refine gb_say 61 (.bool true) rfl (congrArg Value.bool (tB_true hle)) ?_)
            refine gb_take 22 rfl (by decide +kernel) rfl rfl (ys_ev (nw := true) hT rfl sI) sF ?_
            refine gb_nil (by decide +kernel) ?_
            exact ⟨(), (by repeat (first | exact trivial | refine ⟨rfl, ?_⟩)), sA, sS⟩
          · (repeat (refine gG ?_; try intro _))
            refine gk_ret hT rfl rfl (.tmp rfl .nil) (fun w' hk => ?_)
            exact ⟨by rw [hno]; rfl, hk.toBelow⟩
        · have hst2 : rightE (-1) L ↔ rightE (r.f + r.m) (L.drop (i + 1)) := hst.trans ⟨fun h => h.2, fun h => ⟨⟨by omega, by omega, by omega, by omega, by omega⟩, h⟩⟩
          refine gk_any [0, 1] (Cut _ (fun _ : Unit => [(0, .slice (some ⟨b, o, none⟩) n c), (3, .int .i64 (i : Int)), (62, .bool false)]) (fun _ => []) (fun _ => [sl (some ⟨b, o, none⟩) 2 RE L])) rfl rfl (by kernel_rfl) ?_ (cut_k fun _ => ?_)
          · skip
            refine gb_take 0 rfl (by decide +kernel) rfl rfl (ys_ev (nw := true) hT rfl sI) sF ?_
            refine gb_take 1 rfl (by decide +kernel) rfl rfl (ys_ev (nw := true) hT rfl sI) sF ?_
            refine gb_take 2 rfl (by decide +kernel) rfl rfl (ys_ev (nw := true) hT rfl sI) sF ?_
            try (refine gb_say 42 (.bool true) rfl (congrArg Value.bool (tB_true (by omega))) ?_)
            first | refine gb_take 3 rfl (by decide +kernel) rfl rfl (ys_ev (nw := true) hT rfl sI) sF ?_ | refine gb_skip 3 rfl (by decide +kernel) rfl rfl sF ?_
            first | refine gb_take 4 rfl (by decide +kernel) rfl rfl (ys_ev (nw := true) hT rfl sI) sF ?_ | refine gb_skip 4 rfl (by decide +kernel) rfl rfl sF ?_
            first | refine gb_take 5 rfl (by decide +kernel) rfl rfl (ys_ev (nw := true) hT rfl sI) sF ?_ | refine gb_skip 5 rfl (by decide +kernel) rfl rfl sF ?_
            first | refine gb_take 6 rfl (by decide +kernel) rfl rfl (ys_ev (nw := true) hT rfl sI) sF ?_ | refine gb_skip 6 rfl (by decide +kernel) rfl rfl sF ?_
            first | refine gb_take 7 rfl (by decide +kernel) rfl rfl (by first | exact ys_blk hT rfl rfl mE rfl rfl | exact ys_row hT rfl rfl mE rfl rfl | exact ys_row0 hT rfl rfl mE rfl rfl) sF ?_ | refine gb_skip 7 rfl (by decide +kernel) rfl rfl sF ?_
            first | refine gb_take 8 rfl (by decide +kernel) rfl rfl (ys_ev (nw := true) hT rfl sI) sF ?_ | refine gb_skip 8 rfl (by decide +kernel) rfl rfl sF ?_
            first | refine gb_take 9 rfl (by decide +kernel) rfl rfl (ys_ev (nw := true) hT rfl sI) sF ?_ | refine gb_skip 9 rfl (by decide +kernel) rfl rfl sF ?_
            first | refine gb_take 10 rfl (by decide +kernel) rfl rfl (ys_ev (nw := true) hT rfl sI) sF ?_ | refine gb_skip 10 rfl (by decide +kernel) rfl rfl sF ?_
            try (refine gb_say 50 (.int .i64 ((i - 1 : Nat) : Int)) rfl (by first | (congr 1; done) | (congr 1; omega)) ?_)
            first | refine gb_take 11 rfl (by decide +kernel) rfl rfl (ys_ev (nw := true) hT rfl sI) sF ?_ | refine gb_skip 11 rfl (by decide +kernel) rfl rfl sF ?_
            first | refine gb_take 12 rfl (by decide +kernel) rfl rfl (ys_ev (nw := true) hT rfl sI) sF ?_ | refine gb_skip 12 rfl (by decide +kernel) rfl rfl sF ?_
            first | refine gb_take 13 rfl (by decide +kernel) rfl rfl (by first | exact ys_blk hT rfl rfl mE rfl rfl | exact ys_row hT rfl rfl mE rfl rfl | exact ys_row0 hT rfl rfl mE rfl rfl) sF ?_ | refine gb_skip 13 rfl (by decide +kernel) rfl rfl sF ?_
            first | refine gb_take 14 rfl (by decide +kernel) rfl rfl (ys_ev (nw := true) hT rfl sI) sF ?_ | refine gb_skip 14 rfl (by decide +kernel) rfl rfl sF ?_
            first | refine gb_take 15 rfl (by decide +kernel) rfl rfl (ys_ev (nw := true) hT rfl sI) sF ?_ | refine gb_skip 15 rfl (by decide +kernel) rfl rfl sF ?_
            first | refine gb_take 16 rfl (by decide +kernel) rfl rfl (ys_ev (nw := true) hT rfl sI) sF ?_ | refine gb_skip 16 rfl (by decide +kernel) rfl rfl sF ?_
            try (refine gb_say 56 (.int .i64 ((i - 1 : Nat) : Int)) rfl (by first | (congr 1; done) | (congr 1; omega)) ?_)
            first | refine gb_take 17 rfl (by decide +kernel) rfl rfl (ys_ev (nw := true) hT rfl sI) sF ?_ | refine gb_skip 17 rfl (by decide +kernel) rfl rfl sF ?_
            first | refine gb_take 18 rfl (by decide +kernel) rfl rfl (ys_ev (nw := true) hT rfl sI) sF ?_ | refine gb_skip 18 rfl (by decide +kernel) rfl rfl sF ?_
            first | refine gb_take 19 rfl (by decide +kernel) rfl rfl (by first | exact ys_blk hT rfl rfl mE rfl rfl | exact ys_row hT rfl rfl mE rfl rfl | exact ys_row0 hT rfl rfl mE rfl rfl) sF ?_ | refine gb_skip 19 rfl (by decide +kernel) rfl rfl sF ?_
            first | refine gb_take 20 rfl (by decide +kernel) rfl rfl (ys_ev (nw := true) hT rfl sI) sF ?_ | refine gb_skip 20 rfl (by decide +kernel) rfl rfl sF ?_
            first | refine gb_take 21 rfl (by decide +kernel) rfl rfl (ys_ev (nw := true) hT rfl sI) sF ?_ | refine gb_skip 21 rfl (by decide +kernel) rfl rfl sF ?_
            try (refine gb_say 61 (.bool false) rfl (congrArg Value.bool (tB_false hle)) ?_)
            refine gb_take 22 rfl (by decide +kernel) rfl rfl (ys_ev (nw := true) hT rfl sI) sF ?_
            refine gb_nil (by decide +kernel) ?_
            exact ⟨(), (by repeat (first | exact trivial | refine ⟨rfl, ?_⟩)), sA, sS⟩
          · (repeat (refine gG ?_; try intro _))
            refine gk_say 3 (.int .i64 ((i + 1 : Nat) : Int)) rfl (by first | (congr 1; done) | (congr 1; omega)) ?_
            refine gk_again_sel rfl (i + 1, r.f + r.m) ⟨by omega, hst2, fun h => absurd h (Nat.succ_ne_zero i), fun p _ hp => by
              have hp' : L[i]? = some p := hp
              rw [hr] at hp'
              injection hp' with hp'
              subst hp'
              exact ⟨rfl, by omega, by omega, by omega, by omega⟩⟩ (by dsimp only; omega) (by repeat (first | exact trivial | refine ⟨rfl, ?_⟩)) sA sS
  · have hyes : tB (rightE (-1) L) = true := tB_true (hq.2 (by rw [List.drop_of_length_le (by omega)]; exact trivial))
    (repeat' (first | (refine gG ?_; try intro _) | ((first | refine g_split rfl rfl tE (fun _ => ?_) (fun _ => ?_) | refine gk_cond rfl rfl tE (fun _ => ?_) (fun _ => ?_)) <;> (try first | (exfalso; omega; done) | (rename_i hx; exact absurd rfl hx) | (rename_i hx; cases hx; done)))))
    refine gk_ret hT rfl rfl (.tmp rfl .nil) (fun w' hk => ?_)
    exact ⟨by rw [hyes]; rfl, hk.toBelow⟩
end Go.Proofs.Ytmehbhabheokbaa.Ex

