/- The statement's text; the longest run. -/
import Derived.Test.YtmehbhabheokbaaEx5
namespace Go.Proofs.Ytmehbhabheokbaa.Ex
open Go.RowKit Mem Gx Dd
set_option linter.unusedVariables false
set_option linter.unusedSimpArgs false
set_option maxRecDepth 100000
set_option maxHeartbeats 1000000
theorem ltext_any (A : Option Addr) (n c : Nat) (L : List RunD) (w : World) (hn : n = L.length) (h9 : n ≤ 1000) (hr : rightE (-1) L) (hs : Rd1 w (sl A 2 RE L)) :
    Calls Try.prog 53 [.slice A n c].toArray w fun e w' => e = .returned (.string (strOfNums (txt L))) ∧ Below w.heap.size w w' := by
  refine g_enter0 T [] [] [sl A 2 RE L] Try.func53 rfl Try.ntmps53 rfl (Rds.cons hs .nil).kn ?_
  have hm := rightE_m hr
  (repeat (refine gG ?_; try intro _))
  refine gk_loop_sel (fun (q : Nat × Unit) => match q with | (i, z) => (i ≤ n)) (fun (q : Nat × Unit) => match q with | (i, z) => [(0, .slice A n c), (3, .string (strOfNums (txtN L i))), (4, .int .i64 (i : Int))]) (fun (q : Nat × Unit) => match q with | (i, z) => []) (fun (q : Nat × Unit) => match q with | (i, z) => [sl A 2 RE L]) (fun (q : Nat × Unit) => match q with | (i, z) => n - i) (0, ()) rfl (Nat.zero_le _) (by repeat (first | exact trivial | refine ⟨rfl, ?_⟩)) sA sS ?_
  rintro ⟨i, z⟩ hI
  replace hI : (i ≤ n) := hI
  change GK _ _ [(0, .slice A n c), (3, .string (strOfNums (txtN L i))), (4, .int .i64 (i : Int))] [] [sl A 2 RE L]
  by_cases hlt : i < n
  · obtain ⟨r, hr⟩ : ∃ r, L[i]? = some r := ⟨L[i], List.getElem?_eq_getElem (by omega)⟩
    have hmr := hm r (List.mem_of_getElem? hr)
    have hlen := txtN_len hm i (by omega)
    have hst := txtN_step hr
    have hl1 := dgs_len5 (n := r.f.toNat) (by omega)
    have hl2 := dgs_len5 (n := (r.f + r.m - 1).toNat) (by omega)
    refine gk_elem (enc := RE) (L := L) i mE (by omega) (by decide) (fun b o y eA hy => ?_)
    subst eA
    obtain rfl : r = y := by rw [hr] at hy; exact Option.some.inj hy
    generalize txtN L i = M at hlen hst ⊢
    generalize hC : (if 0 < i then [44] else [] : List Int) = C at hst
    have hCl : C.length ≤ 1 := by rw [← hC]; split <;> simp
    rcases Nat.eq_zero_or_pos i with h0 | h0
    · have hC0 : C = [] := by rw [← hC, if_neg (by omega)]
      obtain ⟨P, hP⟩ : ∃ P, P = M ++ C := ⟨_, rfl⟩
      have hPl : P.length ≤ 10 * i + 1 := by rw [hP, List.length_append]; omega
      rw [show M = P by rw [hP, hC0, List.append_nil]]
      (repeat' (first | (refine gG ?_; try intro _) | ((first | refine g_split rfl rfl tE (fun _ => ?_) (fun _ => ?_) | refine gk_cond rfl rfl tE (fun _ => ?_) (fun _ => ?_)) <;> (try first | (exfalso; omega; done) | (rename_i hx; exact absurd rfl hx) | (rename_i hx; cases hx; done)))))
      refine g_say 21 (.int .u64 ((r.f.toNat : Nat) : Int)) rfl (by show Value.int .u64 _ = Value.int .u64 _; congr 1; omega) ?_
      refine g_mv rfl (mv_call_bel (fun w hk => rnum_any r.f.toNat (by omega) w) rfl rfl rfl rfl rfl (by kernel_rfl) ?_)
      (repeat (refine gG ?_; try intro _))
      refine g_yd rfl rfl (Ys.yd (ys_sx_add (L := P) (M := dgs r.f.toNat) rfl rfl rfl rfl rfl (by omega))) ?_
      by_cases h1 : 1 < r.m
      · have hR : txtR r = dgs r.f.toNat ++ 45 :: dgs (r.f + r.m - 1).toNat := by unfold txtR; rw [if_pos h1]
        (repeat' (first | (refine gG ?_; try intro _) | ((first | refine g_split rfl rfl tE (fun _ => ?_) (fun _ => ?_) | refine gk_cond rfl rfl tE (fun _ => ?_) (fun _ => ?_)) <;> (try first | (exfalso; omega; done) | (rename_i hx; exact absurd rfl hx) | (rename_i hx; cases hx; done)))))
        refine gk_any [0] (Cut _ (fun _ : Unit => [(0, .slice (some ⟨b, o, none⟩) n c), (3, .string (strOfNums ((P ++ dgs r.f.toNat) ++ ([45] ++ dgs (r.f + r.m - 1).toNat)))), (4, .int .i64 (i : Int))]) (fun _ => []) (fun _ => [sl (some ⟨b, o, none⟩) 2 RE L])) rfl rfl (by kernel_rfl) ?_ (cut_k fun _ => ?_)
        · skip
          refine gb_take 0 rfl (by decide +kernel) rfl rfl (ys_ev (nw := true) hT rfl sI) sF ?_
          refine gb_take 1 rfl (by decide +kernel) rfl rfl (ys_ev (nw := true) hT rfl sI) sF ?_
          refine gb_take 2 rfl (by decide +kernel) rfl rfl (ys_ev (nw := true) hT rfl sI) sF ?_
          refine gb_take 3 rfl (by decide +kernel) rfl rfl (ys_ev (nw := true) hT rfl sI) sF ?_
          refine gb_take 4 rfl (by decide +kernel) rfl rfl (ys_ev (nw := true) hT rfl sI) sF ?_
          refine gb_take 5 rfl (by decide +kernel) rfl rfl (by first | exact ys_blk hT rfl rfl mE rfl rfl | exact ys_row hT rfl rfl mE rfl rfl | exact ys_row0 hT rfl rfl mE rfl rfl) sF ?_
          refine gb_take 6 rfl (by decide +kernel) rfl rfl (ys_ev (nw := true) hT rfl sI) sF ?_
          refine gb_take 7 rfl (by decide +kernel) rfl rfl (ys_ev (nw := true) hT rfl sI) sF ?_
          refine gb_take 8 rfl (by decide +kernel) rfl rfl (ys_ev (nw := true) hT rfl sI) sF ?_
          refine gb_take 9 rfl (by decide +kernel) rfl rfl (ys_ev (nw := true) hT rfl sI) sF ?_
          refine gb_take 10 rfl (by decide +kernel) rfl rfl (by first | exact ys_blk hT rfl rfl mE rfl rfl | exact ys_row hT rfl rfl mE rfl rfl | exact ys_row0 hT rfl rfl mE rfl rfl) sF ?_
          refine gb_take 11 rfl (by decide +kernel) rfl rfl (ys_ev (nw := true) hT rfl sI) sF ?_
          refine gb_take 12 rfl (by decide +kernel) rfl rfl (ys_ev (nw := true) hT rfl sI) sF ?_
          refine gb_take 13 rfl (by decide +kernel) rfl rfl (ys_ev (nw := true) hT rfl sI) sF ?_
          try (refine gb_say 43 (.int .u64 (((r.f + r.m - 1).toNat : Nat) : Int)) rfl (by show Value.int .u64 _ = Value.int .u64 _; congr 1; omega) ?_)
          refine gb_only 14 (by decide +kernel) rfl rfl ?_
          refine mv_call_bel (fun w hk => rnum_any (r.f + r.m - 1).toNat (by omega) w) rfl rfl rfl rfl rfl (by kernel_rfl) ?_
          refine ⟨sF, ?_⟩
          refine gb_take 15 rfl (by decide +kernel) rfl rfl (ys_sx_add (L := [45]) (M := dgs (r.f + r.m - 1).toNat) rfl rfl rfl rfl rfl (by simp only [List.length_cons, List.length_nil]; omega)) sF ?_
          refine gb_take 16 rfl (by decide +kernel) rfl rfl (ys_sx_add (L := P ++ dgs r.f.toNat) (M := [45] ++ dgs (r.f + r.m - 1).toNat) rfl rfl rfl rfl rfl (by simp only [List.length_append, List.length_cons, List.length_nil]; omega)) sF ?_
          refine gb_take 17 rfl (by decide +kernel) rfl rfl (ys_ev (nw := true) hT rfl sI) sF ?_
          refine gb_nil (by decide +kernel) ?_
          exact ⟨(), (by repeat (first | exact trivial | refine ⟨rfl, ?_⟩)), sA, sS⟩
        · (repeat (refine gG ?_; try intro _))
          refine gk_say 4 (.int .i64 ((i + 1 : Nat) : Int)) rfl (by first | (congr 1; done) | (congr 1; omega)) ?_
          refine gk_say 3 (.string (strOfNums (txtN L (i + 1)))) rfl (by rw [hst, hR, ← List.append_assoc M, ← hP]; simp only [List.append_assoc, List.singleton_append]) ?_
          refine gk_again_sel rfl (i + 1, ()) (by omega) (by dsimp only; omega) (by repeat (first | exact trivial | refine ⟨rfl, ?_⟩)) sA sS
      · have hR : txtR r = dgs r.f.toNat := by unfold txtR; rw [if_neg h1, List.append_nil]
        (repeat' (first | (refine gG ?_; try intro _) | ((first | refine g_split rfl rfl tE (fun _ => ?_) (fun _ => ?_) | refine gk_cond rfl rfl tE (fun _ => ?_) (fun _ => ?_)) <;> (try first | (exfalso; omega; done) | (rename_i hx; exact absurd rfl hx) | (rename_i hx; cases hx; done)))))
        refine gk_say 4 (.int .i64 ((i + 1 : Nat) : Int)) rfl (by first | (congr 1; done) | (congr 1; omega)) ?_
        refine gk_say 3 (.string (strOfNums (txtN L (i + 1)))) rfl (by rw [hst, hR, ← List.append_assoc M, ← hP]) ?_
        refine gk_again_sel rfl (i + 1, ()) (by omega) (by dsimp only; omega) (by repeat (first | exact trivial | refine ⟨rfl, ?_⟩)) sA sS
    · have hC0 : C = [44] := by rw [← hC, if_pos h0]
      obtain ⟨P, hP⟩ : ∃ P, P = M ++ C := ⟨_, rfl⟩
      have hPl : P.length ≤ 10 * i + 1 := by rw [hP, List.length_append]; omega
      (repeat' (first | (refine gG ?_; try intro _) | ((first | refine g_split rfl rfl tE (fun _ => ?_) (fun _ => ?_) | refine gk_cond rfl rfl tE (fun _ => ?_) (fun _ => ?_)) <;> (try first | (exfalso; omega; done) | (rename_i hx; exact absurd rfl hx) | (rename_i hx; cases hx; done)))))
      refine g_yd rfl rfl (Ys.yd (ys_sx_add (L := M) (M := [44]) rfl rfl rfl rfl rfl (by simp only [List.length_cons, List.length_nil]; omega))) ?_
      rw [show M ++ [44] = P by rw [hP, hC0]]
      (repeat (refine gG ?_; try intro _))
      refine g_say 21 (.int .u64 ((r.f.toNat : Nat) : Int)) rfl (by show Value.int .u64 _ = Value.int .u64 _; congr 1; omega) ?_
      refine g_mv rfl (mv_call_bel (fun w hk => rnum_any r.f.toNat (by omega) w) rfl rfl rfl rfl rfl (by kernel_rfl) ?_)
      (repeat (refine gG ?_; try intro _))
      refine g_yd rfl rfl (Ys.yd (ys_sx_add (L := P) (M := dgs r.f.toNat) rfl rfl rfl rfl rfl (by omega))) ?_
      by_cases h1 : 1 < r.m
      · have hR : txtR r = dgs r.f.toNat ++ 45 :: dgs (r.f + r.m - 1).toNat := by unfold txtR; rw [if_pos h1]
        (repeat' (first | (refine gG ?_; try intro _) | ((first | refine g_split rfl rfl tE (fun _ => ?_) (fun _ => ?_) | refine gk_cond rfl rfl tE (fun _ => ?_) (fun _ => ?_)) <;> (try first | (exfalso; omega; done) | (rename_i hx; exact absurd rfl hx) | (rename_i hx; cases hx; done)))))
        refine gk_any [0] (Cut _ (fun _ : Unit => [(0, .slice (some ⟨b, o, none⟩) n c), (3, .string (strOfNums ((P ++ dgs r.f.toNat) ++ ([45] ++ dgs (r.f + r.m - 1).toNat)))), (4, .int .i64 (i : Int))]) (fun _ => []) (fun _ => [sl (some ⟨b, o, none⟩) 2 RE L])) rfl rfl (by kernel_rfl) ?_ (cut_k fun _ => ?_)
        · skip
          refine gb_take 0 rfl (by decide +kernel) rfl rfl (ys_ev (nw := true) hT rfl sI) sF ?_
          refine gb_take 1 rfl (by decide +kernel) rfl rfl (ys_ev (nw := true) hT rfl sI) sF ?_
          refine gb_take 2 rfl (by decide +kernel) rfl rfl (ys_ev (nw := true) hT rfl sI) sF ?_
          refine gb_take 3 rfl (by decide +kernel) rfl rfl (ys_ev (nw := true) hT rfl sI) sF ?_
          refine gb_take 4 rfl (by decide +kernel) rfl rfl (ys_ev (nw := true) hT rfl sI) sF ?_
          refine gb_take 5 rfl (by decide +kernel) rfl rfl (by first | exact ys_blk hT rfl rfl mE rfl rfl | exact ys_row hT rfl rfl mE rfl rfl | exact ys_row0 hT rfl rfl mE rfl rfl) sF ?_
          refine gb_take 6 rfl (by decide +kernel) rfl rfl (ys_ev (nw := true) hT rfl sI) sF ?_
          refine gb_take 7 rfl (by decide +kernel) rfl rfl (ys_ev (nw := true) hT rfl sI) sF ?_
          refine gb_take 8 rfl (by decide +kernel) rfl rfl (ys_ev (nw := true) hT rfl sI) sF ?_
          refine gb_take 9 rfl (by decide +kernel) rfl rfl (ys_ev (nw := true) hT rfl sI) sF ?_
          refine gb_take 10 rfl (by decide +kernel) rfl rfl (by first | exact ys_blk hT rfl rfl mE rfl rfl | exact ys_row hT rfl rfl mE rfl rfl | exact ys_row0 hT rfl rfl mE rfl rfl) sF ?_
          refine gb_take 11 rfl (by decide +kernel) rfl rfl (ys_ev (nw := true) hT rfl sI) sF ?_
          refine gb_take 12 rfl (by decide +kernel) rfl rfl (ys_ev (nw := true) hT rfl sI) sF ?_
          refine gb_take 13 rfl (by decide +kernel) rfl rfl (ys_ev (nw := true) hT rfl sI) sF ?_
          try (refine gb_say 43 (.int .u64 (((r.f + r.m - 1).toNat : Nat) : Int)) rfl (by show Value.int .u64 _ = Value.int .u64 _; congr 1; omega) ?_)
          refine gb_only 14 (by decide +kernel) rfl rfl ?_
          refine mv_call_bel (fun w hk => rnum_any (r.f + r.m - 1).toNat (by omega) w) rfl rfl rfl rfl rfl (by kernel_rfl) ?_
          refine ⟨sF, ?_⟩
          refine gb_take 15 rfl (by decide +kernel) rfl rfl (ys_sx_add (L := [45]) (M := dgs (r.f + r.m - 1).toNat) rfl rfl rfl rfl rfl (by simp only [List.length_cons, List.length_nil]; omega)) sF ?_
          refine gb_take 16 rfl (by decide +kernel) rfl rfl (ys_sx_add (L := P ++ dgs r.f.toNat) (M := [45] ++ dgs (r.f + r.m - 1).toNat) rfl rfl rfl rfl rfl (by simp only [List.length_append, List.length_cons, List.length_nil]; omega)) sF ?_
          refine gb_take 17 rfl (by decide +kernel) rfl rfl (ys_ev (nw := true) hT rfl sI) sF ?_
          refine gb_nil (by decide +kernel) ?_
          exact ⟨(), (by repeat (first | exact trivial | refine ⟨rfl, ?_⟩)), sA, sS⟩
        · (repeat (refine gG ?_; try intro _))
          refine gk_say 4 (.int .i64 ((i + 1 : Nat) : Int)) rfl (by first | (congr 1; done) | (congr 1; omega)) ?_
          refine gk_say 3 (.string (strOfNums (txtN L (i + 1)))) rfl (by rw [hst, hR, ← List.append_assoc M, ← hP]; simp only [List.append_assoc, List.singleton_append]) ?_
          refine gk_again_sel rfl (i + 1, ()) (by omega) (by dsimp only; omega) (by repeat (first | exact trivial | refine ⟨rfl, ?_⟩)) sA sS
      · have hR : txtR r = dgs r.f.toNat := by unfold txtR; rw [if_neg h1, List.append_nil]
        (repeat' (first | (refine gG ?_; try intro _) | ((first | refine g_split rfl rfl tE (fun _ => ?_) (fun _ => ?_) | refine gk_cond rfl rfl tE (fun _ => ?_) (fun _ => ?_)) <;> (try first | (exfalso; omega; done) | (rename_i hx; exact absurd rfl hx) | (rename_i hx; cases hx; done)))))
        refine gk_say 4 (.int .i64 ((i + 1 : Nat) : Int)) rfl (by first | (congr 1; done) | (congr 1; omega)) ?_
        refine gk_say 3 (.string (strOfNums (txtN L (i + 1)))) rfl (by rw [hst, hR, ← List.append_assoc M, ← hP]) ?_
        refine gk_again_sel rfl (i + 1, ()) (by omega) (by dsimp only; omega) (by repeat (first | exact trivial | refine ⟨rfl, ?_⟩)) sA sS
  · have ht : txtN L i = txt L := by unfold txt; congr 1; omega
    rw [ht]
    (repeat' (first | (refine gG ?_; try intro _) | ((first | refine g_split rfl rfl tE (fun _ => ?_) (fun _ => ?_) | refine gk_cond rfl rfl tE (fun _ => ?_) (fun _ => ?_)) <;> (try first | (exfalso; omega; done) | (rename_i hx; exact absurd rfl hx) | (rename_i hx; cases hx; done)))))
    refine gk_ret hT rfl rfl (.tmp rfl .nil) (fun w' hk => ?_)
    exact ⟨rfl, hk.toBelow⟩
/-- The first of the longest. -/
def bestN (L : List RunD) : Nat → RunD
  | 0 => ⟨0, 0⟩
  | k + 1 => (match L[k]? with
    | some r => if k = 0 ∨ (bestN L k).m < r.m then r else bestN L k
    | none => bestN L k)
theorem bestN_new {L : List RunD} {k : Nat} {r : RunD} (hr : L[k]? = some r) (h : k = 0 ∨ (bestN L k).m < r.m) : bestN L (k + 1) = r := by rw [bestN, hr]; simp only; rw [if_pos h]
theorem bestN_old {L : List RunD} {k : Nat} {r : RunD} (hr : L[k]? = some r) (h : ¬ (k = 0 ∨ (bestN L k).m < r.m)) : bestN L (k + 1) = bestN L k := by
  conv => lhs; rw [bestN, hr]
  simp only
  rw [if_neg h]
def Few (L : List RunD) (k : Nat) : Prop := ∀ (i : Nat) (r : RunD), i < k → L[i]? = some r → -1073741824 ≤ r.m ∧ r.m ≤ 1073741824
theorem bestN_few {L : List RunD} (n : Nat) (h : Few L n) (k : Nat) (hk : k ≤ n) : -1073741824 ≤ (bestN L k).m ∧ (bestN L k).m ≤ 1073741824 := by
  induction k with
  | zero => exact ⟨by show (-1073741824 : Int) ≤ 0; decide, by show (0 : Int) ≤ 1073741824; decide⟩
  | succ k ih =>
    have := ih (by omega)
    cases hr : L[k]? with
    | none => rw [bestN, hr]; exact this
    | some r =>
      by_cases hc : k = 0 ∨ (bestN L k).m < r.m
      · rw [bestN_new hr hc]; exact h k r (by omega) hr
      · rw [bestN_old hr hc]; exact this
abbrev RunD.val (r : RunD) : Value := .agg #[.int .i64 r.f, .int .i64 r.m]
theorem longC_any (x y : RunD) (w : World) (hx : -1073741824 ≤ x.m ∧ x.m ≤ 1073741824) (hy : -1073741824 ≤ y.m ∧ y.m ≤ 1073741824) : Calls Try.prog 109 [x.val, y.val].toArray w fun e w' => e = .returned (.int .i64 (x.m - y.m)) ∧ Below w.heap.size w w' := by
  refine g_enter0 T [] [] [] Try.func109 rfl Try.ntmps109 rfl (Kn.start _) ?_
  (repeat (refine gG ?_; try intro _))
  refine gk_ret hT rfl rfl (.tmp rfl .nil) (fun w' hk => ?_)
  exact ⟨rfl, hk.toBelow⟩
theorem maxF_any (A : Option Addr) (n c : Nat) (L : List RunD) (w : World) (hn : n = L.length) (h9 : n ≤ 1000) (h1 : 1 ≤ n) (hf : Few L n) (hs : Rd1 w (sl A 2 RE L)) :
    Calls Try.prog 108 [.slice A n c, .func (.func 109) #[] #[]].toArray w fun e w' => e = .returned (bestN L n).val ∧ Below w.heap.size w w' := by
  refine g_enter0 T [] [] [sl A 2 RE L] Try.func108 rfl Try.ntmps108 rfl (Rds.cons hs .nil).kn ?_
  obtain ⟨r0, hr0⟩ : ∃ r, L[0]? = some r := ⟨_, List.getElem?_eq_getElem (by omega)⟩
  refine gk_elem (enc := RE) (L := L) 0 mE (by omega) (by decide) (fun b o y eA hy => ?_)
  subst eA
  obtain rfl : r0 = y := by rw [hr0] at hy; exact Option.some.inj hy
  (repeat' (first | (refine gG ?_; try intro _) | ((first | refine g_split rfl rfl tE (fun _ => ?_) (fun _ => ?_) | refine gk_cond rfl rfl tE (fun _ => ?_) (fun _ => ?_)) <;> (try first | (exfalso; omega; done) | (rename_i hx; exact absurd rfl hx) | (rename_i hx; cases hx; done)))))
  rename_i g4 _ g5
  refine gk_loop_sel (fun (q : Nat × RunD) => match q with | (k, B) => (1 ≤ k ∧ k ≤ n ∧ B = bestN L k)) (fun (q : Nat × RunD) => match q with | (k, B) => [(0, .slice (some ⟨b, o, none⟩) n c), (1, .func (.func 109) #[] #[]), (4, .pointer (some ⟨g4, 0, none⟩)), (5, .pointer (some ⟨g5, 0, none⟩)), (6, .int .i64 (k : Int))]) (fun (q : Nat × RunD) => match q with | (k, B) => [blk g5 [.int .i64 B.f, .int .i64 B.m] 111, blk g4 [.int .i64 0, .int .i64 0] 111]) (fun (q : Nat × RunD) => match q with | (k, B) => [sl (some ⟨b, o, none⟩) 2 RE L]) (fun (q : Nat × RunD) => match q with | (k, B) => n - k) (1, r0) rfl ⟨Nat.le_refl _, h1, (bestN_new hr0 (.inl rfl)).symm⟩ (by repeat (first | exact trivial | refine ⟨rfl, ?_⟩)) sA sS ?_
  rintro ⟨k, B⟩ hI
  replace hI : (1 ≤ k ∧ k ≤ n ∧ B = bestN L k) := hI
  change GK _ _ [(0, .slice (some ⟨b, o, none⟩) n c), (1, .func (.func 109) #[] #[]), (4, .pointer (some ⟨g4, 0, none⟩)), (5, .pointer (some ⟨g5, 0, none⟩)), (6, .int .i64 (k : Int))] [blk g5 [.int .i64 B.f, .int .i64 B.m] 111, blk g4 [.int .i64 0, .int .i64 0] 111] [sl (some ⟨b, o, none⟩) 2 RE L]
  obtain ⟨k1, kn, hB⟩ := hI
  by_cases hk : k < n
  · obtain ⟨r, hr⟩ : ∃ r, L[k]? = some r := ⟨_, List.getElem?_eq_getElem (by omega)⟩
    have hrf := hf k r hk hr
    have hBf := bestN_few n hf k (by omega)
    rw [← hB] at hBf
    refine gk_elem (enc := RE) (L := L) k mE (by omega) (by decide) (fun b2 o2 y eA2 hy2 => ?_)
    injection eA2 with eA2
    injection eA2 with eb eo _
    subst eb
    subst eo
    obtain rfl : r = y := by rw [hr] at hy2; exact Option.some.inj hy2
    (repeat' (first | (refine gG ?_; try intro _) | ((first | refine g_split rfl rfl tE (fun _ => ?_) (fun _ => ?_) | refine gk_cond rfl rfl tE (fun _ => ?_) (fun _ => ?_)) <;> (try first | (exfalso; omega; done) | (rename_i hx; exact absurd rfl hx) | (rename_i hx; cases hx; done)))))
    by_cases hc : B.m < r.m
    · refine gk_any [0, 2] (Cut _ (fun _ : Unit => [(0, .slice (some ⟨b, o, none⟩) n c), (1, .func (.func 109) #[] #[]), (4, .pointer (some ⟨g4, 0, none⟩)), (5, .pointer (some ⟨g5, 0, none⟩)), (6, .int .i64 (k : Int)), (27, .bool true)]) (fun _ => [blk g5 [.int .i64 B.f, .int .i64 B.m] 111, blk g4 [.int .i64 0, .int .i64 0] 111]) (fun _ => [row b (o + k * 2) (encF RE r 0 2), sl (some ⟨b, o, none⟩) 2 RE L])) rfl rfl (by kernel_rfl) ?_ (cut_k fun _ => ?_)
      · skip
        refine gb_take 0 rfl (by decide +kernel) rfl rfl (ys_ev (nw := true) hT rfl sI) sF ?_
        refine gb_take 1 rfl (by decide +kernel) rfl rfl (ys_ev (nw := true) hT rfl sI) sF ?_
        refine gb_take 2 rfl (by decide +kernel) rfl rfl (ys_ev (nw := true) hT rfl sI) sF ?_
        refine gb_take 3 rfl (by decide +kernel) rfl rfl (ys_ev (nw := true) hT rfl sI) sF ?_
        refine gb_take 4 rfl (by decide +kernel) rfl rfl (by first | exact ys_blk hT rfl rfl mE rfl rfl | exact ys_row hT rfl rfl mE rfl rfl | exact ys_row0 hT rfl rfl mE rfl rfl) sF ?_
        refine gb_take 5 rfl (by decide +kernel) rfl rfl (by first | exact ys_blk hT rfl rfl mE rfl rfl | exact ys_row hT rfl rfl mE rfl rfl | exact ys_row0 hT rfl rfl mE rfl rfl) sF ?_
        refine gb_only 6 (by decide +kernel) rfl rfl ?_
        refine mv_call_bel (fun w hk => longC_any r B w hrf hBf) rfl rfl rfl rfl rfl (by kernel_rfl) ?_
        refine ⟨sF, ?_⟩
        refine gb_take 7 rfl (by decide +kernel) rfl rfl (ys_ev (nw := true) hT rfl sI) sF ?_
        try (refine gb_say 27 (.bool true) rfl (congrArg Value.bool (tB_true (by omega))) ?_)
        refine gb_nil (by decide +kernel) ?_
        exact ⟨(), (by repeat (first | exact trivial | refine ⟨rfl, ?_⟩)), sA, sS⟩
      · (repeat (refine gG ?_; try intro _))
        refine gk_say 6 (.int .i64 ((k + 1 : Nat) : Int)) rfl (by first | (congr 1; done) | (congr 1; omega)) ?_
        refine gk_again_sel rfl (k + 1, r) ⟨by omega, (by show k + 1 ≤ n; omega), (bestN_new hr (.inr (by rw [← hB]; exact hc))).symm⟩ (by dsimp only; omega) (by repeat (first | exact trivial | refine ⟨rfl, ?_⟩)) sA sS
    · refine gk_any [0, 2] (Cut _ (fun _ : Unit => [(0, .slice (some ⟨b, o, none⟩) n c), (1, .func (.func 109) #[] #[]), (4, .pointer (some ⟨g4, 0, none⟩)), (5, .pointer (some ⟨g5, 0, none⟩)), (6, .int .i64 (k : Int)), (27, .bool false)]) (fun _ => [blk g5 [.int .i64 B.f, .int .i64 B.m] 111, blk g4 [.int .i64 0, .int .i64 0] 111]) (fun _ => [sl (some ⟨b, o, none⟩) 2 RE L])) rfl rfl (by kernel_rfl) ?_ (cut_k fun _ => ?_)
      · skip
        refine gb_take 0 rfl (by decide +kernel) rfl rfl (ys_ev (nw := true) hT rfl sI) sF ?_
        refine gb_take 1 rfl (by decide +kernel) rfl rfl (ys_ev (nw := true) hT rfl sI) sF ?_
        refine gb_take 2 rfl (by decide +kernel) rfl rfl (ys_ev (nw := true) hT rfl sI) sF ?_
        refine gb_take 3 rfl (by decide +kernel) rfl rfl (ys_ev (nw := true) hT rfl sI) sF ?_
        refine gb_take 4 rfl (by decide +kernel) rfl rfl (by first | exact ys_blk hT rfl rfl mE rfl rfl | exact ys_row hT rfl rfl mE rfl rfl | exact ys_row0 hT rfl rfl mE rfl rfl) sF ?_
        refine gb_take 5 rfl (by decide +kernel) rfl rfl (by first | exact ys_blk hT rfl rfl mE rfl rfl | exact ys_row hT rfl rfl mE rfl rfl | exact ys_row0 hT rfl rfl mE rfl rfl) sF ?_
        refine gb_only 6 (by decide +kernel) rfl rfl ?_
        refine mv_call_bel (fun w hk => longC_any r B w hrf hBf) rfl rfl rfl rfl rfl (by kernel_rfl) ?_
        refine ⟨sF, ?_⟩
        refine gb_take 7 rfl (by decide +kernel) rfl rfl (ys_ev (nw := true) hT rfl sI) sF ?_
        try (refine gb_say 27 (.bool false) rfl (congrArg Value.bool (tB_false (by omega))) ?_)
        refine gb_nil (by decide +kernel) ?_
        exact ⟨(), (by repeat (first | exact trivial | refine ⟨rfl, ?_⟩)), sA, sS⟩
      · (repeat (refine gG ?_; try intro _))
        refine gk_say 6 (.int .i64 ((k + 1 : Nat) : Int)) rfl (by first | (congr 1; done) | (congr 1; omega)) ?_
        refine gk_again_sel rfl (k + 1, B) ⟨by omega, (by show k + 1 ≤ n; omega), hB.trans (bestN_old hr (by rw [← hB]; omega)).symm⟩ (by dsimp only; omega) (by repeat (first | exact trivial | refine ⟨rfl, ?_⟩)) sA sS
  · have hkn : k = n := by omega
    subst hkn
    (repeat' (first | (refine gG ?_; try intro _) | ((first | refine g_split rfl rfl tE (fun _ => ?_) (fun _ => ?_) | refine gk_cond rfl rfl tE (fun _ => ?_) (fun _ => ?_)) <;> (try first | (exfalso; omega; done) | (rename_i hx; exact absurd rfl hx) | (rename_i hx; cases hx; done)))))
    refine gk_ret hT rfl rfl (.cell rfl mE rfl rfl .nil) (fun w' hk => ?_)
    exact ⟨by rw [← hB]; rfl, hk.toBelow⟩
theorem longest_any (A : Option Addr) (n c : Nat) (L : List RunD) (w : World) (hn : n = L.length) (h9 : n ≤ 1000) (hf : Few L n) (hs : Rd1 w (sl A 2 RE L)) :
    Calls Try.prog 52 [.slice A n c].toArray w fun e w' => e = .returned (.tuple #[(bestN L n).val, .bool (decide (0 < n))]) ∧ Below w.heap.size w w' := by
  refine g_enter0 T [] [] [sl A 2 RE L] Try.func52 rfl Try.ntmps52 rfl (Rds.cons hs .nil).kn ?_
  rcases Nat.eq_zero_or_pos n with h0 | h0
  · subst h0
    (repeat' (first | (refine gG ?_; try intro _) | ((first | refine g_split rfl rfl tE (fun _ => ?_) (fun _ => ?_) | refine gk_cond rfl rfl tE (fun _ => ?_) (fun _ => ?_)) <;> (try first | (exfalso; omega; done) | (rename_i hx; exact absurd rfl hx) | (rename_i hx; cases hx; done)))))
    refine gk_ret hT rfl rfl (.cell rfl mE rfl rfl (.tmp rfl .nil)) (fun w' hk => ?_)
    exact ⟨rfl, hk.toBelow⟩
  · (repeat' (first | (refine gG ?_; try intro _) | (refine g_mv rfl ?_; first | refine mv_call_bel (fun w hk => maxF_any A n c L w hn h9 h0 hf (hk.rR mE)) rfl rfl rfl rfl rfl (by kernel_rfl) ?_) | ((first | refine g_split rfl rfl tE (fun _ => ?_) (fun _ => ?_) | refine gk_cond rfl rfl tE (fun _ => ?_) (fun _ => ?_)) <;> (try first | (exfalso; omega; done) | (rename_i hx; exact absurd rfl hx) | (rename_i hx; cases hx; done)))))
    refine gk_ret hT rfl rfl (.cell rfl mE rfl rfl (.tmp rfl .nil)) (fun w' hk => ?_)
    exact ⟨by rw [decide_eq_true h0]; rfl, hk.toBelow⟩
end Go.Proofs.Ytmehbhabheokbaa.Ex

