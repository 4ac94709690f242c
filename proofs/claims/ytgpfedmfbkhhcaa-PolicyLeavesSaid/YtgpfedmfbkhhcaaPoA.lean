/- Which sizes stay: the document's. -/
import Derived.Test.YtgpfedmfbkhhcaaPo9
namespace Go.Proofs.Ytgpfedmfbkhhcaa.Po
open Go.RowKit Mem Gx Ct Dd Hp
set_option linter.unusedVariables false
set_option linter.unusedSimpArgs false
set_option maxRecDepth 100000
set_option maxHeartbeats 4000000
theorem rskeep_any (A : Option Addr) (n c : Nat) (L : List MarkD) (pA : Option Addr) (pn pc : Nat) (P : List Int) (fl : Int) (w : World) (hn : n = L.length) (h9 : n ≤ 1000) (hpn : pn = P.length) (hp9 : pn ≤ 1000) (hs : Rd1 w (sl A 2 ME L)) (hp : Rd1 w (sl pA 1 (IE .u64) P)) :
    Calls Try.prog 55 [.slice A n c, .slice pA pn pc, .int .u64 fl].toArray w (RetS (fun q : SlV => q.Ok (skeepP P fl L).length) (fun q => q.v) (fun q => [sl q.A 2 ME (skeepP P fl L)]) [] w) := by
  refine g_enter0 T [] [] [sl A 2 ME L, sl pA 1 (IE .u64) P] Try.func55 rfl Try.ntmps55 rfl (Rds.cons hs (.cons hp .nil)).kn ?_
  (repeat (refine gG ?_; try intro _))
  refine gk_own 0 103 2 ME ?_
  refine gk_loop_sel (fun (q : Nat × Value × (List MarkD)) => match q with | (k, v, Q) => (k ≤ n ∧ Q.length ≤ k ∧ Q ++ skeepP P fl (L.drop k) = skeepP P fl L)) (fun (q : Nat × Value × (List MarkD)) => match q with | (k, v, Q) => [(0, .slice A n c), (1, .slice pA pn pc), (2, .int .u64 fl), (7, v), (8, .int .i64 (k : Int))]) (fun (q : Nat × Value × (List MarkD)) => match q with | (k, v, Q) => [own 0 103 2 v ME Q]) (fun (q : Nat × Value × (List MarkD)) => match q with | (k, v, Q) => [sl A 2 ME L, sl pA 1 (IE .u64) P]) (fun (q : Nat × Value × (List MarkD)) => match q with | (k, v, Q) => n - k) (0, .slice none 0 0, []) rfl ⟨Nat.zero_le _, Nat.le_refl _, rfl⟩ (by repeat (first | exact trivial | refine ⟨rfl, ?_⟩)) sA sS ?_
  rintro ⟨k, v, Q⟩ hI
  replace hI : (k ≤ n ∧ Q.length ≤ k ∧ Q ++ skeepP P fl (L.drop k) = skeepP P fl L) := hI
  change GK _ _ [(0, .slice A n c), (1, .slice pA pn pc), (2, .int .u64 fl), (7, v), (8, .int .i64 (k : Int))] [own 0 103 2 v ME Q] [sl A 2 ME L, sl pA 1 (IE .u64) P]
  obtain ⟨hk1, hQl, hQ⟩ := hI
  by_cases hlt : k < n
  · obtain ⟨y, hy⟩ : ∃ y, L[k]? = some y := ⟨L[k], List.getElem?_eq_getElem (by omega)⟩
    refine gk_elem (A := A) (enc := ME) (L := L) k mE (by omega) (by decide) (fun kb ko y' eA hy' => ?_)
    subst eA
    obtain rfl : y = y' := by rw [hy] at hy'; exact Option.some.inj hy'
    by_cases hla : k + 1 = n
    · have hst := sk_last (P := P) (fl := fl) hy (by omega)
      (repeat (refine gG ?_; try intro _))
      refine gk_cond rfl rfl (tells_tB _) (fun _ => ?_) (fun h => absurd (by omega) h)
      (repeat (refine gG ?_; try intro _))
      refine gk_say 9 (.bool true) rfl (congrArg Value.bool (tB_true (by omega))) ?_
      refine gk_say 24 (.bool false) rfl (by rw [tB_true (by omega)]; rfl) ?_
      (repeat' (first | (refine gG ?_; try intro _) | ((first | refine g_split rfl rfl tE (fun _ => ?_) (fun _ => ?_) | refine gk_cond rfl rfl tE (fun _ => ?_) (fun _ => ?_)) <;> (try first | (exfalso; omega; done) | (rename_i hx; exact absurd rfl hx) | (rename_i hx; cases hx; done)))))
      refine g_mv rfl (mv_append (L := Q) rfl [y] rfl rfl rfl rfl elt_M (by intro _; first | ((repeat (first | with_reducible exact Upd.here _ | with_reducible apply Upd.there)); done) | ((repeat (first | exact Upd.here _ | apply Upd.there)); done) | fail) (src_blk mE rfl) rfl oneM (by simp only [maxLen, List.length_append, List.length_cons, List.length_nil]; omega) (by simp only [List.length_append, List.length_cons, List.length_nil]; omega) (Nat.zero_le _) (fun v2 => ?_))
      (repeat' (first | (refine gG ?_; try intro _) | ((first | refine g_split rfl rfl tE (fun _ => ?_) (fun _ => ?_) | refine gk_cond rfl rfl tE (fun _ => ?_) (fun _ => ?_)) <;> (try first | (exfalso; omega; done) | (rename_i hx; exact absurd rfl hx) | (rename_i hx; cases hx; done)))))
      refine gk_again_sel rfl (k + 1, v2, Q ++ [y]) ⟨hlt, by simp; omega, by rw [List.append_assoc, ← hst]; exact hQ⟩ (by dsimp only; omega) (by repeat (first | exact trivial | refine ⟨rfl, ?_⟩)) sA sS
    · obtain ⟨z, hz⟩ : ∃ z, L[k + 1]? = some z := ⟨L[k + 1], List.getElem?_eq_getElem (by omega)⟩
      refine gk_elem (A := some ⟨kb, ko, none⟩) (enc := ME) (L := L) (k + 1) mE (by omega) (by decide) (fun zb zo z' eZ hz' => ?_)
      cases eZ
      obtain rfl : z = z' := by rw [hz] at hz'; exact Option.some.inj hz'
      (repeat (refine gG ?_; try intro _))
      refine gk_cond rfl rfl (tells_tB _) (fun _ => ?_) (fun h => absurd (by omega) h)
      (repeat (refine gG ?_; try intro _))
      refine gk_say 24 (.bool true) rfl (by rw [tB_false (by omega)]; rfl) ?_
      (repeat' (first | (refine gG ?_; try intro _) | ((first | refine g_split rfl rfl tE (fun _ => ?_) (fun _ => ?_) | refine gk_cond rfl rfl tE (fun _ => ?_) (fun _ => ?_)) <;> (try first | (exfalso; omega; done) | (rename_i hx; exact absurd rfl hx) | (rename_i hx; cases hx; done)))))
      refine gk_say 9 (.bool (tB (SeenN P fl y z 0))) rfl (congrArg Value.bool (tB_congr seen_zero.symm)) ?_
      refine gk_loop_sel (fun (q : Nat × Unit) => match q with | (j, u) => (j ≤ pn)) (fun (q : Nat × Unit) => match q with | (j, u) => [(0, .slice (some ⟨kb, ko, none⟩) n c), (1, .slice pA pn pc), (2, .int .u64 fl), (7, v), (8, .int .i64 (k : Int)), (9, .bool (tB (SeenN P fl y z j))), (10, .int .u64 z.s), (11, .int .i64 (j : Int))]) (fun (q : Nat × Unit) => match q with | (j, u) => [own 0 103 2 v ME Q]) (fun (q : Nat × Unit) => match q with | (j, u) => [row kb (ko + k * 2) (encF ME y 0 2), sl (some ⟨kb, ko, none⟩) 2 ME L, sl pA 1 (IE .u64) P]) (fun (q : Nat × Unit) => match q with | (j, u) => pn - j) (0, ()) rfl (Nat.zero_le _) (by repeat (first | exact trivial | refine ⟨rfl, ?_⟩)) sA sS ?_
      rintro ⟨j, u⟩ hI
      replace hI : (j ≤ pn) := hI
      change GK _ _ [(0, .slice (some ⟨kb, ko, none⟩) n c), (1, .slice pA pn pc), (2, .int .u64 fl), (7, v), (8, .int .i64 (k : Int)), (9, .bool (tB (SeenN P fl y z j))), (10, .int .u64 z.s), (11, .int .i64 (j : Int))] [own 0 103 2 v ME Q] [row kb (ko + k * 2) (encF ME y 0 2), sl (some ⟨kb, ko, none⟩) 2 ME L, sl pA 1 (IE .u64) P]
      by_cases hj : j < pn
      · obtain ⟨m, hm⟩ : ∃ m, P[j]? = some m := ⟨P[j], List.getElem?_eq_getElem (by omega)⟩
        have hsn := seen_step (fl := fl) (m := y) (m2 := z) hm
        refine gk_elem (A := pA) (enc := IE .u64) (L := P) j mE (by omega) (by decide) (fun mb mo m' eM hm' => ?_)
        subst eM
        obtain rfl : m = m' := by rw [hm] at hm'; exact Option.some.inj hm'
        by_cases ha : y.s ≤ m
        · by_cases hb : m < z.s
          · (repeat' (first | (refine gG ?_; try intro _) | ((first | refine g_split rfl rfl tE (fun _ => ?_) (fun _ => ?_) | refine gk_cond rfl rfl tE (fun _ => ?_) (fun _ => ?_)) <;> (try first | (exfalso; omega; done) | (rename_i hx; exact absurd rfl hx) | (rename_i hx; cases hx; done)))))
            refine gk_any [0, 1, 2, 3, 4] (Cut _ (fun _ : Unit => [(0, .slice (some ⟨kb, ko, none⟩) n c), (1, .slice (some ⟨mb, mo, none⟩) pn pc), (2, .int .u64 fl), (7, v), (8, .int .i64 (k : Int)), (10, .int .u64 z.s), (11, .int .i64 (j : Int)), (57, .bool true)]) (fun _ => [own 0 103 2 v ME Q]) (fun _ => [row kb (ko + k * 2) (encF ME y 0 2), sl (some ⟨kb, ko, none⟩) 2 ME L, sl (some ⟨mb, mo, none⟩) 1 (IE .u64) P])) rfl rfl (by kernel_rfl) ?_ (cut_k fun _ => ?_)
            · skip
              refine gb_take 0 rfl (by decide +kernel) rfl rfl (ys_ev (nw := true) hT rfl sI) sF ?_
              refine gb_take 1 rfl (by decide +kernel) rfl rfl (ys_ev (nw := true) hT rfl sI) sF ?_
              refine gb_take 2 rfl (by decide +kernel) rfl rfl (ys_ev (nw := true) hT rfl sI) sF ?_
              refine gb_take 3 rfl (by decide +kernel) rfl rfl (ys_ev (nw := true) hT rfl sI) sF ?_
              refine gb_take 4 rfl (by decide +kernel) rfl rfl (by first | exact ys_blk hT rfl rfl mE rfl rfl | exact ys_row hT rfl rfl mE rfl rfl | exact ys_row0 hT rfl rfl mE rfl rfl) sF ?_
              refine gb_take 5 rfl (by decide +kernel) rfl rfl (ys_ev (nw := true) hT rfl sI) sF ?_
              refine gb_take 6 rfl (by decide +kernel) rfl rfl (ys_ev (nw := true) hT rfl sI) sF ?_
              refine gb_take 7 rfl (by decide +kernel) rfl rfl (ys_ev (nw := true) hT rfl sI) sF ?_
              refine gb_take 8 rfl (by decide +kernel) rfl rfl (by first | exact ys_blk hT rfl rfl mE rfl rfl | exact ys_row hT rfl rfl mE rfl rfl | exact ys_row0 hT rfl rfl mE rfl rfl) sF ?_
              refine gb_take 9 rfl (by decide +kernel) rfl rfl (ys_ev (nw := true) hT rfl sI) sF ?_
              try (refine gb_say 49 (.bool true) rfl (congrArg Value.bool (tB_true ha)) ?_)
              refine gb_take 10 rfl (by decide +kernel) rfl rfl (ys_ev (nw := true) hT rfl sI) sF ?_
              first | refine gb_take 11 rfl (by decide +kernel) rfl rfl (ys_ev (nw := true) hT rfl sI) sF ?_ | refine gb_skip 11 rfl (by decide +kernel) rfl rfl sF ?_
              first | refine gb_take 12 rfl (by decide +kernel) rfl rfl (ys_ev (nw := true) hT rfl sI) sF ?_ | refine gb_skip 12 rfl (by decide +kernel) rfl rfl sF ?_
              first | refine gb_take 13 rfl (by decide +kernel) rfl rfl (ys_ev (nw := true) hT rfl sI) sF ?_ | refine gb_skip 13 rfl (by decide +kernel) rfl rfl sF ?_
              first | refine gb_take 14 rfl (by decide +kernel) rfl rfl (by first | exact ys_blk hT rfl rfl mE rfl rfl | exact ys_row hT rfl rfl mE rfl rfl | exact ys_row0 hT rfl rfl mE rfl rfl) sF ?_ | refine gb_skip 14 rfl (by decide +kernel) rfl rfl sF ?_
              first | refine gb_take 15 rfl (by decide +kernel) rfl rfl (ys_ev (nw := true) hT rfl sI) sF ?_ | refine gb_skip 15 rfl (by decide +kernel) rfl rfl sF ?_
              first | refine gb_take 16 rfl (by decide +kernel) rfl rfl (ys_ev (nw := true) hT rfl sI) sF ?_ | refine gb_skip 16 rfl (by decide +kernel) rfl rfl sF ?_
              try (refine gb_say 56 (.bool true) rfl (congrArg Value.bool (tB_true hb)) ?_)
              refine gb_take 17 rfl (by decide +kernel) rfl rfl (ys_ev (nw := true) hT rfl sI) sF ?_
              refine gb_nil (by decide +kernel) ?_
              exact ⟨(), (by repeat (first | exact trivial | refine ⟨rfl, ?_⟩)), sA, sS⟩
            · (repeat (refine gG ?_; try intro _))
              refine gk_say 9 (.bool (tB (SeenN P fl y z (j + 1)))) rfl (congrArg Value.bool (tB_true (hsn.2 (.inr ⟨ha, hb⟩))).symm) ?_
              refine gk_say 11 (.int .i64 ((j + 1 : Nat) : Int)) rfl (by first | (congr 1; done) | (congr 1; omega)) ?_
              refine gk_again_sel rfl (j + 1, ()) (by omega) (by dsimp only; omega) (by repeat (first | exact trivial | refine ⟨rfl, ?_⟩)) sA sS
          · have e : tB (SeenN P fl y z j) = tB (SeenN P fl y z (j + 1)) := tB_congr ⟨fun e => hsn.2 (.inl e), fun e => (hsn.1 e).resolve_right (fun e => hb e.2)⟩
            rw [e]
            (repeat' (first | (refine gG ?_; try intro _) | ((first | refine g_split rfl rfl tE (fun _ => ?_) (fun _ => ?_) | refine gk_cond rfl rfl tE (fun _ => ?_) (fun _ => ?_)) <;> (try first | (exfalso; omega; done) | (rename_i hx; exact absurd rfl hx) | (rename_i hx; cases hx; done)))))
            refine gk_any [0, 1, 2, 3, 4] (Cut _ (fun _ : Unit => [(0, .slice (some ⟨kb, ko, none⟩) n c), (1, .slice (some ⟨mb, mo, none⟩) pn pc), (2, .int .u64 fl), (7, v), (8, .int .i64 (k : Int)), (9, .bool (tB (SeenN P fl y z (j + 1)))), (10, .int .u64 z.s), (11, .int .i64 (j : Int)), (57, .bool false)]) (fun _ => [own 0 103 2 v ME Q]) (fun _ => [row kb (ko + k * 2) (encF ME y 0 2), sl (some ⟨kb, ko, none⟩) 2 ME L, sl (some ⟨mb, mo, none⟩) 1 (IE .u64) P])) rfl rfl (by kernel_rfl) ?_ (cut_k fun _ => ?_)
            · skip
              refine gb_take 0 rfl (by decide +kernel) rfl rfl (ys_ev (nw := true) hT rfl sI) sF ?_
              refine gb_take 1 rfl (by decide +kernel) rfl rfl (ys_ev (nw := true) hT rfl sI) sF ?_
              refine gb_take 2 rfl (by decide +kernel) rfl rfl (ys_ev (nw := true) hT rfl sI) sF ?_
              refine gb_take 3 rfl (by decide +kernel) rfl rfl (ys_ev (nw := true) hT rfl sI) sF ?_
              refine gb_take 4 rfl (by decide +kernel) rfl rfl (by first | exact ys_blk hT rfl rfl mE rfl rfl | exact ys_row hT rfl rfl mE rfl rfl | exact ys_row0 hT rfl rfl mE rfl rfl) sF ?_
              refine gb_take 5 rfl (by decide +kernel) rfl rfl (ys_ev (nw := true) hT rfl sI) sF ?_
              refine gb_take 6 rfl (by decide +kernel) rfl rfl (ys_ev (nw := true) hT rfl sI) sF ?_
              refine gb_take 7 rfl (by decide +kernel) rfl rfl (ys_ev (nw := true) hT rfl sI) sF ?_
              refine gb_take 8 rfl (by decide +kernel) rfl rfl (by first | exact ys_blk hT rfl rfl mE rfl rfl | exact ys_row hT rfl rfl mE rfl rfl | exact ys_row0 hT rfl rfl mE rfl rfl) sF ?_
              refine gb_take 9 rfl (by decide +kernel) rfl rfl (ys_ev (nw := true) hT rfl sI) sF ?_
              try (refine gb_say 49 (.bool true) rfl (congrArg Value.bool (tB_true ha)) ?_)
              refine gb_take 10 rfl (by decide +kernel) rfl rfl (ys_ev (nw := true) hT rfl sI) sF ?_
              first | refine gb_take 11 rfl (by decide +kernel) rfl rfl (ys_ev (nw := true) hT rfl sI) sF ?_ | refine gb_skip 11 rfl (by decide +kernel) rfl rfl sF ?_
              first | refine gb_take 12 rfl (by decide +kernel) rfl rfl (ys_ev (nw := true) hT rfl sI) sF ?_ | refine gb_skip 12 rfl (by decide +kernel) rfl rfl sF ?_
              first | refine gb_take 13 rfl (by decide +kernel) rfl rfl (ys_ev (nw := true) hT rfl sI) sF ?_ | refine gb_skip 13 rfl (by decide +kernel) rfl rfl sF ?_
              first | refine gb_take 14 rfl (by decide +kernel) rfl rfl (by first | exact ys_blk hT rfl rfl mE rfl rfl | exact ys_row hT rfl rfl mE rfl rfl | exact ys_row0 hT rfl rfl mE rfl rfl) sF ?_ | refine gb_skip 14 rfl (by decide +kernel) rfl rfl sF ?_
              first | refine gb_take 15 rfl (by decide +kernel) rfl rfl (ys_ev (nw := true) hT rfl sI) sF ?_ | refine gb_skip 15 rfl (by decide +kernel) rfl rfl sF ?_
              first | refine gb_take 16 rfl (by decide +kernel) rfl rfl (ys_ev (nw := true) hT rfl sI) sF ?_ | refine gb_skip 16 rfl (by decide +kernel) rfl rfl sF ?_
              try (refine gb_say 56 (.bool false) rfl (congrArg Value.bool (tB_false hb)) ?_)
              refine gb_take 17 rfl (by decide +kernel) rfl rfl (ys_ev (nw := true) hT rfl sI) sF ?_
              refine gb_nil (by decide +kernel) ?_
              exact ⟨(), (by repeat (first | exact trivial | refine ⟨rfl, ?_⟩)), sA, sS⟩
            · (repeat (refine gG ?_; try intro _))
              refine gk_say 11 (.int .i64 ((j + 1 : Nat) : Int)) rfl (by first | (congr 1; done) | (congr 1; omega)) ?_
              refine gk_again_sel rfl (j + 1, ()) (by omega) (by dsimp only; omega) (by repeat (first | exact trivial | refine ⟨rfl, ?_⟩)) sA sS
        · have e : tB (SeenN P fl y z j) = tB (SeenN P fl y z (j + 1)) := tB_congr ⟨fun e => hsn.2 (.inl e), fun e => (hsn.1 e).resolve_right (fun e => ha e.1)⟩
          rw [e]
          (repeat' (first | (refine gG ?_; try intro _) | ((first | refine g_split rfl rfl tE (fun _ => ?_) (fun _ => ?_) | refine gk_cond rfl rfl tE (fun _ => ?_) (fun _ => ?_)) <;> (try first | (exfalso; omega; done) | (rename_i hx; exact absurd rfl hx) | (rename_i hx; cases hx; done)))))
          refine gk_any [0, 1, 2, 3, 4] (Cut _ (fun _ : Unit => [(0, .slice (some ⟨kb, ko, none⟩) n c), (1, .slice (some ⟨mb, mo, none⟩) pn pc), (2, .int .u64 fl), (7, v), (8, .int .i64 (k : Int)), (9, .bool (tB (SeenN P fl y z (j + 1)))), (10, .int .u64 z.s), (11, .int .i64 (j : Int)), (57, .bool false)]) (fun _ => [own 0 103 2 v ME Q]) (fun _ => [row kb (ko + k * 2) (encF ME y 0 2), sl (some ⟨kb, ko, none⟩) 2 ME L, sl (some ⟨mb, mo, none⟩) 1 (IE .u64) P])) rfl rfl (by kernel_rfl) ?_ (cut_k fun _ => ?_)
          · skip
            refine gb_take 0 rfl (by decide +kernel) rfl rfl (ys_ev (nw := true) hT rfl sI) sF ?_
            refine gb_take 1 rfl (by decide +kernel) rfl rfl (ys_ev (nw := true) hT rfl sI) sF ?_
            refine gb_take 2 rfl (by decide +kernel) rfl rfl (ys_ev (nw := true) hT rfl sI) sF ?_
            refine gb_take 3 rfl (by decide +kernel) rfl rfl (ys_ev (nw := true) hT rfl sI) sF ?_
            refine gb_take 4 rfl (by decide +kernel) rfl rfl (by first | exact ys_blk hT rfl rfl mE rfl rfl | exact ys_row hT rfl rfl mE rfl rfl | exact ys_row0 hT rfl rfl mE rfl rfl) sF ?_
            refine gb_take 5 rfl (by decide +kernel) rfl rfl (ys_ev (nw := true) hT rfl sI) sF ?_
            refine gb_take 6 rfl (by decide +kernel) rfl rfl (ys_ev (nw := true) hT rfl sI) sF ?_
            refine gb_take 7 rfl (by decide +kernel) rfl rfl (ys_ev (nw := true) hT rfl sI) sF ?_
            refine gb_take 8 rfl (by decide +kernel) rfl rfl (by first | exact ys_blk hT rfl rfl mE rfl rfl | exact ys_row hT rfl rfl mE rfl rfl | exact ys_row0 hT rfl rfl mE rfl rfl) sF ?_
            refine gb_take 9 rfl (by decide +kernel) rfl rfl (ys_ev (nw := true) hT rfl sI) sF ?_
            try (refine gb_say 49 (.bool false) rfl (congrArg Value.bool (tB_false ha)) ?_)
            refine gb_take 10 rfl (by decide +kernel) rfl rfl (ys_ev (nw := true) hT rfl sI) sF ?_
            first | refine gb_take 11 rfl (by decide +kernel) rfl rfl (ys_ev (nw := true) hT rfl sI) sF ?_ | refine gb_skip 11 rfl (by decide +kernel) rfl rfl sF ?_
            first | refine gb_take 12 rfl (by decide +kernel) rfl rfl (ys_ev (nw := true) hT rfl sI) sF ?_ | refine gb_skip 12 rfl (by decide +kernel) rfl rfl sF ?_
            first | refine gb_take 13 rfl (by decide +kernel) rfl rfl (ys_ev (nw := true) hT rfl sI) sF ?_ | refine gb_skip 13 rfl (by decide +kernel) rfl rfl sF ?_
            first | refine gb_take 14 rfl (by decide +kernel) rfl rfl (by first | exact ys_blk hT rfl rfl mE rfl rfl | exact ys_row hT rfl rfl mE rfl rfl | exact ys_row0 hT rfl rfl mE rfl rfl) sF ?_ | refine gb_skip 14 rfl (by decide +kernel) rfl rfl sF ?_
            first | refine gb_take 15 rfl (by decide +kernel) rfl rfl (ys_ev (nw := true) hT rfl sI) sF ?_ | refine gb_skip 15 rfl (by decide +kernel) rfl rfl sF ?_
            first | refine gb_take 16 rfl (by decide +kernel) rfl rfl (ys_ev (nw := true) hT rfl sI) sF ?_ | refine gb_skip 16 rfl (by decide +kernel) rfl rfl sF ?_
            refine gb_take 17 rfl (by decide +kernel) rfl rfl (ys_ev (nw := true) hT rfl sI) sF ?_
            refine gb_nil (by decide +kernel) ?_
            exact ⟨(), (by repeat (first | exact trivial | refine ⟨rfl, ?_⟩)), sA, sS⟩
          · (repeat (refine gG ?_; try intro _))
            refine gk_say 11 (.int .i64 ((j + 1 : Nat) : Int)) rfl (by first | (congr 1; done) | (congr 1; omega)) ?_
            refine gk_again_sel rfl (j + 1, ()) (by omega) (by dsimp only; omega) (by repeat (first | exact trivial | refine ⟨rfl, ?_⟩)) sA sS
      · have hall := seen_all (P := P) (fl := fl) (m := y) (m2 := z) (j := j) (by omega)
        by_cases hm : SeenP P fl y z
        · have hst := sk_yes hy hz hm
          refine gk_say 9 (.bool true) rfl (congrArg Value.bool (tB_true (hall.2 hm))) ?_
          (repeat' (first | (refine gG ?_; try intro _) | ((first | refine g_split rfl rfl tE (fun _ => ?_) (fun _ => ?_) | refine gk_cond rfl rfl tE (fun _ => ?_) (fun _ => ?_)) <;> (try first | (exfalso; omega; done) | (rename_i hx; exact absurd rfl hx) | (rename_i hx; cases hx; done)))))
          refine g_mv rfl (mv_append (L := Q) rfl [y] rfl rfl rfl rfl elt_M (by intro _; first | ((repeat (first | with_reducible exact Upd.here _ | with_reducible apply Upd.there)); done) | ((repeat (first | exact Upd.here _ | apply Upd.there)); done) | fail) (src_blk mE rfl) rfl oneM (by simp only [maxLen, List.length_append, List.length_cons, List.length_nil]; omega) (by simp only [List.length_append, List.length_cons, List.length_nil]; omega) (Nat.zero_le _) (fun v2 => ?_))
          (repeat' (first | (refine gG ?_; try intro _) | ((first | refine g_split rfl rfl tE (fun _ => ?_) (fun _ => ?_) | refine gk_cond rfl rfl tE (fun _ => ?_) (fun _ => ?_)) <;> (try first | (exfalso; omega; done) | (rename_i hx; exact absurd rfl hx) | (rename_i hx; cases hx; done)))))
          refine gk_again_sel rfl (k + 1, v2, Q ++ [y]) ⟨hlt, by simp; omega, by rw [List.append_assoc, ← hst]; exact hQ⟩ (by dsimp only; omega) (by repeat (first | exact trivial | refine ⟨rfl, ?_⟩)) sA sS
        · have hst := sk_no hy hz hm
          refine gk_say 9 (.bool false) rfl (congrArg Value.bool (tB_false (fun e => hm (hall.1 e)))) ?_
          (repeat' (first | (refine gG ?_; try intro _) | ((first | refine g_split rfl rfl tE (fun _ => ?_) (fun _ => ?_) | refine gk_cond rfl rfl tE (fun _ => ?_) (fun _ => ?_)) <;> (try first | (exfalso; omega; done) | (rename_i hx; exact absurd rfl hx) | (rename_i hx; cases hx; done)))))
          refine gk_again_sel rfl (k + 1, v, Q) ⟨hlt, by omega, by rw [← hst]; exact hQ⟩ (by dsimp only; omega) (by repeat (first | exact trivial | refine ⟨rfl, ?_⟩)) sA sS
  · rw [List.drop_of_length_le (by omega), show skeepP P fl [] = [] from rfl, List.append_nil] at hQ
    rw [← hQ]
    (repeat' (first | (refine gG ?_; try intro _) | ((first | refine g_split rfl rfl tE (fun _ => ?_) (fun _ => ?_) | refine gk_cond rfl rfl tE (fun _ => ?_) (fun _ => ?_)) <;> (try first | (exfalso; omega; done) | (rename_i hx; exact absurd rfl hx) | (rename_i hx; cases hx; done)))))
    refine gk_freeze _ (by intro _; first | ((repeat (first | with_reducible exact Upd.here _ | with_reducible apply Upd.there)); done) | ((repeat (first | exact Upd.here _ | apply Upd.there)); done) | fail) (fun A4 c4 hA4 hA41 hA42 hA43 => ?_); subst hA4
    refine gk_ret hT rfl rfl (.tmp rfl .nil) (fun w' hk => ?_)
    exact RetS.mk (⟨A4, Q.length, c4⟩ : SlV) ⟨rfl, hA41, hA42, hA43⟩ rfl hk (.cons (RS1.own hk mE) .nil)
end Go.Proofs.Ytgpfedmfbkhhcaa.Po

