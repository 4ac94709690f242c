/- Which times, which sizes stay. -/
import Derived.Test.YtgpfedmfbkhhcaaPo3
import Derived.Test.YtgpfedmfbkhhcaaCtI
namespace Go.Proofs.Ytgpfedmfbkhhcaa.Po
open Go.RowKit Mem Gx Ct Dd Hp
set_option linter.unusedVariables false
set_option linter.unusedSimpArgs false
set_option maxRecDepth 100000
set_option maxHeartbeats 4000000
theorem tkeep_any (A : Option Addr) (n c : Nat) (L : List MarkD) (pA : Option Addr) (pn pc : Nat) (P : List Int) (fl : Int) (w : World) (hn : n = L.length) (h9 : n ≤ 1000) (hpn : pn = P.length) (hp9 : pn ≤ 1000) (hs : Rd1 w (sl A 2 ME L)) (hp : Rd1 w (sl pA 1 (IE .u64) P)) :
    Calls Try.prog 49 [.slice A n c, .slice pA pn pc, .int .u64 fl].toArray w (RetS (fun q : SlV => q.Ok (tkeepP L P fl).length) (fun q => q.v) (fun q => [sl q.A 2 ME (tkeepP L P fl)]) [] w) := by
  refine g_enter0 T [] [] [sl A 2 ME L, sl pA 1 (IE .u64) P] Try.func49 rfl Try.ntmps49 rfl (Rds.cons hs (.cons hp .nil)).kn ?_
  (repeat (refine gG ?_; try intro _))
  refine gk_own 0 103 2 ME ?_
  refine gk_loop_sel (fun (q : Nat × Value × (List MarkD)) => match q with | (k, v, Q) => (k ≤ n ∧ Q = tkeepP (L.take k) P fl)) (fun (q : Nat × Value × (List MarkD)) => match q with | (k, v, Q) => [(1, .slice pA pn pc), (2, .int .u64 fl), (7, v), (10, .slice A n c), (11, .int .i64 (n : Int)), (12, .int .i64 (k : Int))]) (fun (q : Nat × Value × (List MarkD)) => match q with | (k, v, Q) => [own 0 103 2 v ME Q]) (fun (q : Nat × Value × (List MarkD)) => match q with | (k, v, Q) => [sl A 2 ME L, sl pA 1 (IE .u64) P]) (fun (q : Nat × Value × (List MarkD)) => match q with | (k, v, Q) => n - k) (0, .slice none 0 0, []) rfl ⟨Nat.zero_le _, rfl⟩ (by repeat (first | exact trivial | refine ⟨rfl, ?_⟩)) sA sS ?_
  rintro ⟨k, v, Q⟩ hI
  replace hI : (k ≤ n ∧ Q = tkeepP (L.take k) P fl) := hI
  change GK _ _ [(1, .slice pA pn pc), (2, .int .u64 fl), (7, v), (10, .slice A n c), (11, .int .i64 (n : Int)), (12, .int .i64 (k : Int))] [own 0 103 2 v ME Q] [sl A 2 ME L, sl pA 1 (IE .u64) P]
  obtain ⟨hk1, hQ⟩ := hI
  have hQl : Q.length ≤ k := by rw [hQ]; exact Nat.le_trans tkeep_len (List.length_take_le _ _)
  by_cases hlt : k < n
  · obtain ⟨y, hy⟩ : ∃ y, L[k]? = some y := ⟨L[k], List.getElem?_eq_getElem (by omega)⟩
    have hst := tkeep_step (P := P) (fl := fl) hy
    refine gk_elem (A := A) (enc := ME) (L := L) k mE (by omega) (by decide) (fun kb ko y' eA hy' => ?_)
    subst eA
    obtain rfl : y = y' := by rw [hy] at hy'; exact Option.some.inj hy'
    by_cases hf : fl ≤ y.s
    · rw [if_pos (.inl hf), ← hQ] at hst
      (repeat' (first | (refine gG ?_; try intro _) | ((first | refine g_split rfl rfl tE (fun _ => ?_) (fun _ => ?_) | refine gk_cond rfl rfl tE (fun _ => ?_) (fun _ => ?_)) <;> (try first | (exfalso; omega; done) | (rename_i hx; exact absurd rfl hx) | (rename_i hx; cases hx; done)))))
      refine g_mv rfl (mv_append (L := Q) rfl [y] rfl rfl rfl rfl elt_M (by intro _; first | ((repeat (first | with_reducible exact Upd.here _ | with_reducible apply Upd.there)); done) | ((repeat (first | exact Upd.here _ | apply Upd.there)); done) | fail) (src_blk mE rfl) rfl oneM (by simp only [maxLen, List.length_append, List.length_cons, List.length_nil]; omega) (by simp only [List.length_append, List.length_cons, List.length_nil]; omega) (Nat.zero_le _) (fun v2 => ?_))
      (repeat' (first | (refine gG ?_; try intro _) | ((first | refine g_split rfl rfl tE (fun _ => ?_) (fun _ => ?_) | refine gk_cond rfl rfl tE (fun _ => ?_) (fun _ => ?_)) <;> (try first | (exfalso; omega; done) | (rename_i hx; exact absurd rfl hx) | (rename_i hx; cases hx; done)))))
      refine gk_say 12 (.int .i64 ((k + 1 : Nat) : Int)) rfl (by first | (congr 1; done) | (congr 1; omega)) ?_
      refine gk_again_sel rfl (k + 1, v2, Q ++ [y]) ⟨hlt, hst.symm⟩ (by dsimp only; omega) (by repeat (first | exact trivial | refine ⟨rfl, ?_⟩)) sA sS
    · (repeat' (first | (refine gG ?_; try intro _) | ((first | refine g_split rfl rfl tE (fun _ => ?_) (fun _ => ?_) | refine gk_cond rfl rfl tE (fun _ => ?_) (fun _ => ?_)) <;> (try first | (exfalso; omega; done) | (rename_i hx; exact absurd rfl hx) | (rename_i hx; cases hx; done)))))
      refine g_mv rfl ?_; refine mv_call_bel (fun w hk => contU_any pA pn pc P y.s w hpn (by unfold maxLen; omega) (hk.rR (φ := sl pA 1 (IE .u64) P) mE)) rfl rfl rfl rfl rfl (by kernel_rfl) ?_
      by_cases hm : y.s ∈ P
      · rw [if_pos (.inr hm), ← hQ] at hst
        refine g_say 24 (.bool true) rfl (congrArg Value.bool (tB_true hm)) ?_
        (repeat' (first | (refine gG ?_; try intro _) | ((first | refine g_split rfl rfl tE (fun _ => ?_) (fun _ => ?_) | refine gk_cond rfl rfl tE (fun _ => ?_) (fun _ => ?_)) <;> (try first | (exfalso; omega; done) | (rename_i hx; exact absurd rfl hx) | (rename_i hx; cases hx; done)))))
        refine g_mv rfl (mv_append (L := Q) rfl [y] rfl rfl rfl rfl elt_M (by intro _; first | ((repeat (first | with_reducible exact Upd.here _ | with_reducible apply Upd.there)); done) | ((repeat (first | exact Upd.here _ | apply Upd.there)); done) | fail) (src_blk mE rfl) rfl oneM (by simp only [maxLen, List.length_append, List.length_cons, List.length_nil]; omega) (by simp only [List.length_append, List.length_cons, List.length_nil]; omega) (Nat.zero_le _) (fun v2 => ?_))
        (repeat' (first | (refine gG ?_; try intro _) | ((first | refine g_split rfl rfl tE (fun _ => ?_) (fun _ => ?_) | refine gk_cond rfl rfl tE (fun _ => ?_) (fun _ => ?_)) <;> (try first | (exfalso; omega; done) | (rename_i hx; exact absurd rfl hx) | (rename_i hx; cases hx; done)))))
        refine gk_say 12 (.int .i64 ((k + 1 : Nat) : Int)) rfl (by first | (congr 1; done) | (congr 1; omega)) ?_
        refine gk_again_sel rfl (k + 1, v2, Q ++ [y]) ⟨hlt, hst.symm⟩ (by dsimp only; omega) (by repeat (first | exact trivial | refine ⟨rfl, ?_⟩)) sA sS
      · rw [if_neg (fun h => h.elim hf hm), ← hQ] at hst
        refine g_say 24 (.bool false) rfl (congrArg Value.bool (tB_false hm)) ?_
        (repeat' (first | (refine gG ?_; try intro _) | ((first | refine g_split rfl rfl tE (fun _ => ?_) (fun _ => ?_) | refine gk_cond rfl rfl tE (fun _ => ?_) (fun _ => ?_)) <;> (try first | (exfalso; omega; done) | (rename_i hx; exact absurd rfl hx) | (rename_i hx; cases hx; done)))))
        refine gk_say 12 (.int .i64 ((k + 1 : Nat) : Int)) rfl (by first | (congr 1; done) | (congr 1; omega)) ?_
        refine gk_again_sel rfl (k + 1, v, Q) ⟨hlt, hst.symm⟩ (by dsimp only; omega) (by repeat (first | exact trivial | refine ⟨rfl, ?_⟩)) sA sS
  · have hkl : L.take k = L := List.take_of_length_le (by omega)
    rw [hkl] at hQ
    rw [← hQ]
    (repeat' (first | (refine gG ?_; try intro _) | ((first | refine g_split rfl rfl tE (fun _ => ?_) (fun _ => ?_) | refine gk_cond rfl rfl tE (fun _ => ?_) (fun _ => ?_)) <;> (try first | (exfalso; omega; done) | (rename_i hx; exact absurd rfl hx) | (rename_i hx; cases hx; done)))))
    refine gk_freeze _ (by intro _; first | ((repeat (first | with_reducible exact Upd.here _ | with_reducible apply Upd.there)); done) | ((repeat (first | exact Upd.here _ | apply Upd.there)); done) | fail) (fun A4 c4 hA4 hA41 hA42 hA43 => ?_); subst hA4
    refine gk_ret hT rfl rfl (.tmp rfl .nil) (fun w' hk => ?_)
    exact RetS.mk (⟨A4, Q.length, c4⟩ : SlV) ⟨rfl, hA41, hA42, hA43⟩ rfl hk (.cons (RS1.own hk mE) .nil)
theorem rtkeep_any (A : Option Addr) (n c : Nat) (L : List MarkD) (pA : Option Addr) (pn pc : Nat) (P : List Int) (fl : Int) (w : World) (hn : n = L.length) (h9 : n ≤ 1000) (hpn : pn = P.length) (hp9 : pn ≤ 1000) (hs : Rd1 w (sl A 2 ME L)) (hp : Rd1 w (sl pA 1 (IE .u64) P)) :
    Calls Try.prog 53 [.slice A n c, .slice pA pn pc, .int .u64 fl].toArray w (RetS (fun q : SlV => q.Ok (tkeepP L P fl).length) (fun q => q.v) (fun q => [sl q.A 2 ME (tkeepP L P fl)]) [] w) := by
  refine g_enter0 T [] [] [sl A 2 ME L, sl pA 1 (IE .u64) P] Try.func53 rfl Try.ntmps53 rfl (Rds.cons hs (.cons hp .nil)).kn ?_
  (repeat (refine gG ?_; try intro _))
  refine gk_own 0 103 2 ME ?_
  refine gk_loop_sel (fun (q : Nat × Value × (List MarkD)) => match q with | (k, v, Q) => (k ≤ n ∧ Q = tkeepP (L.take k) P fl)) (fun (q : Nat × Value × (List MarkD)) => match q with | (k, v, Q) => [(0, .slice A n c), (1, .slice pA pn pc), (2, .int .u64 fl), (7, v), (8, .int .i64 (k : Int))]) (fun (q : Nat × Value × (List MarkD)) => match q with | (k, v, Q) => [own 0 103 2 v ME Q]) (fun (q : Nat × Value × (List MarkD)) => match q with | (k, v, Q) => [sl A 2 ME L, sl pA 1 (IE .u64) P]) (fun (q : Nat × Value × (List MarkD)) => match q with | (k, v, Q) => n - k) (0, .slice none 0 0, []) rfl ⟨Nat.zero_le _, rfl⟩ (by repeat (first | exact trivial | refine ⟨rfl, ?_⟩)) sA sS ?_
  rintro ⟨k, v, Q⟩ hI
  replace hI : (k ≤ n ∧ Q = tkeepP (L.take k) P fl) := hI
  change GK _ _ [(0, .slice A n c), (1, .slice pA pn pc), (2, .int .u64 fl), (7, v), (8, .int .i64 (k : Int))] [own 0 103 2 v ME Q] [sl A 2 ME L, sl pA 1 (IE .u64) P]
  obtain ⟨hk1, hQ⟩ := hI
  have hQl : Q.length ≤ k := by rw [hQ]; exact Nat.le_trans tkeep_len (List.length_take_le _ _)
  by_cases hlt : k < n
  · obtain ⟨y, hy⟩ : ∃ y, L[k]? = some y := ⟨L[k], List.getElem?_eq_getElem (by omega)⟩
    have hst := tkeep_step (P := P) (fl := fl) hy
    refine gk_elem (A := A) (enc := ME) (L := L) k mE (by omega) (by decide) (fun kb ko y' eA hy' => ?_)
    subst eA
    obtain rfl : y = y' := by rw [hy] at hy'; exact Option.some.inj hy'
    (repeat' (first | (refine gG ?_; try intro _) | ((first | refine g_split rfl rfl tE (fun _ => ?_) (fun _ => ?_) | refine gk_cond rfl rfl tE (fun _ => ?_) (fun _ => ?_)) <;> (try first | (exfalso; omega; done) | (rename_i hx; exact absurd rfl hx) | (rename_i hx; cases hx; done)))))
    refine gk_say 9 (.bool (tB (fl ≤ y.s ∨ y.s ∈ P.take 0))) rfl (congrArg Value.bool (tB_congr ⟨fun h => .inl h, fun h => h.elim id (fun h => by simp at h)⟩)) ?_
    refine gk_loop_sel (fun (q : Nat × Unit) => match q with | (j, u) => (j ≤ pn)) (fun (q : Nat × Unit) => match q with | (j, u) => [(0, .slice (some ⟨kb, ko, none⟩) n c), (1, .slice pA pn pc), (2, .int .u64 fl), (7, v), (8, .int .i64 (k : Int)), (9, .bool (tB (fl ≤ y.s ∨ y.s ∈ P.take j))), (10, .int .i64 (j : Int))]) (fun (q : Nat × Unit) => match q with | (j, u) => [own 0 103 2 v ME Q]) (fun (q : Nat × Unit) => match q with | (j, u) => [row kb (ko + k * 2) (encF ME y 0 2), sl (some ⟨kb, ko, none⟩) 2 ME L, sl pA 1 (IE .u64) P]) (fun (q : Nat × Unit) => match q with | (j, u) => pn - j) (0, ()) rfl (Nat.zero_le _) (by repeat (first | exact trivial | refine ⟨rfl, ?_⟩)) sA sS ?_
    rintro ⟨j, u⟩ hI
    replace hI : (j ≤ pn) := hI
    change GK _ _ [(0, .slice (some ⟨kb, ko, none⟩) n c), (1, .slice pA pn pc), (2, .int .u64 fl), (7, v), (8, .int .i64 (k : Int)), (9, .bool (tB (fl ≤ y.s ∨ y.s ∈ P.take j))), (10, .int .i64 (j : Int))] [own 0 103 2 v ME Q] [row kb (ko + k * 2) (encF ME y 0 2), sl (some ⟨kb, ko, none⟩) 2 ME L, sl pA 1 (IE .u64) P]
    by_cases hj : j < pn
    · obtain ⟨m, hm⟩ : ∃ m, P[j]? = some m := ⟨P[j], List.getElem?_eq_getElem (by omega)⟩
      have hsn := take_snoc hm
      by_cases hs2 : fl ≤ y.s ∨ y.s ∈ P.take j
      · refine gk_say 9 (.bool true) rfl (congrArg Value.bool (tB_true hs2)) ?_
        (repeat' (first | (refine gG ?_; try intro _) | ((first | refine g_split rfl rfl tE (fun _ => ?_) (fun _ => ?_) | refine gk_cond rfl rfl tE (fun _ => ?_) (fun _ => ?_)) <;> (try first | (exfalso; omega; done) | (rename_i hx; exact absurd rfl hx) | (rename_i hx; cases hx; done)))))
        refine gk_drawn_at [0, 1, 2, 3] rfl rfl (by kernel_rfl) ?_
        (repeat (first | refine ga_nil (by decide +kernel) ?_ | refine ga_take (by decide +kernel) rfl rfl (ys_ev (nw := true) hT rfl sI) sF ?_ | refine ga_skip (by decide +kernel) rfl rfl sF ?_ | refine ga_take (by decide +kernel) rfl rfl (ys_blk hT rfl rfl mE rfl rfl) sF ?_ | refine ga_take (by decide +kernel) rfl rfl (ys_row hT rfl rfl mE rfl rfl) sF ?_ | refine ga_take (by decide +kernel) rfl rfl (ys_row0 hT rfl rfl mE rfl rfl) sF ?_ | (refine ga_mv (by decide +kernel) rfl ?_; (first | (refine mv_box rfl rfl rfl rfl ?_; intro _) | (refine mv_alloc rfl hT rfl rfl ?_; intro _) | refine mv_store hT rfl rfl rfl rfl rfl rfl sO rfl ?_ | (refine mv_buildSlice rfl hT rfl rfl rfl rfl rfl rfl rfl rfl ?_; intro _)); refine ⟨sF, ?_⟩) | refine ga_take (by decide +kernel) rfl rfl (ys_eql rfl rfl rfl rfl rfl (by kernel_rfl)) sF ?_ | refine ga_take (by decide +kernel) rfl rfl (ys_neq rfl rfl rfl rfl rfl (by kernel_rfl)) sF ?_))
        (repeat' (first | (refine gG ?_; try intro _) | ((first | refine g_split rfl rfl tE (fun _ => ?_) (fun _ => ?_) | refine gk_cond rfl rfl tE (fun _ => ?_) (fun _ => ?_)) <;> (try first | (exfalso; omega; done) | (rename_i hx; exact absurd rfl hx) | (rename_i hx; cases hx; done)))))
        refine gk_say 9 (.bool (tB (fl ≤ y.s ∨ y.s ∈ P.take (j + 1)))) rfl (congrArg Value.bool (tB_true (hs2.imp id fun h => by rw [hsn]; exact List.mem_append_left _ h)).symm) ?_
        refine gk_again_sel rfl (j + 1, ()) (by omega) (by dsimp only; omega) (by repeat (first | exact trivial | refine ⟨rfl, ?_⟩)) sA sS
      · refine gk_elem (A := pA) (enc := IE .u64) (L := P) j mE (by omega) (by decide) (fun mb mo m' eM hm' => ?_)
        subst eM
        obtain rfl : m = m' := by rw [hm] at hm'; exact Option.some.inj hm'
        refine gk_say 9 (.bool false) rfl (congrArg Value.bool (tB_false hs2)) ?_
        (repeat' (first | (refine gG ?_; try intro _) | ((first | refine g_split rfl rfl tE (fun _ => ?_) (fun _ => ?_) | refine gk_cond rfl rfl tE (fun _ => ?_) (fun _ => ?_)) <;> (try first | (exfalso; omega; done) | (rename_i hx; exact absurd rfl hx) | (rename_i hx; cases hx; done)))))
        refine gk_drawn_at [0, 1, 2, 3, 4] rfl rfl (by kernel_rfl) ?_
        (repeat (first | refine ga_nil (by decide +kernel) ?_ | refine ga_take (by decide +kernel) rfl rfl (ys_ev (nw := true) hT rfl sI) sF ?_ | refine ga_skip (by decide +kernel) rfl rfl sF ?_ | refine ga_take (by decide +kernel) rfl rfl (ys_blk hT rfl rfl mE rfl rfl) sF ?_ | refine ga_take (by decide +kernel) rfl rfl (ys_row hT rfl rfl mE rfl rfl) sF ?_ | refine ga_take (by decide +kernel) rfl rfl (ys_row0 hT rfl rfl mE rfl rfl) sF ?_ | (refine ga_mv (by decide +kernel) rfl ?_; (first | (refine mv_box rfl rfl rfl rfl ?_; intro _) | (refine mv_alloc rfl hT rfl rfl ?_; intro _) | refine mv_store hT rfl rfl rfl rfl rfl rfl sO rfl ?_ | (refine mv_buildSlice rfl hT rfl rfl rfl rfl rfl rfl rfl rfl ?_; intro _)); refine ⟨sF, ?_⟩) | refine ga_take (by decide +kernel) rfl rfl (ys_eql rfl rfl rfl rfl rfl (by kernel_rfl)) sF ?_ | refine ga_take (by decide +kernel) rfl rfl (ys_neq rfl rfl rfl rfl rfl (by kernel_rfl)) sF ?_))
        (repeat' (first | (refine gG ?_; try intro _) | ((first | refine g_split rfl rfl tE (fun _ => ?_) (fun _ => ?_) | refine gk_cond rfl rfl tE (fun _ => ?_) (fun _ => ?_)) <;> (try first | (exfalso; omega; done) | (rename_i hx; exact absurd rfl hx) | (rename_i hx; cases hx; done)))))
        refine gk_say 9 (.bool (tB (fl ≤ y.s ∨ y.s ∈ P.take (j + 1)))) rfl (congrArg Value.bool (tB_congr (p := m = y.s) ⟨fun e => .inr (by rw [hsn, ← e]; simp), fun e => by
          rw [hsn, List.mem_append, List.mem_singleton] at e
          rcases e with e | e | e
          · exact absurd (.inl e) hs2
          · exact absurd (.inr e) hs2
          · exact e.symm⟩)) ?_
        refine gk_again_sel rfl (j + 1, ()) (by omega) (by dsimp only; omega) (by repeat (first | exact trivial | refine ⟨rfl, ?_⟩)) sA sS
    · have hjl : P.take j = P := List.take_of_length_le (by omega)
      rw [hjl]
      by_cases hm : fl ≤ y.s ∨ y.s ∈ P
      · rw [if_pos hm, ← hQ] at hst
        refine gk_say 9 (.bool true) rfl (congrArg Value.bool (tB_true hm)) ?_
        (repeat' (first | (refine gG ?_; try intro _) | ((first | refine g_split rfl rfl tE (fun _ => ?_) (fun _ => ?_) | refine gk_cond rfl rfl tE (fun _ => ?_) (fun _ => ?_)) <;> (try first | (exfalso; omega; done) | (rename_i hx; exact absurd rfl hx) | (rename_i hx; cases hx; done)))))
        refine g_mv rfl (mv_append (L := Q) rfl [y] rfl rfl rfl rfl elt_M (by intro _; first | ((repeat (first | with_reducible exact Upd.here _ | with_reducible apply Upd.there)); done) | ((repeat (first | exact Upd.here _ | apply Upd.there)); done) | fail) (src_blk mE rfl) rfl oneM (by simp only [maxLen, List.length_append, List.length_cons, List.length_nil]; omega) (by simp only [List.length_append, List.length_cons, List.length_nil]; omega) (Nat.zero_le _) (fun v2 => ?_))
        (repeat' (first | (refine gG ?_; try intro _) | ((first | refine g_split rfl rfl tE (fun _ => ?_) (fun _ => ?_) | refine gk_cond rfl rfl tE (fun _ => ?_) (fun _ => ?_)) <;> (try first | (exfalso; omega; done) | (rename_i hx; exact absurd rfl hx) | (rename_i hx; cases hx; done)))))
        refine gk_again_sel rfl (k + 1, v2, Q ++ [y]) ⟨hlt, hst.symm⟩ (by dsimp only; omega) (by repeat (first | exact trivial | refine ⟨rfl, ?_⟩)) sA sS
      · rw [if_neg hm, ← hQ] at hst
        refine gk_say 9 (.bool false) rfl (congrArg Value.bool (tB_false hm)) ?_
        (repeat' (first | (refine gG ?_; try intro _) | ((first | refine g_split rfl rfl tE (fun _ => ?_) (fun _ => ?_) | refine gk_cond rfl rfl tE (fun _ => ?_) (fun _ => ?_)) <;> (try first | (exfalso; omega; done) | (rename_i hx; exact absurd rfl hx) | (rename_i hx; cases hx; done)))))
        refine gk_again_sel rfl (k + 1, v, Q) ⟨hlt, hst.symm⟩ (by dsimp only; omega) (by repeat (first | exact trivial | refine ⟨rfl, ?_⟩)) sA sS
  · have hkl : L.take k = L := List.take_of_length_le (by omega)
    rw [hkl] at hQ
    rw [← hQ]
    (repeat' (first | (refine gG ?_; try intro _) | ((first | refine g_split rfl rfl tE (fun _ => ?_) (fun _ => ?_) | refine gk_cond rfl rfl tE (fun _ => ?_) (fun _ => ?_)) <;> (try first | (exfalso; omega; done) | (rename_i hx; exact absurd rfl hx) | (rename_i hx; cases hx; done)))))
    refine gk_freeze _ (by intro _; first | ((repeat (first | with_reducible exact Upd.here _ | with_reducible apply Upd.there)); done) | ((repeat (first | exact Upd.here _ | apply Upd.there)); done) | fail) (fun A4 c4 hA4 hA41 hA42 hA43 => ?_); subst hA4
    refine gk_ret hT rfl rfl (.tmp rfl .nil) (fun w' hk => ?_)
    exact RetS.mk (⟨A4, Q.length, c4⟩ : SlV) ⟨rfl, hA41, hA42, hA43⟩ rfl hk (.cons (RS1.own hk mE) .nil)
end Go.Proofs.Ytgpfedmfbkhhcaa.Po

