/- Names: places in a row, a row without one. -/
import Derived.Test.YtdkgmgfadpnhbaaNm2
namespace Go.Proofs.Ytdkgmgfadpnhbaa.Nm
open Go.RowKit Mem Gx
set_option linter.unusedVariables false
set_option linter.unusedSimpArgs false
set_option maxRecDepth 100000
set_option maxHeartbeats 1000000
theorem oneN : ∀ (x : NmD) (j : Nat), (NE x j).oneCell' = true := by
  intro x j
  rcases j with _ | j <;> rfl
theorem elt_N : Elt Try.prog 67 75 2 24 := Elt.mk' (z := .agg #[.int .i64 0, .string ⟨#[]⟩]) Try.underlying67 (by kernel_rfl) rfl (by decide)
theorem by_any (A : Option Addr) (n c : Nat) (L : List NmD) (id : Int) (w : World) (hn : n = L.length) (h9 : n ≤ 10000) (hs : Rd1 w (sl A 2 NE L)) :
    Calls Try.prog 23 [.slice A n c, .int .i64 id].toArray w fun e w' => e = .returned (.int .i64 (posF (pI id) L)) ∧ Below w.heap.size w w' := by
  refine g_enter0 T [] [] [sl A 2 NE L] Try.func23 rfl Try.ntmps23 rfl (Rds.cons hs .nil).kn ?_
  (repeat (refine gG ?_; try intro _))
  refine gk_loop_sel (fun (q : Nat × Unit) => match q with | (i, z) => (i ≤ n ∧ ∀ j z, j < i → L[j]? = some z → pI id z = false)) (fun (q : Nat × Unit) => match q with | (i, z) => [(0, .slice A n c), (1, .int .i64 id), (5, .int .i64 (i : Int))]) (fun (q : Nat × Unit) => match q with | (i, z) => []) (fun (q : Nat × Unit) => match q with | (i, z) => [sl A 2 NE L]) (fun (q : Nat × Unit) => match q with | (i, z) => n - i) (0, ()) rfl ⟨Nat.zero_le _, fun j z h => absurd h (Nat.not_lt_zero _)⟩ (by repeat (first | exact trivial | refine ⟨rfl, ?_⟩)) sA sS ?_
  rintro ⟨i, z⟩ hI
  replace hI : (i ≤ n ∧ ∀ j z, j < i → L[j]? = some z → pI id z = false) := hI
  change GK _ _ [(0, .slice A n c), (1, .int .i64 id), (5, .int .i64 (i : Int))] [] [sl A 2 NE L]
  obtain ⟨hi, hno⟩ := hI
  by_cases hlt : i < n
  · obtain ⟨y, hy⟩ : ∃ b, L[i]? = some b := ⟨L[i], List.getElem?_eq_getElem (by omega)⟩
    refine gk_elem (enc := NE) (L := L) i mE (by omega) (by decide) (fun g o y' eA hy' => ?_)
    subst eA
    obtain rfl : y = y' := by rw [hy] at hy'; exact Option.some.inj hy'
    by_cases he : y.id = id
    · have hp := posF_some (p := pI id) hy (by simp [he]) hno
      (repeat' (first | (refine gG ?_; try intro _) | ((first | refine g_split rfl rfl tE (fun _ => ?_) (fun _ => ?_) | refine gk_cond rfl rfl tE (fun _ => ?_) (fun _ => ?_)) <;> (try first | (exfalso; omega; done) | (rename_i hx; exact absurd rfl hx) | (rename_i hx; cases hx; done)))))
      refine gk_ret hT rfl rfl (.tmp rfl .nil) (fun w' hk => ?_)
      exact ⟨by rw [hp]; rfl, hk.toBelow⟩
    · have hI2 : i + 1 ≤ n ∧ ∀ j z, j < i + 1 → L[j]? = some z → pI id z = false := ⟨hlt, fun j u hj hu => by
        by_cases e : j = i
        · subst e; rw [hy] at hu; obtain rfl := Option.some.inj hu; simp [he]
        · exact hno j u (by omega) hu⟩
      (repeat' (first | (refine gG ?_; try intro _) | ((first | refine g_split rfl rfl tE (fun _ => ?_) (fun _ => ?_) | refine gk_cond rfl rfl tE (fun _ => ?_) (fun _ => ?_)) <;> (try first | (exfalso; omega; done) | (rename_i hx; exact absurd rfl hx) | (rename_i hx; cases hx; done)))))
      refine gk_say 5 (.int .i64 ((i + 1 : Nat) : Int)) rfl (by first | (congr 1; done) | (congr 1; omega)) ?_
      refine gk_again_sel rfl (i + 1, ()) hI2 (by dsimp only; omega) (by repeat (first | exact trivial | refine ⟨rfl, ?_⟩)) sA sS
  · have hp := posF_none (p := pI id) (l := L) fun y hy => by
      obtain ⟨j, hj⟩ := List.getElem?_of_mem hy
      exact hno j y (by have := (List.getElem?_eq_some_iff.1 hj).1; omega) hj
    (repeat' (first | (refine gG ?_; try intro _) | ((first | refine g_split rfl rfl tE (fun _ => ?_) (fun _ => ?_) | refine gk_cond rfl rfl tE (fun _ => ?_) (fun _ => ?_)) <;> (try first | (exfalso; omega; done) | (rename_i hx; exact absurd rfl hx) | (rename_i hx; cases hx; done)))))
    refine gk_ret hT rfl rfl (.tmp rfl .nil) (fun w' hk => ?_)
    exact ⟨by rw [hp]; rfl, hk.toBelow⟩
theorem of_any (A : Option Addr) (n c : Nat) (L : List NmD) (s : ByteArray) (w : World) (hn : n = L.length) (h9 : n ≤ 10000) (hs : Rd1 w (sl A 2 NE L)) :
    Calls Try.prog 26 [.slice A n c, .string s].toArray w fun e w' => e = .returned (.int .i64 (posF (pS s) L)) ∧ Below w.heap.size w w' := by
  refine g_enter0 T [] [] [sl A 2 NE L] Try.func26 rfl Try.ntmps26 rfl (Rds.cons hs .nil).kn ?_
  (repeat (refine gG ?_; try intro _))
  refine gk_loop_sel (fun (q : Nat × Unit) => match q with | (i, z) => (i ≤ n ∧ ∀ j z, j < i → L[j]? = some z → pS s z = false)) (fun (q : Nat × Unit) => match q with | (i, z) => [(0, .slice A n c), (1, .string s), (5, .int .i64 (i : Int))]) (fun (q : Nat × Unit) => match q with | (i, z) => []) (fun (q : Nat × Unit) => match q with | (i, z) => [sl A 2 NE L]) (fun (q : Nat × Unit) => match q with | (i, z) => n - i) (0, ()) rfl ⟨Nat.zero_le _, fun j z h => absurd h (Nat.not_lt_zero _)⟩ (by repeat (first | exact trivial | refine ⟨rfl, ?_⟩)) sA sS ?_
  rintro ⟨i, z⟩ hI
  replace hI : (i ≤ n ∧ ∀ j z, j < i → L[j]? = some z → pS s z = false) := hI
  change GK _ _ [(0, .slice A n c), (1, .string s), (5, .int .i64 (i : Int))] [] [sl A 2 NE L]
  obtain ⟨hi, hno⟩ := hI
  by_cases hlt : i < n
  · obtain ⟨y, hy⟩ : ∃ b, L[i]? = some b := ⟨L[i], List.getElem?_eq_getElem (by omega)⟩
    refine gk_elem (enc := NE) (L := L) i mE (by omega) (by decide) (fun g o y' eA hy' => ?_)
    subst eA
    obtain rfl : y = y' := by rw [hy] at hy'; exact Option.some.inj hy'
    by_cases he : y.s = s
    · have hp := posF_some (p := pS s) hy (by simp [he]) hno
      subst he
      (repeat (refine gG ?_; try intro _))
      refine gk_cond_t rfl (congrArg some (congrArg Value.bool (tB_true (by omega)))) ?_
      (repeat (refine gG ?_; try intro _))
      refine gk_cond_t rfl (congrArg some (congrArg Value.bool (tB_true rfl))) ?_
      (repeat (refine gG ?_; try intro _))
      refine gk_ret hT rfl rfl (.tmp rfl .nil) (fun w' hk => ?_)
      exact ⟨by rw [hp]; rfl, hk.toBelow⟩
    · have hI2 : i + 1 ≤ n ∧ ∀ j z, j < i + 1 → L[j]? = some z → pS s z = false := ⟨hlt, fun j u hj hu => by
        by_cases e : j = i
        · subst e; rw [hy] at hu; obtain rfl := Option.some.inj hu; simp [he]
        · exact hno j u (by omega) hu⟩
      (repeat (refine gG ?_; try intro _))
      refine gk_cond_t rfl (congrArg some (congrArg Value.bool (tB_true (by omega)))) ?_
      (repeat (refine gG ?_; try intro _))
      refine gk_cond_f rfl (congrArg some (congrArg Value.bool (tB_false he))) ?_
      (repeat (refine gG ?_; try intro _))
      refine gk_say 5 (.int .i64 ((i + 1 : Nat) : Int)) rfl (by first | (congr 1; done) | (congr 1; omega)) ?_
      refine gk_again_sel rfl (i + 1, ()) hI2 (by dsimp only; omega) (by repeat (first | exact trivial | refine ⟨rfl, ?_⟩)) sA sS
  · have hp := posF_none (p := pS s) (l := L) fun y hy => by
      obtain ⟨j, hj⟩ := List.getElem?_of_mem hy
      exact hno j y (by have := (List.getElem?_eq_some_iff.1 hj).1; omega) hj
    (repeat' (first | (refine gG ?_; try intro _) | ((first | refine g_split rfl rfl tE (fun _ => ?_) (fun _ => ?_) | refine gk_cond rfl rfl tE (fun _ => ?_) (fun _ => ?_)) <;> (try first | (exfalso; omega; done) | (rename_i hx; exact absurd rfl hx) | (rename_i hx; cases hx; done)))))
    refine gk_ret hT rfl rfl (.tmp rfl .nil) (fun w' hk => ?_)
    exact ⟨by rw [hp]; rfl, hk.toBelow⟩
theorem without_no (A : Option Addr) (n c : Nat) (w : World) :
    Calls Try.prog 25 [.slice A n c, .int .i64 (-1)].toArray w fun e w' => e = .returned (.slice A n c) ∧ Below w.heap.size w w' := by
  refine g_enter0 T [] [] [] Try.func25 rfl Try.ntmps25 rfl (Kn.start _) ?_
  (repeat' (first | (refine gG ?_; try intro _) | ((first | refine g_split rfl rfl tE (fun _ => ?_) (fun _ => ?_) | refine gk_cond rfl rfl tE (fun _ => ?_) (fun _ => ?_)) <;> (try first | (exfalso; omega; done) | (rename_i hx; exact absurd rfl hx) | (rename_i hx; cases hx; done)))))
  refine gk_ret hT rfl rfl (.tmp rfl .nil) (fun w' hk => ?_)
  exact ⟨rfl, hk.toBelow⟩
theorem without_at (A : Option Addr) (n c i : Nat) (L : List NmD) (w : World) (hn : (SlV.mk A n c).Ok L.length) (h9 : n ≤ 10000) (hi : i < n) (hs : Rd1 w (sl A 2 NE L)) :
    Calls Try.prog 25 [.slice A n c, .int .i64 (i : Int)].toArray w (Ret (fun _ : Value => True) (fun v => v) (fun v => [own 0 75 2 v NE (L.take i ++ L.drop (i + 1))]) w) := by
  obtain ⟨h1, h2, h3, h4⟩ := hn
  dsimp only at h1 h2 h3 h4
  refine g_enter0 T [] [] [sl A 2 NE L] Try.func25 rfl Try.ntmps25 rfl (Rds.cons hs .nil).kn ?_
  refine gk_elem (enc := NE) (L := L) i mE (by omega) (by decide) (fun g o y eA hy => ?_)
  subst eA
  (repeat' (first | (refine gG ?_; try intro _) | ((first | refine g_split rfl rfl tE (fun _ => ?_) (fun _ => ?_) | refine gk_cond rfl rfl tE (fun _ => ?_) (fun _ => ?_)) <;> (try first | (exfalso; omega; done) | (rename_i hx; exact absurd rfl hx) | (rename_i hx; cases hx; done)))))
  refine gk_takeS i c mE (by omega) ?_
  refine gk_dropS (L := L) (i + 1) c mE (by omega) ?_
  have hlT : (L.take i).length = i := by rw [List.length_take]; omega
  have hlD : (L.drop (i + 1)).length = n - (i + 1) := by rw [List.length_drop]; omega
  refine gk_any [0, 1, 2] (Cut _ (fun v : Value => [(4, v)]) (fun v => [own 0 75 2 v NE (L.take i ++ L.drop (i + 1))]) (fun _ => [])) rfl rfl (by kernel_rfl) ?_ (cut_k fun v => ?_)
  · skip
    refine gb_take 1 rfl (by decide +kernel) rfl rfl (ys_ev (nw := true) hT rfl sI) sF ?_
    refine gb_take 2 rfl (by decide +kernel) rfl rfl (ys_ev (nw := true) hT rfl sI) sF ?_
    refine gb_take 3 rfl (by decide +kernel) rfl rfl (ys_slice_h hT i rfl rfl rfl rfl rfl (by omega)) sF ?_
    refine gb_take 5 rfl (by decide +kernel) rfl rfl (ys_ev (nw := true) hT rfl sI) sF ?_
    refine gb_take 6 rfl (by decide +kernel) rfl rfl (ys_ev (nw := true) hT rfl sI) sF ?_
    refine gb_take 7 rfl (by decide +kernel) rfl rfl (ys_ev (nw := true) hT rfl sI) sF ?_
    refine gb_take 8 rfl (by decide +kernel) rfl rfl (ys_slice_l hT (i + 1) rfl rfl rfl rfl (by push_cast; rfl) (by omega)) sF ?_
    refine gb_only 0 (by decide +kernel) rfl rfl ?_
    (refine mv_empty 2 NE rfl hT rfl rfl rfl rfl rfl ?_; intro g1)
    refine ⟨sF, ?_⟩
    refine gb_only 4 (by decide +kernel) rfl rfl ?_
    (refine mv_append (L := []) rfl (L.take i) rfl rfl rfl rfl elt_N (by intro _; first | ((repeat (first | with_reducible exact Upd.here _ | with_reducible apply Upd.there)); done) | ((repeat (first | exact Upd.here _ | apply Upd.there)); done) | fail) (src_R mE) (by omega) oneN (by first | omega | (simp only [maxLen, List.length_append, List.length_nil]; omega)) (by first | omega | (simp only [List.length_append, List.length_nil]; omega)) (Nat.zero_le _) ?_; intro v1)
    refine ⟨sF, ?_⟩
    refine gb_only 9 (by decide +kernel) rfl rfl ?_
    (refine mv_append (L := L.take i) rfl (L.drop (i + 1)) rfl rfl rfl rfl elt_N (by intro _; first | ((repeat (first | with_reducible exact Upd.here _ | with_reducible apply Upd.there)); done) | ((repeat (first | exact Upd.here _ | apply Upd.there)); done) | fail) (src_R mE) (by omega) oneN (by first | omega | (simp only [maxLen, List.length_append]; omega)) (by first | omega | (simp only [List.length_append]; omega)) (Nat.zero_le _) ?_; intro v2)
    refine ⟨sF, ?_⟩
    refine gb_take 10 rfl (by decide +kernel) rfl rfl (ys_ev (nw := true) hT rfl sI) sF ?_
    refine gb_nil (by decide +kernel) ?_
    exact ⟨v2, (by repeat (first | exact trivial | refine ⟨rfl, ?_⟩)), sA, sS⟩
  · (repeat (refine gG ?_; try intro _))
    refine gk_ret hT rfl rfl (.tmp rfl .nil) (fun w' hk => ?_)
    exact Ret.mk v trivial rfl hk sA
end Go.Proofs.Ytdkgmgfadpnhbaa.Nm

