/- extent.Of, Blocks. -/
import Derived.Test.YtmehbhabheokbaaEx1
namespace Go.Proofs.Ytmehbhabheokbaa.Ex
open Go.RowKit Mem Gx Dd
set_option linter.unusedVariables false
set_option linter.unusedSimpArgs false
set_option maxRecDepth 100000
set_option maxHeartbeats 1000000
theorem rightE_m {e : Int} {L : List RunD} (h : rightE e L) : ∀ r ∈ L, 1 ≤ r.m ∧ r.m ≤ 4097 ∧ 0 ≤ r.f ∧ r.f ≤ 4096 := by
  induction L generalizing e with
  | nil => intro r hr; cases hr
  | cons x L ih =>
    intro r hr
    obtain ⟨⟨h1, h2, h3, h4, h5⟩, h6⟩ := h
    rcases List.mem_cons.1 hr with rfl | hr
    · exact ⟨h1, h4, h3, h5⟩
    · exact ih h6 r hr
theorem expR_len (r : RunD) : (expR r).length = r.m.toNat := by simp [expR]
theorem exp_len {L : List RunD} (h : ∀ r ∈ L, r.m ≤ 4097) : (exp L).length ≤ 4097 * L.length := by
  induction L with
  | nil => simp [exp]
  | cons x L ih =>
    have := ih fun r hr => h r (List.mem_cons_of_mem _ hr)
    have := h x (.head _)
    have e : exp (x :: L) = expR x ++ exp L := rfl
    rw [e, List.length_append, expR_len, List.length_cons]
    omega
/-- The blocks of runs that are a set. -/
noncomputable def blocksP (L : List RunD) : List Int := if tB (rightE (-1) L) then exp L else []
theorem xblocks_any (A : Option Addr) (n c : Nat) (L : List RunD) (w : World) (hn : n = L.length) (h9 : n ≤ 1000) (hs : Rd1 w (sl A 2 RE L)) :
    Calls Try.prog 39 [.slice A n c].toArray w (Ret (fun _ : Value => True) (fun v => v) (fun v => [own 0 3 1 v (IE .i64) (blocksP L)]) w) := by
  refine g_enter0 T [] [] [sl A 2 RE L] Try.func39 rfl Try.ntmps39 rfl (Rds.cons hs .nil).kn ?_
  by_cases hr : rightE (-1) L
  · have e : blocksP L = exp L := by unfold blocksP; rw [tB_true hr]; rfl
    have hm := rightE_m hr
    rw [e]
    (repeat' (first | (refine gG ?_; try intro _) | (refine g_mv rfl ?_; first | refine mv_call_bel (fun w hk => by have hc := xright_any A n c L w hn (by omega) (hk.rR mE); rw [tB_true hr] at hc; exact hc) rfl rfl rfl rfl rfl (by kernel_rfl) ?_) | ((first | refine g_split rfl rfl tE (fun _ => ?_) (fun _ => ?_) | refine gk_cond rfl rfl tE (fun _ => ?_) (fun _ => ?_)) <;> (try first | (exfalso; omega; done) | (rename_i hx; exact absurd rfl hx) | (rename_i hx; cases hx; done)))))
    refine gk_own 0 3 1 (IE .i64) ?_
    refine gk_loop_sel (fun (q : Nat × Value) => match q with | (i, v) => (i ≤ n)) (fun (q : Nat × Value) => match q with | (i, v) => [(3, v), (10, .slice A n c), (11, .int .i64 (n : Int)), (12, .int .i64 (i : Int))]) (fun (q : Nat × Value) => match q with | (i, v) => [own 0 3 1 v (IE .i64) (exp (L.take i))]) (fun (q : Nat × Value) => match q with | (i, v) => [sl A 2 RE L]) (fun (q : Nat × Value) => match q with | (i, v) => n - i) (0, .slice none 0 0) rfl (Nat.zero_le _) (by repeat (first | exact trivial | refine ⟨rfl, ?_⟩)) sA sS ?_
    rintro ⟨i, v⟩ hI
    replace hI : (i ≤ n) := hI
    change GK _ _ [(3, v), (10, .slice A n c), (11, .int .i64 (n : Int)), (12, .int .i64 (i : Int))] [own 0 3 1 v (IE .i64) (exp (L.take i))] [sl A 2 RE L]
    by_cases hlt : i < n
    · obtain ⟨r, hr⟩ : ∃ r, L[i]? = some r := ⟨L[i], List.getElem?_eq_getElem (by omega)⟩
      have hmr := hm r (List.mem_of_getElem? hr)
      have et : exp (L.take (i + 1)) = exp (L.take i) ++ expR r := by rw [take_at hr, exp_snoc]
      have hlen : (exp (L.take i)).length ≤ 4097 * i := Nat.le_trans (exp_len fun r hr => (hm r (List.mem_of_mem_take hr)).2.1) (by rw [List.length_take, Nat.min_eq_left (by omega)]; exact Nat.le_refl _)
      refine gk_elem (enc := RE) (L := L) i mE (by omega) (by decide) (fun b o y eA hy => ?_)
      subst eA
      obtain rfl : r = y := by rw [hr] at hy; exact Option.some.inj hy
      (repeat' (first | (refine gG ?_; try intro _) | ((first | refine g_split rfl rfl tE (fun _ => ?_) (fun _ => ?_) | refine gk_cond rfl rfl tE (fun _ => ?_) (fun _ => ?_)) <;> (try first | (exfalso; omega; done) | (rename_i hx; exact absurd rfl hx) | (rename_i hx; cases hx; done)))))
      rename_i g5
      rw [show exp (L.take i) = exp (L.take i) ++ (expR r).take 0 by simp]
      refine gk_loop_sel (fun (q : Nat × Value) => match q with | (k, v) => ((k : Int) ≤ r.m)) (fun (q : Nat × Value) => match q with | (k, v) => [(3, v), (5, .pointer (some ⟨g5, 0, none⟩)), (10, .slice (some ⟨b, o, none⟩) n c), (11, .int .i64 (n : Int)), (12, .int .i64 (i : Int)), (17, .int .i64 r.m), (18, .int .i64 (k : Int))]) (fun (q : Nat × Value) => match q with | (k, v) => [blk g5 [.int .i64 r.f, .int .i64 r.m] 111, own 0 3 1 v (IE .i64) (exp (L.take i) ++ (expR r).take k)]) (fun (q : Nat × Value) => match q with | (k, v) => [sl (some ⟨b, o, none⟩) 2 RE L]) (fun (q : Nat × Value) => match q with | (k, v) => r.m.toNat - k) (0, v) rfl (by show (0 : Int) ≤ r.m; omega) (by repeat (first | exact trivial | refine ⟨rfl, ?_⟩)) sA sS ?_
      rintro ⟨k, v⟩ hI
      replace hI : ((k : Int) ≤ r.m) := hI
      change GK _ _ [(3, v), (5, .pointer (some ⟨g5, 0, none⟩)), (10, .slice (some ⟨b, o, none⟩) n c), (11, .int .i64 (n : Int)), (12, .int .i64 (i : Int)), (17, .int .i64 r.m), (18, .int .i64 (k : Int))] [blk g5 [.int .i64 r.f, .int .i64 r.m] 111, own 0 3 1 v (IE .i64) (exp (L.take i) ++ (expR r).take k)] [sl (some ⟨b, o, none⟩) 2 RE L]
      by_cases hk : (k : Int) < r.m
      · have ek : (expR r)[k]? = some (r.f + (k : Int)) := by
          unfold expR
          rw [List.getElem?_map, List.getElem?_range (by omega)]
          rfl
        have ht := take_at ek
        have hle : ((expR r).take k).length ≤ 4097 := by rw [List.length_take, expR_len]; omega
        (repeat' (first | (refine gG ?_; try intro _) | ((first | refine g_split rfl rfl tE (fun _ => ?_) (fun _ => ?_) | refine gk_cond rfl rfl tE (fun _ => ?_) (fun _ => ?_)) <;> (try first | (exfalso; omega; done) | (rename_i hx; exact absurd rfl hx) | (rename_i hx; cases hx; done)))))
        refine g_mv rfl (mv_append (L := exp (L.take i) ++ (expR r).take k) rfl [r.f + (k : Int)] rfl rfl rfl rfl elt_I (by intro _; first | ((repeat (first | with_reducible exact Upd.here _ | with_reducible apply Upd.there)); done) | ((repeat (first | exact Upd.here _ | apply Upd.there)); done) | fail) (src_blk mE rfl) rfl oneI (by simp only [maxLen, List.length_append, List.length_cons, List.length_nil]; omega) (by simp only [List.length_append, List.length_cons, List.length_nil]; omega) (Nat.zero_le _) (fun v1 => ?_))
        (repeat (refine gG ?_; try intro _))
        refine gk_say 18 (.int .i64 ((k + 1 : Nat) : Int)) rfl (by first | (congr 1; done) | (congr 1; omega)) ?_
        rw [List.append_assoc, ← ht]
        refine gk_again_sel rfl (k + 1, v1) (by show ((k + 1 : Nat) : Int) ≤ r.m; omega) (by dsimp only; omega) (by repeat (first | exact trivial | refine ⟨rfl, ?_⟩)) sA sS
      · have ht : (expR r).take k = expR r := List.take_of_length_le (by rw [expR_len]; omega)
        rw [ht, ← et]
        (repeat' (first | (refine gG ?_; try intro _) | ((first | refine g_split rfl rfl tE (fun _ => ?_) (fun _ => ?_) | refine gk_cond rfl rfl tE (fun _ => ?_) (fun _ => ?_)) <;> (try first | (exfalso; omega; done) | (rename_i hx; exact absurd rfl hx) | (rename_i hx; cases hx; done)))))
        refine gk_say 12 (.int .i64 ((i + 1 : Nat) : Int)) rfl (by first | (congr 1; done) | (congr 1; omega)) ?_
        refine gk_again_sel rfl (i + 1, v) (by omega) (by dsimp only; omega) (by repeat (first | exact trivial | refine ⟨rfl, ?_⟩)) sA sS
    · have ht : L.take i = L := List.take_of_length_le (by omega)
      rw [ht]
      (repeat' (first | (refine gG ?_; try intro _) | ((first | refine g_split rfl rfl tE (fun _ => ?_) (fun _ => ?_) | refine gk_cond rfl rfl tE (fun _ => ?_) (fun _ => ?_)) <;> (try first | (exfalso; omega; done) | (rename_i hx; exact absurd rfl hx) | (rename_i hx; cases hx; done)))))
      refine gk_ret hT rfl rfl (.tmp rfl .nil) (fun w' hk => ?_)
      exact Ret.mk v trivial rfl hk sA
  · have e : blocksP L = [] := by unfold blocksP; rw [tB_false hr]; rfl
    rw [e]
    (repeat' (first | (refine gG ?_; try intro _) | (refine g_mv rfl ?_; first | refine mv_call_bel (fun w hk => by have hc := xright_any A n c L w hn (by omega) (hk.rR mE); rw [tB_false hr] at hc; exact hc) rfl rfl rfl rfl rfl (by kernel_rfl) ?_) | ((first | refine g_split rfl rfl tE (fun _ => ?_) (fun _ => ?_) | refine gk_cond rfl rfl tE (fun _ => ?_) (fun _ => ?_)) <;> (try first | (exfalso; omega; done) | (rename_i hx; exact absurd rfl hx) | (rename_i hx; cases hx; done)))))
    refine gk_own 0 3 1 (IE .i64) ?_
    refine gk_ret hT rfl rfl (.tmp rfl .nil) (fun w' hk => ?_)
    exact Ret.mk (.slice none 0 0) trivial rfl hk sA
theorem comp_own (v : Value) (L : List Int) (w : World) (h9 : L.length ≤ 1000000) (h : Rd1 w (own 0 3 1 v (IE .i64) L)) :
    Calls Try.prog 100 [v].toArray w (RetM (own 0 3 1 v (IE .i64) L) (fun s : Value => True) (fun s => s) (fun s => own 0 3 1 s (IE .i64) (dd L)) w) := by
  rcases L with _ | ⟨x, L⟩
  · obtain ⟨A, c, rfl, _⟩ := own_rdv h
    exact (SoI.comp_nil A c w).mono fun e w' ⟨he, hb⟩ => ⟨_, trivial, he, .of_below h hb⟩
  · obtain ⟨b, c, hv, hc, hm⟩ := own_at0 (h.1) (by simp)
    subst hv
    exact (SoI.comp_any b _ c (x :: L) w rfl h9 h).mono fun e w' ⟨_, _, he, hb⟩ => ⟨_, trivial, he, hb⟩
theorem xof_any (A : Option Addr) (n c : Nat) (L : List Int) (w : World) (hn : n = L.length) (h9 : n ≤ 1000) (hs : Rd1 w (sl A 1 (IE .i64) L)) :
    Calls Try.prog 35 [.slice A n c].toArray w (Ret (fun _ : Value => True) (fun v => v) (fun v => [own 0 111 2 v RE (ofP L)]) w) := by
  refine g_enter0 T [] [] [sl A 1 (IE .i64) L] Try.func35 rfl Try.ntmps35 rfl (Rds.cons hs .nil).kn ?_
  (repeat (refine gG ?_; try intro _))
  refine g_mv rfl ?_; refine mv_call_rt (fun w hk => cloneI_own A n c L w hn (by omega) (hk.pR (sl A 1 (IE .i64) L) mE)) rfl rfl rfl rfl rfl (by kernel_rfl) (fun _ => rfl) (fun v1 _ => ?_)
  (repeat (refine gG ?_; try intro _))
  refine g_mv rfl (mv_call_mod (φ := own 0 3 1 v1 (IE .i64) L) (ψ := fun L' : List Int => own 0 3 1 v1 (IE .i64) L') (fun w1 hk => by exact SoI.sort_any v1 L w1 (by omega) (hk.rO (φ := own 0 3 1 v1 (IE .i64) L) mE)) rfl rfl rfl rfl rfl (by kernel_rfl) (by intro _; first | ((repeat (first | with_reducible exact Upd.here _ | with_reducible apply Upd.there)); done) | ((repeat (first | exact Upd.here _ | apply Upd.there)); done) | fail) (fun S hS => ?_))
  obtain rfl := srt_of hS.1 hS.2
  clear hS
  have hl := srt_len L
  (repeat (refine gG ?_; try intro _))
  refine g_mv rfl (mv_call_mod (φ := own 0 3 1 v1 (IE .i64) (srt L)) (ψ := fun s : Value => own 0 3 1 s (IE .i64) (dd (srt L))) (fun w1 hk => by exact comp_own v1 (srt L) w1 (by omega) (hk.rO (φ := own 0 3 1 v1 (IE .i64) (srt L)) mE)) rfl rfl rfl rfl rfl (by kernel_rfl) (by intro _; first | ((repeat (first | with_reducible exact Upd.here _ | with_reducible apply Upd.there)); done) | ((repeat (first | exact Upd.here _ | apply Upd.there)); done) | fail) (fun v2 _ => ?_))
  have hlen : (dd (srt L)).length ≤ n := Nat.le_trans ddN_len (by omega)
  have hinv := fun k h => rlN_inv (D := dd (srt L)) (fun i j x y hij hx hy => by
    have h := (ddN_rise (srt_rise L) (srt L).length (Nat.le_refl _)).1
    rw [List.pairwise_iff_getElem] at h
    obtain ⟨hi, ex⟩ := List.getElem?_eq_some_iff.1 hx
    obtain ⟨hj, ey⟩ := List.getElem?_eq_some_iff.1 hy
    rw [← ex, ← ey]
    exact h i j hi hj hij) k h
  have er : ofP L = rlN (dd (srt L)) (dd (srt L)).length := rfl
  rw [er]
  generalize dd (srt L) = D at hlen hinv ⊢
  clear er hl
  refine g_freeze _ (by intro _; first | ((repeat (first | with_reducible exact Upd.here _ | with_reducible apply Upd.there)); done) | ((repeat (first | exact Upd.here _ | apply Upd.there)); done) | fail) (fun A2 c2 hA2 hA21 hA22 hA23 => ?_); subst hA2
  (repeat (refine gG ?_; try intro _))
  refine gk_share (φ := sl A2 1 (IE .i64) D) (by repeat (first | with_reducible exact Sel.here | with_reducible apply Sel.there)) ?_
  refine gk_own 0 111 2 RE ?_
  refine gk_loop_sel (fun (q : Nat × Value) => match q with | (i, v) => (i ≤ D.length)) (fun (q : Nat × Value) => match q with | (i, v) => [(4, v), (13, .slice A2 D.length c2), (14, .int .i64 (D.length : Int)), (15, .int .i64 (i : Int))]) (fun (q : Nat × Value) => match q with | (i, v) => [own 0 111 2 v RE (rlN D i)]) (fun (q : Nat × Value) => match q with | (i, v) => [sl A2 1 (IE .i64) D]) (fun (q : Nat × Value) => match q with | (i, v) => D.length - i) (0, .slice none 0 0) rfl (Nat.zero_le _) (by repeat (first | exact trivial | refine ⟨rfl, ?_⟩)) sA sS ?_
  rintro ⟨i, v⟩ hI
  replace hI : (i ≤ D.length) := hI
  change GK _ _ [(4, v), (13, .slice A2 D.length c2), (14, .int .i64 (D.length : Int)), (15, .int .i64 (i : Int))] [own 0 111 2 v RE (rlN D i)] [sl A2 1 (IE .i64) D]
  by_cases hlt : i < D.length
  · obtain ⟨b, hb⟩ : ∃ b, D[i]? = some b := ⟨D[i], List.getElem?_eq_getElem hlt⟩
    have est : rlN D (i + 1) = addR (rlN D i) b := by rw [rlN, hb]
    have hRl := rlN_len D i
    have hR := hinv i (by omega)
    refine gk_elem (enc := IE .i64) (L := D) i mE hlt (by decide) (fun g o y eA hy => ?_)
    subst eA
    obtain rfl : b = y := by rw [hb] at hy; exact Option.some.inj hy
    generalize rlN D i = R at est hRl hR ⊢
    cases hin : inr b with
    | false =>
      rw [addR_out hin] at est
      have hb2 : b < 0 ∨ 4096 < b := by
        simp [inr] at hin
        omega
      (repeat' (first | (refine gG ?_; try intro _) | ((first | refine g_split rfl rfl tE (fun _ => ?_) (fun _ => ?_) | refine gk_cond rfl rfl tE (fun _ => ?_) (fun _ => ?_)) <;> (try first | (exfalso; omega; done) | (rename_i hx; exact absurd rfl hx) | (rename_i hx; cases hx; done)))))
      all_goals (refine gk_say 15 (.int .i64 ((i + 1 : Nat) : Int)) rfl (by first | (congr 1; done) | (congr 1; omega)) ?_; rw [← est]; refine gk_again_sel rfl (i + 1, v) (by omega) (by dsimp only; omega) (by repeat (first | exact trivial | refine ⟨rfl, ?_⟩)) sA sS)
    | true =>
      have hb2 : 0 ≤ b ∧ b ≤ 4096 := by simpa [inr] using hin
      rcases List.eq_nil_or_concat R with rfl | ⟨R0, r, rfl⟩
      · rw [addR_new hin (fun r h => by simp at h)] at est
        (repeat' (first | (refine gG ?_; try intro _) | ((first | refine g_split rfl rfl tE (fun _ => ?_) (fun _ => ?_) | refine gk_cond rfl rfl tE (fun _ => ?_) (fun _ => ?_)) <;> (try first | (exfalso; omega; done) | (rename_i hx; exact absurd rfl hx) | (rename_i hx; cases hx; done)))))
        refine g_ownv v mE (fun A1 c1 hv1 k1 k2 k3 => ?_)
        subst hv1
        (repeat (refine gG ?_; try intro _))
        refine gk_any [0] (Cut _ (fun _ : Unit => [(4, .slice A1 0 c1), (6, .int .i64 b), (13, .slice (some ⟨g, o, none⟩) D.length c2), (14, .int .i64 (D.length : Int)), (15, .int .i64 (i : Int)), (45, .bool false)]) (fun _ => [own 0 111 2 (.slice A1 0 c1) RE []]) (fun _ => [sl (some ⟨g, o, none⟩) 1 (IE .i64) D])) rfl rfl (by kernel_rfl) ?_ (cut_k fun _ => ?_)
        · skip
          refine gb_take 0 rfl (by decide +kernel) rfl rfl (ys_ev (nw := true) hT rfl sI) sF ?_
          refine gb_take 1 rfl (by decide +kernel) rfl rfl (ys_ev (nw := true) hT rfl sI) sF ?_
          refine gb_take 2 rfl (by decide +kernel) rfl rfl (ys_ev (nw := true) hT rfl sI) sF ?_
          try (refine gb_say 29 (.bool false) rfl (congrArg Value.bool (tB_false (by simp))) ?_)
          first | refine gb_take 3 rfl (by decide +kernel) rfl rfl (ys_ev (nw := true) hT rfl sI) sF ?_ | refine gb_skip 3 rfl (by decide +kernel) rfl rfl sF ?_
          first | refine gb_take 4 rfl (by decide +kernel) rfl rfl (ys_ev (nw := true) hT rfl sI) sF ?_ | refine gb_skip 4 rfl (by decide +kernel) rfl rfl sF ?_
          first | refine gb_take 5 rfl (by decide +kernel) rfl rfl (ys_ev (nw := true) hT rfl sI) sF ?_ | refine gb_skip 5 rfl (by decide +kernel) rfl rfl sF ?_
          first | refine gb_take 6 rfl (by decide +kernel) rfl rfl (ys_ev (nw := true) hT rfl sI) sF ?_ | refine gb_skip 6 rfl (by decide +kernel) rfl rfl sF ?_
          first | refine gb_take 7 rfl (by decide +kernel) rfl rfl (ys_ev (nw := true) hT rfl sI) sF ?_ | refine gb_skip 7 rfl (by decide +kernel) rfl rfl sF ?_
          first | refine gb_take 8 rfl (by decide +kernel) rfl rfl (by first | exact ys_blk hT rfl rfl mE rfl rfl | exact ys_row hT rfl rfl mE rfl rfl | exact ys_row0 hT rfl rfl mE rfl rfl) sF ?_ | refine gb_skip 8 rfl (by decide +kernel) rfl rfl sF ?_
          first | refine gb_take 9 rfl (by decide +kernel) rfl rfl (ys_ev (nw := true) hT rfl sI) sF ?_ | refine gb_skip 9 rfl (by decide +kernel) rfl rfl sF ?_
          first | refine gb_take 10 rfl (by decide +kernel) rfl rfl (ys_ev (nw := true) hT rfl sI) sF ?_ | refine gb_skip 10 rfl (by decide +kernel) rfl rfl sF ?_
          first | refine gb_take 11 rfl (by decide +kernel) rfl rfl (ys_ev (nw := true) hT rfl sI) sF ?_ | refine gb_skip 11 rfl (by decide +kernel) rfl rfl sF ?_
          first | refine gb_take 12 rfl (by decide +kernel) rfl rfl (ys_ev (nw := true) hT rfl sI) sF ?_ | refine gb_skip 12 rfl (by decide +kernel) rfl rfl sF ?_
          first | refine gb_take 13 rfl (by decide +kernel) rfl rfl (ys_ev (nw := true) hT rfl sI) sF ?_ | refine gb_skip 13 rfl (by decide +kernel) rfl rfl sF ?_
          first | refine gb_take 14 rfl (by decide +kernel) rfl rfl (by first | exact ys_blk hT rfl rfl mE rfl rfl | exact ys_row hT rfl rfl mE rfl rfl | exact ys_row0 hT rfl rfl mE rfl rfl) sF ?_ | refine gb_skip 14 rfl (by decide +kernel) rfl rfl sF ?_
          first | refine gb_take 15 rfl (by decide +kernel) rfl rfl (ys_ev (nw := true) hT rfl sI) sF ?_ | refine gb_skip 15 rfl (by decide +kernel) rfl rfl sF ?_
          first | refine gb_take 16 rfl (by decide +kernel) rfl rfl (ys_ev (nw := true) hT rfl sI) sF ?_ | refine gb_skip 16 rfl (by decide +kernel) rfl rfl sF ?_
          first | refine gb_take 17 rfl (by decide +kernel) rfl rfl (ys_ev (nw := true) hT rfl sI) sF ?_ | refine gb_skip 17 rfl (by decide +kernel) rfl rfl sF ?_
          refine gb_take 18 rfl (by decide +kernel) rfl rfl (ys_ev (nw := true) hT rfl sI) sF ?_
          refine gb_nil (by decide +kernel) ?_
          exact ⟨(), (by repeat (first | exact trivial | refine ⟨rfl, ?_⟩)), sA, sS⟩
        · (repeat (refine gG ?_; try intro _))
          refine g_mv rfl (mv_append (L := []) rfl [(⟨b, 1⟩ : RunD)] rfl rfl rfl rfl elt_R (by intro _; first | ((repeat (first | with_reducible exact Upd.here _ | with_reducible apply Upd.there)); done) | ((repeat (first | exact Upd.here _ | apply Upd.there)); done) | fail) (src_blk mE rfl) rfl oneRun (by simp only [maxLen, List.length_append, List.length_cons, List.length_nil]; omega) (by simp only [List.length_append, List.length_cons, List.length_nil]; omega) (Nat.zero_le _) (fun v1 => ?_))
          (repeat (refine gG ?_; try intro _))
          refine gk_say 15 (.int .i64 ((i + 1 : Nat) : Int)) rfl (by first | (congr 1; done) | (congr 1; omega)) ?_
          rw [← est]
          refine gk_again_sel rfl (i + 1, v1) (by omega) (by dsimp only; omega) (by repeat (first | exact trivial | refine ⟨rfl, ?_⟩)) sA sS
      · rw [List.concat_eq_append] at *
        have hrl : (R0 ++ [r]).length = R0.length + 1 := by simp
        have hrr : (R0 ++ [r])[R0.length]? = some r := by simp
        have hrm := rightE_m hR.right r (by simp)
        refine gk_own0 v mE (by simp) (fun b1 c1 hv1 hc1 hc2 => ?_)
        subst hv1
        rw [hrl]
        (repeat' (first | (refine gG ?_; try intro _) | ((first | refine g_split rfl rfl tE (fun _ => ?_) (fun _ => ?_) | refine gk_cond rfl rfl tE (fun _ => ?_) (fun _ => ?_)) <;> (try first | (exfalso; omega; done) | (rename_i hx; exact absurd rfl hx) | (rename_i hx; cases hx; done)))))
        by_cases hm : r.f + r.m = b
        · rw [addR_more hin hm] at est
          refine gk_any [0] (Cut _ (fun _ : Unit => [(4, .slice (some ⟨b1, 0, none⟩) (R0.length + 1) c1), (6, .int .i64 b), (7, .int .i64 ((R0.length + 1 : Nat) : Int)), (13, .slice (some ⟨g, o, none⟩) D.length c2), (14, .int .i64 (D.length : Int)), (15, .int .i64 (i : Int)), (45, .bool true)]) (fun _ => [own 0 111 2 (.slice (some ⟨b1, 0, none⟩) (R0.length + 1) c1) RE (R0 ++ [r])]) (fun _ => [sl (some ⟨g, o, none⟩) 1 (IE .i64) D])) rfl rfl (by kernel_rfl) ?_ (cut_k fun _ => ?_)
          · skip
            refine gb_take 0 rfl (by decide +kernel) rfl rfl (ys_ev (nw := true) hT rfl sI) sF ?_
            refine gb_take 1 rfl (by decide +kernel) rfl rfl (ys_ev (nw := true) hT rfl sI) sF ?_
            refine gb_take 2 rfl (by decide +kernel) rfl rfl (ys_ev (nw := true) hT rfl sI) sF ?_
            try (refine gb_say 29 (.bool true) rfl (congrArg Value.bool (tB_true (by omega))) ?_)
            first | refine gb_take 3 rfl (by decide +kernel) rfl rfl (ys_ev (nw := true) hT rfl sI) sF ?_ | refine gb_skip 3 rfl (by decide +kernel) rfl rfl sF ?_
            first | refine gb_take 4 rfl (by decide +kernel) rfl rfl (ys_ev (nw := true) hT rfl sI) sF ?_ | refine gb_skip 4 rfl (by decide +kernel) rfl rfl sF ?_
            first | refine gb_take 5 rfl (by decide +kernel) rfl rfl (ys_ev (nw := true) hT rfl sI) sF ?_ | refine gb_skip 5 rfl (by decide +kernel) rfl rfl sF ?_
            first | refine gb_take 6 rfl (by decide +kernel) rfl rfl (ys_ev (nw := true) hT rfl sI) sF ?_ | refine gb_skip 6 rfl (by decide +kernel) rfl rfl sF ?_
            first | refine gb_take 7 rfl (by decide +kernel) rfl rfl (ys_ev (nw := true) hT rfl sI) sF ?_ | refine gb_skip 7 rfl (by decide +kernel) rfl rfl sF ?_
            first | refine gb_take 8 rfl (by decide +kernel) rfl rfl (ys_load_el (S := [own 0 111 2 (.slice (some ⟨b1, 0, none⟩) (R0.length + 1) c1) RE (R0 ++ [r])]) (o0 := 0) (sz := 2) (enc := RE) (L := R0 ++ [r]) hT R0.length r 0 rfl rfl rfl (by first | rfl | omega) hrr (at_own mE) rfl rfl) sF ?_ | refine gb_skip 8 rfl (by decide +kernel) rfl rfl sF ?_
            first | refine gb_take 9 rfl (by decide +kernel) rfl rfl (ys_ev (nw := true) hT rfl sI) sF ?_ | refine gb_skip 9 rfl (by decide +kernel) rfl rfl sF ?_
            first | refine gb_take 10 rfl (by decide +kernel) rfl rfl (ys_ev (nw := true) hT rfl sI) sF ?_ | refine gb_skip 10 rfl (by decide +kernel) rfl rfl sF ?_
            first | refine gb_take 11 rfl (by decide +kernel) rfl rfl (ys_ev (nw := true) hT rfl sI) sF ?_ | refine gb_skip 11 rfl (by decide +kernel) rfl rfl sF ?_
            first | refine gb_take 12 rfl (by decide +kernel) rfl rfl (ys_ev (nw := true) hT rfl sI) sF ?_ | refine gb_skip 12 rfl (by decide +kernel) rfl rfl sF ?_
            first | refine gb_take 13 rfl (by decide +kernel) rfl rfl (ys_ev (nw := true) hT rfl sI) sF ?_ | refine gb_skip 13 rfl (by decide +kernel) rfl rfl sF ?_
            first | refine gb_take 14 rfl (by decide +kernel) rfl rfl (ys_load_el (S := [own 0 111 2 (.slice (some ⟨b1, 0, none⟩) (R0.length + 1) c1) RE (R0 ++ [r])]) (o0 := 0) (sz := 2) (enc := RE) (L := R0 ++ [r]) hT R0.length r 1 rfl rfl rfl (by first | rfl | omega) hrr (at_own mE) rfl rfl) sF ?_ | refine gb_skip 14 rfl (by decide +kernel) rfl rfl sF ?_
            first | refine gb_take 15 rfl (by decide +kernel) rfl rfl (ys_ev (nw := true) hT rfl sI) sF ?_ | refine gb_skip 15 rfl (by decide +kernel) rfl rfl sF ?_
            first | refine gb_take 16 rfl (by decide +kernel) rfl rfl (ys_ev (nw := true) hT rfl sI) sF ?_ | refine gb_skip 16 rfl (by decide +kernel) rfl rfl sF ?_
            first | refine gb_take 17 rfl (by decide +kernel) rfl rfl (ys_ev (nw := true) hT rfl sI) sF ?_ | refine gb_skip 17 rfl (by decide +kernel) rfl rfl sF ?_
            try (refine gb_say 44 (.bool true) rfl (congrArg Value.bool (tB_true hm)) ?_)
            refine gb_take 18 rfl (by decide +kernel) rfl rfl (ys_ev (nw := true) hT rfl sI) sF ?_
            refine gb_nil (by decide +kernel) ?_
            exact ⟨(), (by repeat (first | exact trivial | refine ⟨rfl, ?_⟩)), sA, sS⟩
          · (repeat (refine gG ?_; try intro _))
            refine g_yd rfl rfl ((ys_load_el (S := [own 0 111 2 (.slice (some ⟨b1, 0, none⟩) (R0.length + 1) c1) RE (R0 ++ [r])]) (o0 := 0) (sz := 2) (enc := RE) (L := R0 ++ [r]) hT R0.length r 1 rfl rfl rfl (by first | rfl | omega) hrr (at_own mE) rfl rfl).ydS sF) ?_
            (repeat (refine gG ?_; try intro _))
            refine g_mv rfl (mv_store_own (α := RunD) (g := b1) (n := R0.length + 1) (c := c1) (base := 0) (e := 111) (sz := 2) (enc := RE) (L := R0 ++ [r]) hT R0.length 1 r ⟨r.f, r.m + 1⟩ rfl rfl (by first | rfl | omega) rfl rfl rfl rfl hrr (by decide) (fun j h1 h2 => by rcases j with _ | _ | j; rfl; exact absurd rfl h2; omega) rfl (by first | ((repeat (first | with_reducible exact Upd.here _ | with_reducible apply Upd.there)); done) | ((repeat (first | exact Upd.here _ | apply Upd.there)); done) | fail) rfl ?_)
            (repeat (refine gG ?_; try intro _))
            refine gk_say 15 (.int .i64 ((i + 1 : Nat) : Int)) rfl (by first | (congr 1; done) | (congr 1; omega)) ?_
            rw [show (R0 ++ [r]).set R0.length ⟨r.f, r.m + 1⟩ = rlN D (i + 1) by rw [est, List.set_append_right _ _ (Nat.le_refl _), Nat.sub_self]; rfl]
            refine gk_again_sel rfl (i + 1, .slice (some ⟨b1, 0, none⟩) (R0.length + 1) c1) (by omega) (by dsimp only; omega) (by repeat (first | exact trivial | refine ⟨rfl, ?_⟩)) sA sS
        · rw [addR_new hin (fun r' h => by simp at h; subst h; exact hm)] at est
          refine gk_any [0] (Cut _ (fun _ : Unit => [(4, .slice (some ⟨b1, 0, none⟩) (R0.length + 1) c1), (6, .int .i64 b), (7, .int .i64 ((R0.length + 1 : Nat) : Int)), (13, .slice (some ⟨g, o, none⟩) D.length c2), (14, .int .i64 (D.length : Int)), (15, .int .i64 (i : Int)), (45, .bool false)]) (fun _ => [own 0 111 2 (.slice (some ⟨b1, 0, none⟩) (R0.length + 1) c1) RE (R0 ++ [r])]) (fun _ => [sl (some ⟨g, o, none⟩) 1 (IE .i64) D])) rfl rfl (by kernel_rfl) ?_ (cut_k fun _ => ?_)
          · skip
            refine gb_take 0 rfl (by decide +kernel) rfl rfl (ys_ev (nw := true) hT rfl sI) sF ?_
            refine gb_take 1 rfl (by decide +kernel) rfl rfl (ys_ev (nw := true) hT rfl sI) sF ?_
            refine gb_take 2 rfl (by decide +kernel) rfl rfl (ys_ev (nw := true) hT rfl sI) sF ?_
            try (refine gb_say 29 (.bool true) rfl (congrArg Value.bool (tB_true (by omega))) ?_)
            first | refine gb_take 3 rfl (by decide +kernel) rfl rfl (ys_ev (nw := true) hT rfl sI) sF ?_ | refine gb_skip 3 rfl (by decide +kernel) rfl rfl sF ?_
            first | refine gb_take 4 rfl (by decide +kernel) rfl rfl (ys_ev (nw := true) hT rfl sI) sF ?_ | refine gb_skip 4 rfl (by decide +kernel) rfl rfl sF ?_
            first | refine gb_take 5 rfl (by decide +kernel) rfl rfl (ys_ev (nw := true) hT rfl sI) sF ?_ | refine gb_skip 5 rfl (by decide +kernel) rfl rfl sF ?_
            first | refine gb_take 6 rfl (by decide +kernel) rfl rfl (ys_ev (nw := true) hT rfl sI) sF ?_ | refine gb_skip 6 rfl (by decide +kernel) rfl rfl sF ?_
            first | refine gb_take 7 rfl (by decide +kernel) rfl rfl (ys_ev (nw := true) hT rfl sI) sF ?_ | refine gb_skip 7 rfl (by decide +kernel) rfl rfl sF ?_
            first | refine gb_take 8 rfl (by decide +kernel) rfl rfl (ys_load_el (S := [own 0 111 2 (.slice (some ⟨b1, 0, none⟩) (R0.length + 1) c1) RE (R0 ++ [r])]) (o0 := 0) (sz := 2) (enc := RE) (L := R0 ++ [r]) hT R0.length r 0 rfl rfl rfl (by first | rfl | omega) hrr (at_own mE) rfl rfl) sF ?_ | refine gb_skip 8 rfl (by decide +kernel) rfl rfl sF ?_
            first | refine gb_take 9 rfl (by decide +kernel) rfl rfl (ys_ev (nw := true) hT rfl sI) sF ?_ | refine gb_skip 9 rfl (by decide +kernel) rfl rfl sF ?_
            first | refine gb_take 10 rfl (by decide +kernel) rfl rfl (ys_ev (nw := true) hT rfl sI) sF ?_ | refine gb_skip 10 rfl (by decide +kernel) rfl rfl sF ?_
            first | refine gb_take 11 rfl (by decide +kernel) rfl rfl (ys_ev (nw := true) hT rfl sI) sF ?_ | refine gb_skip 11 rfl (by decide +kernel) rfl rfl sF ?_
            first | refine gb_take 12 rfl (by decide +kernel) rfl rfl (ys_ev (nw := true) hT rfl sI) sF ?_ | refine gb_skip 12 rfl (by decide +kernel) rfl rfl sF ?_
            first | refine gb_take 13 rfl (by decide +kernel) rfl rfl (ys_ev (nw := true) hT rfl sI) sF ?_ | refine gb_skip 13 rfl (by decide +kernel) rfl rfl sF ?_
            first | refine gb_take 14 rfl (by decide +kernel) rfl rfl (ys_load_el (S := [own 0 111 2 (.slice (some ⟨b1, 0, none⟩) (R0.length + 1) c1) RE (R0 ++ [r])]) (o0 := 0) (sz := 2) (enc := RE) (L := R0 ++ [r]) hT R0.length r 1 rfl rfl rfl (by first | rfl | omega) hrr (at_own mE) rfl rfl) sF ?_ | refine gb_skip 14 rfl (by decide +kernel) rfl rfl sF ?_
            first | refine gb_take 15 rfl (by decide +kernel) rfl rfl (ys_ev (nw := true) hT rfl sI) sF ?_ | refine gb_skip 15 rfl (by decide +kernel) rfl rfl sF ?_
            first | refine gb_take 16 rfl (by decide +kernel) rfl rfl (ys_ev (nw := true) hT rfl sI) sF ?_ | refine gb_skip 16 rfl (by decide +kernel) rfl rfl sF ?_
            first | refine gb_take 17 rfl (by decide +kernel) rfl rfl (ys_ev (nw := true) hT rfl sI) sF ?_ | refine gb_skip 17 rfl (by decide +kernel) rfl rfl sF ?_
            try (refine gb_say 44 (.bool false) rfl (congrArg Value.bool (tB_false hm)) ?_)
            refine gb_take 18 rfl (by decide +kernel) rfl rfl (ys_ev (nw := true) hT rfl sI) sF ?_
            refine gb_nil (by decide +kernel) ?_
            exact ⟨(), (by repeat (first | exact trivial | refine ⟨rfl, ?_⟩)), sA, sS⟩
          · (repeat (refine gG ?_; try intro _))
            refine g_mv rfl (mv_append (L := R0 ++ [r]) rfl [(⟨b, 1⟩ : RunD)] rfl rfl rfl rfl elt_R (by intro _; first | ((repeat (first | with_reducible exact Upd.here _ | with_reducible apply Upd.there)); done) | ((repeat (first | exact Upd.here _ | apply Upd.there)); done) | fail) (src_blk mE rfl) rfl oneRun (by simp only [maxLen, List.length_append, List.length_cons, List.length_nil]; omega) (by simp only [List.length_append, List.length_cons, List.length_nil]; omega) (Nat.zero_le _) (fun v1 => ?_))
            (repeat (refine gG ?_; try intro _))
            refine gk_say 15 (.int .i64 ((i + 1 : Nat) : Int)) rfl (by first | (congr 1; done) | (congr 1; omega)) ?_
            rw [← est]
            refine gk_again_sel rfl (i + 1, v1) (by omega) (by dsimp only; omega) (by repeat (first | exact trivial | refine ⟨rfl, ?_⟩)) sA sS
  · have e : i = D.length := by omega
    rw [e]
    (repeat' (first | (refine gG ?_; try intro _) | ((first | refine g_split rfl rfl tE (fun _ => ?_) (fun _ => ?_) | refine gk_cond rfl rfl tE (fun _ => ?_) (fun _ => ?_)) <;> (try first | (exfalso; omega; done) | (rename_i hx; exact absurd rfl hx) | (rename_i hx; cases hx; done)))))
    refine gk_ret hT rfl rfl (.tmp rfl .nil) (fun w' hk => ?_)
    exact Ret.mk v trivial rfl hk sA
end Go.Proofs.Ytmehbhabheokbaa.Ex

