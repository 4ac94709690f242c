/- Rows of blocks: put; the fixed facts. -/
import Derived.Test.YtmmijcannahjhaaFr7
namespace Go.Proofs.Ytmmijcannahjhaa.Hp
open Go.RowKit Mem Gx
set_option linter.unusedVariables false
set_option linter.unusedSimpArgs false
set_option maxRecDepth 100000
set_option maxHeartbeats 1000000
theorem ins_at {b : Int} : ∀ {S : List Int} {i : Nat}, i ≤ S.length → (∀ j x, j < i → S[j]? = some x → x < b) → (∀ x, S[i]? = some x → ¬ x < b) → ins b S = S.take i ++ [b] ++ S.drop i
  | [], 0, _, _, _ => rfl
  | [], i + 1, h, _, _ => by simp at h
  | x :: r, 0, _, _, h => by
    unfold ins
    rw [if_neg (h x rfl)]
    rfl
  | x :: r, i + 1, hl, h, h2 => by
    unfold ins
    rw [if_pos (h 0 x (Nat.succ_pos _) rfl), ins_at (S := r) (i := i) (by simpa using hl) (fun j y hj hy => h (j + 1) y (by omega) (by simpa using hy)) (fun y hy => h2 y (by simpa using hy))]
    rfl
theorem mem_at {b : Int} {S : List Int} {i : Nat} (hs : S.Pairwise (· < ·)) (h : ∀ j x, j < i → S[j]? = some x → x < b) (h2 : ∀ x, S[i]? = some x → b < x) : b ∉ S := fun hb => by
  obtain ⟨j, hj⟩ := List.getElem?_of_mem hb
  rcases Nat.lt_or_ge j i with h1 | h1
  · have := h j b h1 hj; omega
  · obtain ⟨hjl, ej⟩ := List.getElem?_eq_some_iff.1 hj
    have hil : i < S.length := by omega
    have h3 := h2 S[i] (List.getElem?_eq_getElem hil)
    rcases Nat.lt_or_ge i j with h4 | h4
    · have := List.pairwise_iff_getElem.1 hs i j hil hjl h4
      omega
    · obtain rfl : i = j := by omega
      omega
theorem lput_any (A : Option Addr) (n c : Nat) (S : List Int) (b : Int) (w : World) (hn : (SlV.mk A n c).Ok S.length) (h9 : n ≤ 100000) (hs : S.Pairwise (· < ·)) (hrd : Rd1 w (sl A 1 (IE .u32) S)) :
    Calls Try.prog 19 [.slice A n c, .int .u32 b].toArray w (RetS (fun q : SlV => q.Ok (giveP b S).1.length) (fun q => .slice q.A q.n q.c) (fun q => [sl q.A 1 (IE .u32) (giveP b S).1]) [sl A 1 (IE .u32) S] w) := by
  have hnl : n = S.length := hn.n
  have hnc : n ≤ c := hn.c
  refine g_enter0 T [] [] [sl A 1 (IE .u32) S] Try.func19 rfl Try.ntmps19 rfl (Rds.cons hrd .nil).kn ?_
  (repeat (first | refine g_nil ?_ | refine g_pure true hT rfl rfl rfl sI ?_ | refine g_skip rfl rfl ?_ | refine g_skip0 rfl rfl ?_ | refine gk_region rfl ?_ | refine gk_cond_t rfl rfl ?_ | refine gk_cond_f rfl rfl ?_ | refine g_yd rfl rfl (yd_load_blk hT rfl rfl mE rfl rfl) ?_ | refine g_yd rfl rfl (yd_load_row hT rfl rfl mE rfl rfl) ?_ | refine g_yd rfl rfl (yd_load_row0 hT rfl rfl mE rfl rfl) ?_ | refine g_yd rfl rfl (yd_eql rfl rfl rfl rfl rfl (by kernel_rfl)) ?_ | refine g_yd rfl rfl (yd_neq rfl rfl rfl rfl rfl (by kernel_rfl)) ?_ | refine g_yd rfl rfl (yd_index hT rfl rfl rfl sI rfl) ?_ | refine g_yd rfl rfl (yd_slice_nil hT rfl rfl rfl rfl) ?_ | refine g_yd rfl rfl (yd_build_arr hT rfl rfl rfl rfl rfl rfl) ?_ | (refine g_mv rfl ?_; first | (refine mv_box rfl rfl rfl rfl ?_; intro _) | (refine mv_alloc rfl hT rfl rfl ?_; intro _) | refine mv_store hT rfl rfl rfl rfl rfl rfl sO rfl ?_ | (refine mv_buildSlice rfl hT rfl rfl rfl rfl rfl rfl rfl rfl ?_; intro _)) | refine g_yd rfl rfl (Ys.yd (ys_str_eql hT rfl rfl rfl rfl)) ?_ | refine g_yd rfl rfl (Ys.yd (ys_str_neq hT rfl rfl rfl rfl)) ?_))
  refine gk_loop_sel (fun (q : Nat × Nat) => match q with | (i, u) => (i ≤ n ∧ ∀ j x, j < i → S[j]? = some x → x < b)) (fun (q : Nat × Nat) => match q with | (i, u) => [(0, .slice A n c), (1, .int .u32 b), (5, .int .i64 i)]) (fun (q : Nat × Nat) => match q with | (i, u) => []) (fun (q : Nat × Nat) => match q with | (i, u) => [sl A 1 (IE .u32) S]) (fun (q : Nat × Nat) => match q with | (i, u) => n - i) (0, 0) rfl ⟨Nat.zero_le _, fun j x hj => absurd hj (Nat.not_lt_zero _)⟩ (by repeat (first | exact trivial | refine ⟨rfl, ?_⟩)) sA sS ?_
  rintro ⟨i, u⟩ hI
  replace hI : (i ≤ n ∧ ∀ j x, j < i → S[j]? = some x → x < b) := hI
  change GK _ _ [(0, .slice A n c), (1, .int .u32 b), (5, .int .i64 i)] [] [sl A 1 (IE .u32) S]
  obtain ⟨hi1, hlo⟩ := hI
  by_cases hlt : i < n
  · obtain ⟨x, hx⟩ : ∃ x, S[i]? = some x := ⟨S[i], List.getElem?_eq_getElem (by omega)⟩
    by_cases hxb : x < b
    · refine gk_elem (enc := IE .u32) (L := S) i mE (by omega) (by decide) (fun b1 o1 y eA hy => ?_)
      subst eA
      obtain rfl : x = y := by rw [hx] at hy; exact Option.some.inj hy
      (repeat' (first | (first | refine g_nil ?_ | refine g_pure true hT rfl rfl rfl sI ?_ | refine g_skip rfl rfl ?_ | refine g_skip0 rfl rfl ?_ | refine gk_region rfl ?_ | refine gk_cond_t rfl rfl ?_ | refine gk_cond_f rfl rfl ?_ | refine g_yd rfl rfl (yd_load_blk hT rfl rfl mE rfl rfl) ?_ | refine g_yd rfl rfl (yd_load_row hT rfl rfl mE rfl rfl) ?_ | refine g_yd rfl rfl (yd_load_row0 hT rfl rfl mE rfl rfl) ?_ | refine g_yd rfl rfl (yd_eql rfl rfl rfl rfl rfl (by kernel_rfl)) ?_ | refine g_yd rfl rfl (yd_neq rfl rfl rfl rfl rfl (by kernel_rfl)) ?_ | refine g_yd rfl rfl (yd_index hT rfl rfl rfl sI rfl) ?_ | refine g_yd rfl rfl (yd_slice_nil hT rfl rfl rfl rfl) ?_ | refine g_yd rfl rfl (yd_build_arr hT rfl rfl rfl rfl rfl rfl) ?_ | (refine g_mv rfl ?_; first | (refine mv_box rfl rfl rfl rfl ?_; intro _) | (refine mv_alloc rfl hT rfl rfl ?_; intro _) | refine mv_store hT rfl rfl rfl rfl rfl rfl sO rfl ?_ | (refine mv_buildSlice rfl hT rfl rfl rfl rfl rfl rfl rfl rfl ?_; intro _)) | refine g_yd rfl rfl (Ys.yd (ys_str_eql hT rfl rfl rfl rfl)) ?_ | refine g_yd rfl rfl (Ys.yd (ys_str_neq hT rfl rfl rfl rfl)) ?_) | ((first | refine g_split rfl rfl tE (fun _ => ?_) (fun _ => ?_) | refine gk_cond rfl rfl tE (fun _ => ?_) (fun _ => ?_)) <;> (try first | (exfalso; omega; done) | (rename_i hx; exact absurd rfl hx) | (rename_i hx; cases hx; done)))))
      refine gk_again_sel rfl (i + 1, u) ⟨by omega, fun j z hj hz => by
        by_cases e : j = i
        · subst e
          rw [hx] at hz
          obtain rfl := Option.some.inj hz
          exact hxb
        · exact hlo j z (by omega) hz⟩ (by dsimp only; omega) (by repeat (first | exact trivial | refine ⟨rfl, ?_⟩)) sA sS
    · by_cases hsame : b = 0 ∨ b ∈ S
      · rw [give_no hsame]
        have hxe : b = 0 ∨ x = b := by
          rcases hsame with h | h
          · exact .inl h
          · refine .inr (Classical.byContradiction fun hne => ?_)
            exact mem_at hs hlo (fun z hz => by rw [hx] at hz; obtain rfl := Option.some.inj hz; omega) h
        refine gk_elem (enc := IE .u32) (L := S) i mE (by omega) (by decide) (fun b1 o1 y eA hy => ?_)
        subst eA
        obtain rfl : x = y := by rw [hx] at hy; exact Option.some.inj hy
        (repeat' (first | (first | refine g_nil ?_ | refine g_pure true hT rfl rfl rfl sI ?_ | refine g_skip rfl rfl ?_ | refine g_skip0 rfl rfl ?_ | refine gk_region rfl ?_ | refine gk_cond_t rfl rfl ?_ | refine gk_cond_f rfl rfl ?_ | refine g_yd rfl rfl (yd_load_blk hT rfl rfl mE rfl rfl) ?_ | refine g_yd rfl rfl (yd_load_row hT rfl rfl mE rfl rfl) ?_ | refine g_yd rfl rfl (yd_load_row0 hT rfl rfl mE rfl rfl) ?_ | refine g_yd rfl rfl (yd_eql rfl rfl rfl rfl rfl (by kernel_rfl)) ?_ | refine g_yd rfl rfl (yd_neq rfl rfl rfl rfl rfl (by kernel_rfl)) ?_ | refine g_yd rfl rfl (yd_index hT rfl rfl rfl sI rfl) ?_ | refine g_yd rfl rfl (yd_slice_nil hT rfl rfl rfl rfl) ?_ | refine g_yd rfl rfl (yd_build_arr hT rfl rfl rfl rfl rfl rfl) ?_ | (refine g_mv rfl ?_; first | (refine mv_box rfl rfl rfl rfl ?_; intro _) | (refine mv_alloc rfl hT rfl rfl ?_; intro _) | refine mv_store hT rfl rfl rfl rfl rfl rfl sO rfl ?_ | (refine mv_buildSlice rfl hT rfl rfl rfl rfl rfl rfl rfl rfl ?_; intro _)) | refine g_yd rfl rfl (Ys.yd (ys_str_eql hT rfl rfl rfl rfl)) ?_ | refine g_yd rfl rfl (Ys.yd (ys_str_neq hT rfl rfl rfl rfl)) ?_) | ((first | refine g_split rfl rfl tE (fun _ => ?_) (fun _ => ?_) | refine gk_cond rfl rfl tE (fun _ => ?_) (fun _ => ?_)) <;> (try first | (exfalso; omega; done) | (rename_i hx; exact absurd rfl hx) | (rename_i hx; cases hx; done)))))
        all_goals refine gk_ret hT rfl rfl (.tmp rfl .nil) (fun w' hk => ?_)
        all_goals exact RetS.mk ⟨some ⟨b1, o1, none⟩, n, c⟩ hn rfl hk (.cons (RS1.rd hk mE (fun b hb => .inr ⟨_, .head _, hb⟩)) .nil)
      · rw [give_yes hsame]
        have hb0 : ¬ b = 0 := fun h => hsame (.inl h)
        have hxne : ¬ x = b := fun h => hsame (.inr (h ▸ List.mem_of_getElem? hx))
        have hins := ins_at (b := b) (S := S) (i := i) (by omega) hlo (fun z hz => by rw [hx] at hz; obtain rfl := Option.some.inj hz; exact hxb)
        refine gk_elem (enc := IE .u32) (L := S) i mE (by omega) (by decide) (fun b1 o1 y eA hy => ?_)
        subst eA
        obtain rfl : x = y := by rw [hx] at hy; exact Option.some.inj hy
        refine gk_takeS (enc := IE .u32) (L := S) (A := some ⟨b1, o1, none⟩) (sz := 1) i c mE (by omega) ?_
        refine gk_dropS (enc := IE .u32) (L := S) (A := some ⟨b1, o1, none⟩) (sz := 1) i c mE (by omega) ?_
        (repeat' (first | (first | refine g_nil ?_ | refine g_pure true hT rfl rfl rfl sI ?_ | refine g_skip rfl rfl ?_ | refine g_skip0 rfl rfl ?_ | refine gk_region rfl ?_ | refine gk_cond_t rfl rfl ?_ | refine gk_cond_f rfl rfl ?_ | refine g_yd rfl rfl (yd_load_blk hT rfl rfl mE rfl rfl) ?_ | refine g_yd rfl rfl (yd_load_row hT rfl rfl mE rfl rfl) ?_ | refine g_yd rfl rfl (yd_load_row0 hT rfl rfl mE rfl rfl) ?_ | refine g_yd rfl rfl (yd_eql rfl rfl rfl rfl rfl (by kernel_rfl)) ?_ | refine g_yd rfl rfl (yd_neq rfl rfl rfl rfl rfl (by kernel_rfl)) ?_ | refine g_yd rfl rfl (yd_index hT rfl rfl rfl sI rfl) ?_ | refine g_yd rfl rfl (yd_slice_nil hT rfl rfl rfl rfl) ?_ | refine g_yd rfl rfl (yd_build_arr hT rfl rfl rfl rfl rfl rfl) ?_ | (refine g_mv rfl ?_; first | (refine mv_box rfl rfl rfl rfl ?_; intro _) | (refine mv_alloc rfl hT rfl rfl ?_; intro _) | refine mv_store hT rfl rfl rfl rfl rfl rfl sO rfl ?_ | (refine mv_buildSlice rfl hT rfl rfl rfl rfl rfl rfl rfl rfl ?_; intro _)) | refine g_yd rfl rfl (Ys.yd (ys_str_eql hT rfl rfl rfl rfl)) ?_ | refine g_yd rfl rfl (Ys.yd (ys_str_neq hT rfl rfl rfl rfl)) ?_) | ((first | refine g_split rfl rfl tE (fun _ => ?_) (fun _ => ?_) | refine gk_cond rfl rfl tE (fun _ => ?_) (fun _ => ?_)) <;> (try first | (exfalso; omega; done) | (rename_i hx; exact absurd rfl hx) | (rename_i hx; cases hx; done)))))
        refine gk_any [] (Cut _ (fun v : Value => [(4, v)]) (fun v => [own 0 34 1 v (IE .u32) (([] ++ S.take i) ++ [b] ++ S.drop i)]) (fun _ => [])) rfl rfl (by kernel_rfl) ?_ (cut_k fun v => ?_)
        · skip
          refine gb_take 1 rfl (by decide +kernel) rfl rfl (ys_ev (nw := true) hT rfl sI) sF ?_
          refine gb_take 2 rfl (by decide +kernel) rfl rfl (ys_ev (nw := true) hT rfl sI) sF ?_
          refine gb_take 3 rfl (by decide +kernel) rfl rfl (ys_slice_h hT i rfl rfl rfl rfl rfl (by omega)) sF ?_
          refine gb_take 5 rfl (by decide +kernel) rfl rfl (ys_ev (nw := true) hT rfl sI) sF ?_
          refine gb_take 8 rfl (by decide +kernel) rfl rfl (ys_ev (nw := true) hT rfl sI) sF ?_
          refine gb_take 9 rfl (by decide +kernel) rfl rfl (ys_ev (nw := true) hT rfl sI) sF ?_
          refine gb_take 10 rfl (by decide +kernel) rfl rfl (ys_slice_l hT i rfl rfl rfl rfl rfl (by omega)) sF ?_
          refine gb_all (by decide +kernel) ?_
          refine gball_yes rfl rfl ?_ ?_
          · refine mv_empty 1 (IE .u32) rfl hT rfl rfl rfl rfl rfl (fun g => ?_)
            refine ⟨sF, ?_⟩
            refine gb_all (by decide +kernel) ?_
            refine gball_not (by decide +kernel) ?_
            refine gball_not (by decide +kernel) ?_
            refine gball_not (by decide +kernel) ?_
            refine gball_not (by decide +kernel) ?_
            refine gball_yes rfl rfl ?_ ?_
            · refine mv_append (L := []) rfl (S.take i) rfl rfl rfl rfl elt_U (by intro _; first | ((repeat (first | with_reducible exact Upd.here _ | with_reducible apply Upd.there)); done) | ((repeat (first | exact Upd.here _ | apply Upd.there)); done) | fail) (src_R mE) (by rw [List.length_take]; omega) oneU (by simp only [maxLen, List.length_nil, List.length_take]; omega) (by simp only [List.length_nil, List.length_take]; omega) (Nat.zero_le _) (fun v1 => ?_)
              refine ⟨sF, ?_⟩
              refine gb_only 6 (by decide +kernel) rfl rfl ?_
              (refine mv_buildSlice (len := 1) rfl hT rfl rfl rfl rfl rfl rfl rfl rfl ?_; intro g7)
              refine ⟨sF, ?_⟩
              refine gb_only 7 (by decide +kernel) rfl rfl ?_
              refine mv_append (L := [] ++ S.take i) rfl [b] rfl rfl rfl rfl elt_U (by intro _; first | ((repeat (first | with_reducible exact Upd.here _ | with_reducible apply Upd.there)); done) | ((repeat (first | exact Upd.here _ | apply Upd.there)); done) | fail) (src_blk mE rfl) rfl oneU (by simp only [maxLen, List.length_cons, List.length_nil, List.nil_append, List.length_take]; omega) (by simp only [List.length_cons, List.length_nil, List.nil_append, List.length_take]; omega) (Nat.zero_le _) (fun v2 => ?_)
              refine ⟨sF, ?_⟩
              refine gb_only 11 (by decide +kernel) rfl rfl ?_
              refine mv_append (L := ([] ++ S.take i) ++ [b]) rfl (S.drop i) rfl rfl rfl rfl elt_U (by intro _; first | ((repeat (first | with_reducible exact Upd.here _ | with_reducible apply Upd.there)); done) | ((repeat (first | exact Upd.here _ | apply Upd.there)); done) | fail) (src_R mE) (by rw [List.length_drop]; omega) oneU (by simp only [maxLen, List.length_append, List.length_cons, List.length_nil, List.nil_append, List.length_take, List.length_drop]; omega) (by simp only [List.length_append, List.length_cons, List.length_nil, List.nil_append, List.length_take, List.length_drop]; omega) (Nat.zero_le _) (fun v3 => ?_)
              refine ⟨sF, ?_⟩
              refine gb_take 12 rfl (by decide +kernel) rfl rfl (ys_ev (nw := true) hT rfl sI) sF ?_
              refine gb_nil (by decide +kernel) ?_
              exact ⟨v3, (by repeat (first | exact trivial | refine ⟨rfl, ?_⟩)), sA, sS⟩
            refine gball_not (by decide +kernel) ?_
            refine gball_yes rfl rfl ?_ ?_
            · (refine mv_buildSlice (len := 1) rfl hT rfl rfl rfl rfl rfl rfl rfl rfl ?_; intro g7)
              refine ⟨sF, ?_⟩
              refine gb_only 4 (by decide +kernel) rfl rfl ?_
              refine mv_append (L := []) rfl (S.take i) rfl rfl rfl rfl elt_U (by intro _; first | ((repeat (first | with_reducible exact Upd.here _ | with_reducible apply Upd.there)); done) | ((repeat (first | exact Upd.here _ | apply Upd.there)); done) | fail) (src_R mE) (by rw [List.length_take]; omega) oneU (by simp only [maxLen, List.length_nil, List.length_take]; omega) (by simp only [List.length_nil, List.length_take]; omega) (Nat.zero_le _) (fun v1 => ?_)
              refine ⟨sF, ?_⟩
              refine gb_only 7 (by decide +kernel) rfl rfl ?_
              refine mv_append (L := [] ++ S.take i) rfl [b] rfl rfl rfl rfl elt_U (by intro _; first | ((repeat (first | with_reducible exact Upd.here _ | with_reducible apply Upd.there)); done) | ((repeat (first | exact Upd.here _ | apply Upd.there)); done) | fail) (src_blk mE rfl) rfl oneU (by simp only [maxLen, List.length_cons, List.length_nil, List.nil_append, List.length_take]; omega) (by simp only [List.length_cons, List.length_nil, List.nil_append, List.length_take]; omega) (Nat.zero_le _) (fun v2 => ?_)
              refine ⟨sF, ?_⟩
              refine gb_only 11 (by decide +kernel) rfl rfl ?_
              refine mv_append (L := ([] ++ S.take i) ++ [b]) rfl (S.drop i) rfl rfl rfl rfl elt_U (by intro _; first | ((repeat (first | with_reducible exact Upd.here _ | with_reducible apply Upd.there)); done) | ((repeat (first | exact Upd.here _ | apply Upd.there)); done) | fail) (src_R mE) (by rw [List.length_drop]; omega) oneU (by simp only [maxLen, List.length_append, List.length_cons, List.length_nil, List.nil_append, List.length_take, List.length_drop]; omega) (by simp only [List.length_append, List.length_cons, List.length_nil, List.nil_append, List.length_take, List.length_drop]; omega) (Nat.zero_le _) (fun v3 => ?_)
              refine ⟨sF, ?_⟩
              refine gb_take 12 rfl (by decide +kernel) rfl rfl (ys_ev (nw := true) hT rfl sI) sF ?_
              refine gb_nil (by decide +kernel) ?_
              exact ⟨v3, (by repeat (first | exact trivial | refine ⟨rfl, ?_⟩)), sA, sS⟩
            refine gball_not (by decide +kernel) ?_
            refine gball_not (by decide +kernel) ?_
            refine gball_not (by decide +kernel) ?_
            refine gball_not (by decide +kernel) ?_
            refine gball_not (by decide +kernel) ?_
            refine gball_not (by decide +kernel) ?_
            exact gball_end (by decide +kernel)
          refine gball_not (by decide +kernel) ?_
          refine gball_not (by decide +kernel) ?_
          refine gball_not (by decide +kernel) ?_
          refine gball_not (by decide +kernel) ?_
          refine gball_not (by decide +kernel) ?_
          refine gball_yes rfl rfl ?_ ?_
          · (refine mv_buildSlice (len := 1) rfl hT rfl rfl rfl rfl rfl rfl rfl rfl ?_; intro g7)
            refine ⟨sF, ?_⟩
            refine gb_only 0 (by decide +kernel) rfl rfl ?_
            refine mv_empty 1 (IE .u32) rfl hT rfl rfl rfl rfl rfl (fun g => ?_)
            refine ⟨sF, ?_⟩
            refine gb_only 4 (by decide +kernel) rfl rfl ?_
            refine mv_append (L := []) rfl (S.take i) rfl rfl rfl rfl elt_U (by intro _; first | ((repeat (first | with_reducible exact Upd.here _ | with_reducible apply Upd.there)); done) | ((repeat (first | exact Upd.here _ | apply Upd.there)); done) | fail) (src_R mE) (by rw [List.length_take]; omega) oneU (by simp only [maxLen, List.length_nil, List.length_take]; omega) (by simp only [List.length_nil, List.length_take]; omega) (Nat.zero_le _) (fun v1 => ?_)
            refine ⟨sF, ?_⟩
            refine gb_only 7 (by decide +kernel) rfl rfl ?_
            refine mv_append (L := [] ++ S.take i) rfl [b] rfl rfl rfl rfl elt_U (by intro _; first | ((repeat (first | with_reducible exact Upd.here _ | with_reducible apply Upd.there)); done) | ((repeat (first | exact Upd.here _ | apply Upd.there)); done) | fail) (src_blk mE rfl) rfl oneU (by simp only [maxLen, List.length_cons, List.length_nil, List.nil_append, List.length_take]; omega) (by simp only [List.length_cons, List.length_nil, List.nil_append, List.length_take]; omega) (Nat.zero_le _) (fun v2 => ?_)
            refine ⟨sF, ?_⟩
            refine gb_only 11 (by decide +kernel) rfl rfl ?_
            refine mv_append (L := ([] ++ S.take i) ++ [b]) rfl (S.drop i) rfl rfl rfl rfl elt_U (by intro _; first | ((repeat (first | with_reducible exact Upd.here _ | with_reducible apply Upd.there)); done) | ((repeat (first | exact Upd.here _ | apply Upd.there)); done) | fail) (src_R mE) (by rw [List.length_drop]; omega) oneU (by simp only [maxLen, List.length_append, List.length_cons, List.length_nil, List.nil_append, List.length_take, List.length_drop]; omega) (by simp only [List.length_append, List.length_cons, List.length_nil, List.nil_append, List.length_take, List.length_drop]; omega) (Nat.zero_le _) (fun v3 => ?_)
            refine ⟨sF, ?_⟩
            refine gb_take 12 rfl (by decide +kernel) rfl rfl (ys_ev (nw := true) hT rfl sI) sF ?_
            refine gb_nil (by decide +kernel) ?_
            exact ⟨v3, (by repeat (first | exact trivial | refine ⟨rfl, ?_⟩)), sA, sS⟩
          refine gball_not (by decide +kernel) ?_
          refine gball_not (by decide +kernel) ?_
          refine gball_not (by decide +kernel) ?_
          refine gball_not (by decide +kernel) ?_
          refine gball_not (by decide +kernel) ?_
          refine gball_not (by decide +kernel) ?_
          exact gball_end (by decide +kernel)
        · rw [List.nil_append, ← hins]
          (repeat (first | refine g_nil ?_ | refine g_pure true hT rfl rfl rfl sI ?_ | refine g_skip rfl rfl ?_ | refine g_skip0 rfl rfl ?_ | refine gk_region rfl ?_ | refine gk_cond_t rfl rfl ?_ | refine gk_cond_f rfl rfl ?_ | refine g_yd rfl rfl (yd_load_blk hT rfl rfl mE rfl rfl) ?_ | refine g_yd rfl rfl (yd_load_row hT rfl rfl mE rfl rfl) ?_ | refine g_yd rfl rfl (yd_load_row0 hT rfl rfl mE rfl rfl) ?_ | refine g_yd rfl rfl (yd_eql rfl rfl rfl rfl rfl (by kernel_rfl)) ?_ | refine g_yd rfl rfl (yd_neq rfl rfl rfl rfl rfl (by kernel_rfl)) ?_ | refine g_yd rfl rfl (yd_index hT rfl rfl rfl sI rfl) ?_ | refine g_yd rfl rfl (yd_slice_nil hT rfl rfl rfl rfl) ?_ | refine g_yd rfl rfl (yd_build_arr hT rfl rfl rfl rfl rfl rfl) ?_ | (refine g_mv rfl ?_; first | (refine mv_box rfl rfl rfl rfl ?_; intro _) | (refine mv_alloc rfl hT rfl rfl ?_; intro _) | refine mv_store hT rfl rfl rfl rfl rfl rfl sO rfl ?_ | (refine mv_buildSlice rfl hT rfl rfl rfl rfl rfl rfl rfl rfl ?_; intro _)) | refine g_yd rfl rfl (Ys.yd (ys_str_eql hT rfl rfl rfl rfl)) ?_ | refine g_yd rfl rfl (Ys.yd (ys_str_neq hT rfl rfl rfl rfl)) ?_))
          refine gk_freeze _ (by intro _; first | ((repeat (first | with_reducible exact Upd.here _ | with_reducible apply Upd.there)); done) | ((repeat (first | exact Upd.here _ | apply Upd.there)); done) | fail) (fun A2 c2 hA2 hA21 hA22 hA23 => ?_); subst hA2
          refine gk_ret hT rfl rfl (.tmp rfl .nil) (fun w' hk => ?_)
          exact RetS.mk ⟨A2, _, c2⟩ ⟨rfl, hA21, hA22, hA23⟩ rfl hk (.cons (RS1.own hk mE) .nil)
  · have hdr : S.drop i = [] := List.drop_of_length_le (by omega)
    have htk : S.take i = S := List.take_of_length_le (by omega)
    by_cases hsame : b = 0 ∨ b ∈ S
    · have hb0 : b = 0 := by
        rcases hsame with h | h
        · exact h
        · exact absurd h (mem_at hs hlo (fun z hz => by have := (List.getElem?_eq_some_iff.1 hz).1; omega))
      rw [give_no hsame]
      (repeat' (first | (first | refine g_nil ?_ | refine g_pure true hT rfl rfl rfl sI ?_ | refine g_skip rfl rfl ?_ | refine g_skip0 rfl rfl ?_ | refine gk_region rfl ?_ | refine gk_cond_t rfl rfl ?_ | refine gk_cond_f rfl rfl ?_ | refine g_yd rfl rfl (yd_load_blk hT rfl rfl mE rfl rfl) ?_ | refine g_yd rfl rfl (yd_load_row hT rfl rfl mE rfl rfl) ?_ | refine g_yd rfl rfl (yd_load_row0 hT rfl rfl mE rfl rfl) ?_ | refine g_yd rfl rfl (yd_eql rfl rfl rfl rfl rfl (by kernel_rfl)) ?_ | refine g_yd rfl rfl (yd_neq rfl rfl rfl rfl rfl (by kernel_rfl)) ?_ | refine g_yd rfl rfl (yd_index hT rfl rfl rfl sI rfl) ?_ | refine g_yd rfl rfl (yd_slice_nil hT rfl rfl rfl rfl) ?_ | refine g_yd rfl rfl (yd_build_arr hT rfl rfl rfl rfl rfl rfl) ?_ | (refine g_mv rfl ?_; first | (refine mv_box rfl rfl rfl rfl ?_; intro _) | (refine mv_alloc rfl hT rfl rfl ?_; intro _) | refine mv_store hT rfl rfl rfl rfl rfl rfl sO rfl ?_ | (refine mv_buildSlice rfl hT rfl rfl rfl rfl rfl rfl rfl rfl ?_; intro _)) | refine g_yd rfl rfl (Ys.yd (ys_str_eql hT rfl rfl rfl rfl)) ?_ | refine g_yd rfl rfl (Ys.yd (ys_str_neq hT rfl rfl rfl rfl)) ?_) | ((first | refine g_split rfl rfl tE (fun _ => ?_) (fun _ => ?_) | refine gk_cond rfl rfl tE (fun _ => ?_) (fun _ => ?_)) <;> (try first | (exfalso; omega; done) | (rename_i hx; exact absurd rfl hx) | (rename_i hx; cases hx; done)))))
      all_goals refine gk_ret hT rfl rfl (.tmp rfl .nil) (fun w' hk => ?_)
      all_goals exact RetS.mk ⟨A, n, c⟩ hn rfl hk (.cons (RS1.rd hk mE (fun b hb => .inr ⟨_, .head _, hb⟩)) .nil)
    · rw [give_yes hsame]
      have hb0 : ¬ b = 0 := fun h => hsame (.inl h)
      have hins := ins_at (b := b) (S := S) (i := i) (by omega) hlo (fun z hz => by have := (List.getElem?_eq_some_iff.1 hz).1; omega)
      obtain ⟨A1, hA1⟩ : ∃ A1, A1 = A := ⟨_, rfl⟩
      refine gk_takeS (enc := IE .u32) (L := S) (A := A) (sz := 1) i c mE (by omega) ?_
      refine gk_dropS (enc := IE .u32) (L := S) (A := A) (sz := 1) i c mE (by omega) ?_
      (repeat' (first | (first | refine g_nil ?_ | refine g_pure true hT rfl rfl rfl sI ?_ | refine g_skip rfl rfl ?_ | refine g_skip0 rfl rfl ?_ | refine gk_region rfl ?_ | refine gk_cond_t rfl rfl ?_ | refine gk_cond_f rfl rfl ?_ | refine g_yd rfl rfl (yd_load_blk hT rfl rfl mE rfl rfl) ?_ | refine g_yd rfl rfl (yd_load_row hT rfl rfl mE rfl rfl) ?_ | refine g_yd rfl rfl (yd_load_row0 hT rfl rfl mE rfl rfl) ?_ | refine g_yd rfl rfl (yd_eql rfl rfl rfl rfl rfl (by kernel_rfl)) ?_ | refine g_yd rfl rfl (yd_neq rfl rfl rfl rfl rfl (by kernel_rfl)) ?_ | refine g_yd rfl rfl (yd_index hT rfl rfl rfl sI rfl) ?_ | refine g_yd rfl rfl (yd_slice_nil hT rfl rfl rfl rfl) ?_ | refine g_yd rfl rfl (yd_build_arr hT rfl rfl rfl rfl rfl rfl) ?_ | (refine g_mv rfl ?_; first | (refine mv_box rfl rfl rfl rfl ?_; intro _) | (refine mv_alloc rfl hT rfl rfl ?_; intro _) | refine mv_store hT rfl rfl rfl rfl rfl rfl sO rfl ?_ | (refine mv_buildSlice rfl hT rfl rfl rfl rfl rfl rfl rfl rfl ?_; intro _)) | refine g_yd rfl rfl (Ys.yd (ys_str_eql hT rfl rfl rfl rfl)) ?_ | refine g_yd rfl rfl (Ys.yd (ys_str_neq hT rfl rfl rfl rfl)) ?_) | ((first | refine g_split rfl rfl tE (fun _ => ?_) (fun _ => ?_) | refine gk_cond rfl rfl tE (fun _ => ?_) (fun _ => ?_)) <;> (try first | (exfalso; omega; done) | (rename_i hx; exact absurd rfl hx) | (rename_i hx; cases hx; done)))))
      refine gk_any [] (Cut _ (fun v : Value => [(4, v)]) (fun v => [own 0 34 1 v (IE .u32) (([] ++ S.take i) ++ [b] ++ S.drop i)]) (fun _ => [])) rfl rfl (by kernel_rfl) ?_ (cut_k fun v => ?_)
      · skip
        refine gb_take 1 rfl (by decide +kernel) rfl rfl (ys_ev (nw := true) hT rfl sI) sF ?_
        refine gb_take 2 rfl (by decide +kernel) rfl rfl (ys_ev (nw := true) hT rfl sI) sF ?_
        refine gb_take 3 rfl (by decide +kernel) rfl rfl (ys_slice_h hT i rfl rfl rfl rfl rfl (by omega)) sF ?_
        refine gb_take 5 rfl (by decide +kernel) rfl rfl (ys_ev (nw := true) hT rfl sI) sF ?_
        refine gb_take 8 rfl (by decide +kernel) rfl rfl (ys_ev (nw := true) hT rfl sI) sF ?_
        refine gb_take 9 rfl (by decide +kernel) rfl rfl (ys_ev (nw := true) hT rfl sI) sF ?_
        refine gb_take 10 rfl (by decide +kernel) rfl rfl (ys_slice_l hT i rfl rfl rfl rfl rfl (by omega)) sF ?_
        refine gb_all (by decide +kernel) ?_
        refine gball_yes rfl rfl ?_ ?_
        · refine mv_empty 1 (IE .u32) rfl hT rfl rfl rfl rfl rfl (fun g => ?_)
          refine ⟨sF, ?_⟩
          refine gb_all (by decide +kernel) ?_
          refine gball_not (by decide +kernel) ?_
          refine gball_not (by decide +kernel) ?_
          refine gball_not (by decide +kernel) ?_
          refine gball_not (by decide +kernel) ?_
          refine gball_yes rfl rfl ?_ ?_
          · refine mv_append (L := []) rfl (S.take i) rfl rfl rfl rfl elt_U (by intro _; first | ((repeat (first | with_reducible exact Upd.here _ | with_reducible apply Upd.there)); done) | ((repeat (first | exact Upd.here _ | apply Upd.there)); done) | fail) (src_R mE) (by rw [List.length_take]; omega) oneU (by simp only [maxLen, List.length_nil, List.length_take]; omega) (by simp only [List.length_nil, List.length_take]; omega) (Nat.zero_le _) (fun v1 => ?_)
            refine ⟨sF, ?_⟩
            refine gb_only 6 (by decide +kernel) rfl rfl ?_
            (refine mv_buildSlice (len := 1) rfl hT rfl rfl rfl rfl rfl rfl rfl rfl ?_; intro g7)
            refine ⟨sF, ?_⟩
            refine gb_only 7 (by decide +kernel) rfl rfl ?_
            refine mv_append (L := [] ++ S.take i) rfl [b] rfl rfl rfl rfl elt_U (by intro _; first | ((repeat (first | with_reducible exact Upd.here _ | with_reducible apply Upd.there)); done) | ((repeat (first | exact Upd.here _ | apply Upd.there)); done) | fail) (src_blk mE rfl) rfl oneU (by simp only [maxLen, List.length_cons, List.length_nil, List.nil_append, List.length_take]; omega) (by simp only [List.length_cons, List.length_nil, List.nil_append, List.length_take]; omega) (Nat.zero_le _) (fun v2 => ?_)
            refine ⟨sF, ?_⟩
            refine gb_only 11 (by decide +kernel) rfl rfl ?_
            refine mv_append (L := ([] ++ S.take i) ++ [b]) rfl (S.drop i) rfl rfl rfl rfl elt_U (by intro _; first | ((repeat (first | with_reducible exact Upd.here _ | with_reducible apply Upd.there)); done) | ((repeat (first | exact Upd.here _ | apply Upd.there)); done) | fail) (src_R mE) (by rw [List.length_drop]; omega) oneU (by simp only [maxLen, List.length_append, List.length_cons, List.length_nil, List.nil_append, List.length_take, List.length_drop]; omega) (by simp only [List.length_append, List.length_cons, List.length_nil, List.nil_append, List.length_take, List.length_drop]; omega) (Nat.zero_le _) (fun v3 => ?_)
            refine ⟨sF, ?_⟩
            refine gb_take 12 rfl (by decide +kernel) rfl rfl (ys_ev (nw := true) hT rfl sI) sF ?_
            refine gb_nil (by decide +kernel) ?_
            exact ⟨v3, (by repeat (first | exact trivial | refine ⟨rfl, ?_⟩)), sA, sS⟩
          refine gball_not (by decide +kernel) ?_
          refine gball_yes rfl rfl ?_ ?_
          · (refine mv_buildSlice (len := 1) rfl hT rfl rfl rfl rfl rfl rfl rfl rfl ?_; intro g7)
            refine ⟨sF, ?_⟩
            refine gb_only 4 (by decide +kernel) rfl rfl ?_
            refine mv_append (L := []) rfl (S.take i) rfl rfl rfl rfl elt_U (by intro _; first | ((repeat (first | with_reducible exact Upd.here _ | with_reducible apply Upd.there)); done) | ((repeat (first | exact Upd.here _ | apply Upd.there)); done) | fail) (src_R mE) (by rw [List.length_take]; omega) oneU (by simp only [maxLen, List.length_nil, List.length_take]; omega) (by simp only [List.length_nil, List.length_take]; omega) (Nat.zero_le _) (fun v1 => ?_)
            refine ⟨sF, ?_⟩
            refine gb_only 7 (by decide +kernel) rfl rfl ?_
            refine mv_append (L := [] ++ S.take i) rfl [b] rfl rfl rfl rfl elt_U (by intro _; first | ((repeat (first | with_reducible exact Upd.here _ | with_reducible apply Upd.there)); done) | ((repeat (first | exact Upd.here _ | apply Upd.there)); done) | fail) (src_blk mE rfl) rfl oneU (by simp only [maxLen, List.length_cons, List.length_nil, List.nil_append, List.length_take]; omega) (by simp only [List.length_cons, List.length_nil, List.nil_append, List.length_take]; omega) (Nat.zero_le _) (fun v2 => ?_)
            refine ⟨sF, ?_⟩
            refine gb_only 11 (by decide +kernel) rfl rfl ?_
            refine mv_append (L := ([] ++ S.take i) ++ [b]) rfl (S.drop i) rfl rfl rfl rfl elt_U (by intro _; first | ((repeat (first | with_reducible exact Upd.here _ | with_reducible apply Upd.there)); done) | ((repeat (first | exact Upd.here _ | apply Upd.there)); done) | fail) (src_R mE) (by rw [List.length_drop]; omega) oneU (by simp only [maxLen, List.length_append, List.length_cons, List.length_nil, List.nil_append, List.length_take, List.length_drop]; omega) (by simp only [List.length_append, List.length_cons, List.length_nil, List.nil_append, List.length_take, List.length_drop]; omega) (Nat.zero_le _) (fun v3 => ?_)
            refine ⟨sF, ?_⟩
            refine gb_take 12 rfl (by decide +kernel) rfl rfl (ys_ev (nw := true) hT rfl sI) sF ?_
            refine gb_nil (by decide +kernel) ?_
            exact ⟨v3, (by repeat (first | exact trivial | refine ⟨rfl, ?_⟩)), sA, sS⟩
          refine gball_not (by decide +kernel) ?_
          refine gball_not (by decide +kernel) ?_
          refine gball_not (by decide +kernel) ?_
          refine gball_not (by decide +kernel) ?_
          refine gball_not (by decide +kernel) ?_
          refine gball_not (by decide +kernel) ?_
          exact gball_end (by decide +kernel)
        refine gball_not (by decide +kernel) ?_
        refine gball_not (by decide +kernel) ?_
        refine gball_not (by decide +kernel) ?_
        refine gball_not (by decide +kernel) ?_
        refine gball_not (by decide +kernel) ?_
        refine gball_yes rfl rfl ?_ ?_
        · (refine mv_buildSlice (len := 1) rfl hT rfl rfl rfl rfl rfl rfl rfl rfl ?_; intro g7)
          refine ⟨sF, ?_⟩
          refine gb_only 0 (by decide +kernel) rfl rfl ?_
          refine mv_empty 1 (IE .u32) rfl hT rfl rfl rfl rfl rfl (fun g => ?_)
          refine ⟨sF, ?_⟩
          refine gb_only 4 (by decide +kernel) rfl rfl ?_
          refine mv_append (L := []) rfl (S.take i) rfl rfl rfl rfl elt_U (by intro _; first | ((repeat (first | with_reducible exact Upd.here _ | with_reducible apply Upd.there)); done) | ((repeat (first | exact Upd.here _ | apply Upd.there)); done) | fail) (src_R mE) (by rw [List.length_take]; omega) oneU (by simp only [maxLen, List.length_nil, List.length_take]; omega) (by simp only [List.length_nil, List.length_take]; omega) (Nat.zero_le _) (fun v1 => ?_)
          refine ⟨sF, ?_⟩
          refine gb_only 7 (by decide +kernel) rfl rfl ?_
          refine mv_append (L := [] ++ S.take i) rfl [b] rfl rfl rfl rfl elt_U (by intro _; first | ((repeat (first | with_reducible exact Upd.here _ | with_reducible apply Upd.there)); done) | ((repeat (first | exact Upd.here _ | apply Upd.there)); done) | fail) (src_blk mE rfl) rfl oneU (by simp only [maxLen, List.length_cons, List.length_nil, List.nil_append, List.length_take]; omega) (by simp only [List.length_cons, List.length_nil, List.nil_append, List.length_take]; omega) (Nat.zero_le _) (fun v2 => ?_)
          refine ⟨sF, ?_⟩
          refine gb_only 11 (by decide +kernel) rfl rfl ?_
          refine mv_append (L := ([] ++ S.take i) ++ [b]) rfl (S.drop i) rfl rfl rfl rfl elt_U (by intro _; first | ((repeat (first | with_reducible exact Upd.here _ | with_reducible apply Upd.there)); done) | ((repeat (first | exact Upd.here _ | apply Upd.there)); done) | fail) (src_R mE) (by rw [List.length_drop]; omega) oneU (by simp only [maxLen, List.length_append, List.length_cons, List.length_nil, List.nil_append, List.length_take, List.length_drop]; omega) (by simp only [List.length_append, List.length_cons, List.length_nil, List.nil_append, List.length_take, List.length_drop]; omega) (Nat.zero_le _) (fun v3 => ?_)
          refine ⟨sF, ?_⟩
          refine gb_take 12 rfl (by decide +kernel) rfl rfl (ys_ev (nw := true) hT rfl sI) sF ?_
          refine gb_nil (by decide +kernel) ?_
          exact ⟨v3, (by repeat (first | exact trivial | refine ⟨rfl, ?_⟩)), sA, sS⟩
        refine gball_not (by decide +kernel) ?_
        refine gball_not (by decide +kernel) ?_
        refine gball_not (by decide +kernel) ?_
        refine gball_not (by decide +kernel) ?_
        refine gball_not (by decide +kernel) ?_
        refine gball_not (by decide +kernel) ?_
        exact gball_end (by decide +kernel)
      · rw [List.nil_append, ← hins]
        (repeat (first | refine g_nil ?_ | refine g_pure true hT rfl rfl rfl sI ?_ | refine g_skip rfl rfl ?_ | refine g_skip0 rfl rfl ?_ | refine gk_region rfl ?_ | refine gk_cond_t rfl rfl ?_ | refine gk_cond_f rfl rfl ?_ | refine g_yd rfl rfl (yd_load_blk hT rfl rfl mE rfl rfl) ?_ | refine g_yd rfl rfl (yd_load_row hT rfl rfl mE rfl rfl) ?_ | refine g_yd rfl rfl (yd_load_row0 hT rfl rfl mE rfl rfl) ?_ | refine g_yd rfl rfl (yd_eql rfl rfl rfl rfl rfl (by kernel_rfl)) ?_ | refine g_yd rfl rfl (yd_neq rfl rfl rfl rfl rfl (by kernel_rfl)) ?_ | refine g_yd rfl rfl (yd_index hT rfl rfl rfl sI rfl) ?_ | refine g_yd rfl rfl (yd_slice_nil hT rfl rfl rfl rfl) ?_ | refine g_yd rfl rfl (yd_build_arr hT rfl rfl rfl rfl rfl rfl) ?_ | (refine g_mv rfl ?_; first | (refine mv_box rfl rfl rfl rfl ?_; intro _) | (refine mv_alloc rfl hT rfl rfl ?_; intro _) | refine mv_store hT rfl rfl rfl rfl rfl rfl sO rfl ?_ | (refine mv_buildSlice rfl hT rfl rfl rfl rfl rfl rfl rfl rfl ?_; intro _)) | refine g_yd rfl rfl (Ys.yd (ys_str_eql hT rfl rfl rfl rfl)) ?_ | refine g_yd rfl rfl (Ys.yd (ys_str_neq hT rfl rfl rfl rfl)) ?_))
        refine gk_freeze _ (by intro _; first | ((repeat (first | with_reducible exact Upd.here _ | with_reducible apply Upd.there)); done) | ((repeat (first | exact Upd.here _ | apply Upd.there)); done) | fail) (fun A2 c2 hA2 hA21 hA22 hA23 => ?_); subst hA2
        refine gk_ret hT rfl rfl (.tmp rfl .nil) (fun w' hk => ?_)
        exact RetS.mk ⟨A2, _, c2⟩ ⟨rfl, hA21, hA22, hA23⟩ rfl hk (.cons (RS1.own hk mE) .nil)
theorem g_triv {X : Cx} {f : Fr} {O R : List Fact} {k : List KI} {ops l : List Oper} (ψ : Fact) (hp : ∀ w, ψ.p w) (hn : ∀ b, ¬ ψ.S b) (hg : G X ops l k f (ψ :: O) R) : G X ops l k f O R := .mk fun a w hr hk => hg.out a w hr (hk.addO ψ (hp w) hn)
theorem lalive (w : World) : Calls Try.prog 13 [].toArray w fun e w' => e = .returned (.bool true) ∧ Below w.heap.size w w' := by
  refine g_enter0 T [] [] [] Try.func13 rfl Try.ntmps13 rfl (Kn.start _) ?_
  (repeat (first | refine g_nil ?_ | refine g_pure true hT rfl rfl rfl sI ?_ | refine g_skip rfl rfl ?_ | refine g_skip0 rfl rfl ?_ | refine gk_region rfl ?_ | refine gk_cond_t rfl rfl ?_ | refine gk_cond_f rfl rfl ?_ | refine g_yd rfl rfl (yd_load_blk hT rfl rfl mE rfl rfl) ?_ | refine g_yd rfl rfl (yd_load_row hT rfl rfl mE rfl rfl) ?_ | refine g_yd rfl rfl (yd_load_row0 hT rfl rfl mE rfl rfl) ?_ | refine g_yd rfl rfl (yd_eql rfl rfl rfl rfl rfl (by kernel_rfl)) ?_ | refine g_yd rfl rfl (yd_neq rfl rfl rfl rfl rfl (by kernel_rfl)) ?_ | refine g_yd rfl rfl (yd_index hT rfl rfl rfl sI rfl) ?_ | refine g_yd rfl rfl (yd_slice_nil hT rfl rfl rfl rfl) ?_ | refine g_yd rfl rfl (yd_build_arr hT rfl rfl rfl rfl rfl rfl) ?_ | (refine g_mv rfl ?_; first | (refine mv_box rfl rfl rfl rfl ?_; intro _) | (refine mv_alloc rfl hT rfl rfl ?_; intro _) | refine mv_store hT rfl rfl rfl rfl rfl rfl sO rfl ?_ | (refine mv_buildSlice rfl hT rfl rfl rfl rfl rfl rfl rfl rfl ?_; intro _)) | refine g_yd rfl rfl (Ys.yd (ys_str_eql hT rfl rfl rfl rfl)) ?_ | refine g_yd rfl rfl (Ys.yd (ys_str_neq hT rfl rfl rfl rfl)) ?_))
  rename_i g
  have h0 : FrOk ⟨none, .slice none 0 0, [], []⟩ [] := ⟨List.Perm.refl _, List.Perm.refl _, .nil, fun k h0 hk => absurd hk (Nat.not_lt_zero _), fun _ => rfl, Nat.zero_le _⟩
  refine g_own 0 34 1 (IE .u32) ?_
  refine g_pack (frL g [.map none] 132 (.slice none 0 0) []) [] sA ?_
  refine g_triv (mpo none []) (fun _ => rfl) (fun b h => h) ?_
  refine g_pack (frF g ⟨none, .slice none 0 0, [], []⟩) [] (sA : SelAll [packF (frL g [.map none] 132 (.slice none 0 0) []), mpo none []] _) ?_
  refine g_mv rfl (mv_call_mod (φ := packF (frF g ⟨none, .slice none 0 0, [], []⟩)) (ψ := fun q : FrS × Bool => packF (frF g q.1)) (fun w hk => lgive_any g _ [] 5 w h0 (by decide) (hk.rO (φ := packF (frF g ⟨none, .slice none 0 0, [], []⟩)) mE)) rfl rfl rfl rfl rfl (by kernel_rfl) (by intro _; first | ((repeat (first | with_reducible exact Upd.here _ | with_reducible apply Upd.there)); done) | ((repeat (first | exact Upd.here _ | apply Upd.there)); done) | fail) (fun q hI => ?_))
  obtain ⟨s1, b1⟩ := q
  obtain ⟨h1, e1⟩ := hI
  have p1 : giveP 5 [] = ([5], true) := by decide
  rw [p1] at h1 e1
  replace e1 : b1 = true := e1
  subst e1
  (repeat (first | refine g_nil ?_ | refine g_pure true hT rfl rfl rfl sI ?_ | refine g_skip rfl rfl ?_ | refine g_skip0 rfl rfl ?_ | refine gk_region rfl ?_ | refine gk_cond_t rfl rfl ?_ | refine gk_cond_f rfl rfl ?_ | refine g_yd rfl rfl (yd_load_blk hT rfl rfl mE rfl rfl) ?_ | refine g_yd rfl rfl (yd_load_row hT rfl rfl mE rfl rfl) ?_ | refine g_yd rfl rfl (yd_load_row0 hT rfl rfl mE rfl rfl) ?_ | refine g_yd rfl rfl (yd_eql rfl rfl rfl rfl rfl (by kernel_rfl)) ?_ | refine g_yd rfl rfl (yd_neq rfl rfl rfl rfl rfl (by kernel_rfl)) ?_ | refine g_yd rfl rfl (yd_index hT rfl rfl rfl sI rfl) ?_ | refine g_yd rfl rfl (yd_slice_nil hT rfl rfl rfl rfl) ?_ | refine g_yd rfl rfl (yd_build_arr hT rfl rfl rfl rfl rfl rfl) ?_ | (refine g_mv rfl ?_; first | (refine mv_box rfl rfl rfl rfl ?_; intro _) | (refine mv_alloc rfl hT rfl rfl ?_; intro _) | refine mv_store hT rfl rfl rfl rfl rfl rfl sO rfl ?_ | (refine mv_buildSlice rfl hT rfl rfl rfl rfl rfl rfl rfl rfl ?_; intro _)) | refine g_yd rfl rfl (Ys.yd (ys_str_eql hT rfl rfl rfl rfl)) ?_ | refine g_yd rfl rfl (Ys.yd (ys_str_neq hT rfl rfl rfl rfl)) ?_))
  refine g_mv rfl (mv_call_mod (φ := packF (frF g s1)) (ψ := fun q : FrS × Bool => packF (frF g q.1)) (fun w hk => lgive_any g s1 [5] 2 w h1 (by decide) (hk.rO (φ := packF (frF g s1)) mE)) rfl rfl rfl rfl rfl (by kernel_rfl) (by intro _; first | ((repeat (first | with_reducible exact Upd.here _ | with_reducible apply Upd.there)); done) | ((repeat (first | exact Upd.here _ | apply Upd.there)); done) | fail) (fun q hI => ?_))
  obtain ⟨s2, b2⟩ := q
  obtain ⟨h2, e2⟩ := hI
  have p2 : giveP 2 [5] = ([2, 5], true) := by decide
  rw [p2] at h2 e2
  replace e2 : b2 = true := e2
  subst e2
  (repeat (first | refine g_nil ?_ | refine g_pure true hT rfl rfl rfl sI ?_ | refine g_skip rfl rfl ?_ | refine g_skip0 rfl rfl ?_ | refine gk_region rfl ?_ | refine gk_cond_t rfl rfl ?_ | refine gk_cond_f rfl rfl ?_ | refine g_yd rfl rfl (yd_load_blk hT rfl rfl mE rfl rfl) ?_ | refine g_yd rfl rfl (yd_load_row hT rfl rfl mE rfl rfl) ?_ | refine g_yd rfl rfl (yd_load_row0 hT rfl rfl mE rfl rfl) ?_ | refine g_yd rfl rfl (yd_eql rfl rfl rfl rfl rfl (by kernel_rfl)) ?_ | refine g_yd rfl rfl (yd_neq rfl rfl rfl rfl rfl (by kernel_rfl)) ?_ | refine g_yd rfl rfl (yd_index hT rfl rfl rfl sI rfl) ?_ | refine g_yd rfl rfl (yd_slice_nil hT rfl rfl rfl rfl) ?_ | refine g_yd rfl rfl (yd_build_arr hT rfl rfl rfl rfl rfl rfl) ?_ | (refine g_mv rfl ?_; first | (refine mv_box rfl rfl rfl rfl ?_; intro _) | (refine mv_alloc rfl hT rfl rfl ?_; intro _) | refine mv_store hT rfl rfl rfl rfl rfl rfl sO rfl ?_ | (refine mv_buildSlice rfl hT rfl rfl rfl rfl rfl rfl rfl rfl ?_; intro _)) | refine g_yd rfl rfl (Ys.yd (ys_str_eql hT rfl rfl rfl rfl)) ?_ | refine g_yd rfl rfl (Ys.yd (ys_str_neq hT rfl rfl rfl rfl)) ?_))
  refine g_mv rfl (mv_call_mod (φ := packF (frF g s2)) (ψ := fun q : FrS × Int × Bool => packF (frF g q.1)) (fun w hk => ltake_any g s2 [2, 5] w h2 (hk.rO (φ := packF (frF g s2)) mE)) rfl rfl rfl rfl rfl (by kernel_rfl) (by intro _; first | ((repeat (first | with_reducible exact Upd.here _ | with_reducible apply Upd.there)); done) | ((repeat (first | exact Upd.here _ | apply Upd.there)); done) | fail) (fun q hI => ?_))
  obtain ⟨s3, x3, b3⟩ := q
  obtain ⟨h3, e3⟩ := hI
  injection e3 with e3 e4
  replace e3 : x3 = 2 := e3
  replace e4 : b3 = true := e4
  subst e3
  subst e4
  replace h3 : FrOk s3 [5] := h3
  have hl3 : s3.L.length = 1 := h3.l.length_eq
  have hln : ∀ w, Rd1 w (packF (frF g s3)) → Calls Try.prog 20 [.pointer (some ⟨g, 0, none⟩)].toArray w fun e w' => e = .returned (.int .i64 1) ∧ Below w.heap.size w w' := fun w h => by
    have := llen_any g s3 w h (by omega)
    rw [hl3] at this
    exact this
  (repeat' (first | (first | refine g_nil ?_ | refine g_pure true hT rfl rfl rfl sI ?_ | refine g_skip rfl rfl ?_ | refine g_skip0 rfl rfl ?_ | refine gk_region rfl ?_ | refine gk_cond_t rfl rfl ?_ | refine gk_cond_f rfl rfl ?_ | refine g_yd rfl rfl (yd_load_blk hT rfl rfl mE rfl rfl) ?_ | refine g_yd rfl rfl (yd_load_row hT rfl rfl mE rfl rfl) ?_ | refine g_yd rfl rfl (yd_load_row0 hT rfl rfl mE rfl rfl) ?_ | refine g_yd rfl rfl (yd_eql rfl rfl rfl rfl rfl (by kernel_rfl)) ?_ | refine g_yd rfl rfl (yd_neq rfl rfl rfl rfl rfl (by kernel_rfl)) ?_ | refine g_yd rfl rfl (yd_index hT rfl rfl rfl sI rfl) ?_ | refine g_yd rfl rfl (yd_slice_nil hT rfl rfl rfl rfl) ?_ | refine g_yd rfl rfl (yd_build_arr hT rfl rfl rfl rfl rfl rfl) ?_ | (refine g_mv rfl ?_; first | (refine mv_box rfl rfl rfl rfl ?_; intro _) | (refine mv_alloc rfl hT rfl rfl ?_; intro _) | refine mv_store hT rfl rfl rfl rfl rfl rfl sO rfl ?_ | (refine mv_buildSlice rfl hT rfl rfl rfl rfl rfl rfl rfl rfl ?_; intro _)) | refine g_yd rfl rfl (Ys.yd (ys_str_eql hT rfl rfl rfl rfl)) ?_ | refine g_yd rfl rfl (Ys.yd (ys_str_neq hT rfl rfl rfl rfl)) ?_) | (refine g_mv rfl ?_; first | refine mv_call_bel (fun w hk => hln w (hk.rO mE)) rfl rfl rfl rfl rfl (by kernel_rfl) ?_) | ((first | refine g_split rfl rfl tE (fun _ => ?_) (fun _ => ?_) | refine gk_cond rfl rfl tE (fun _ => ?_) (fun _ => ?_)) <;> (try first | (exfalso; omega; done) | (rename_i hx; exact absurd rfl hx) | (rename_i hx; cases hx; done)))))
  refine gk_ret hT rfl rfl (.tmp rfl .nil) (fun w' hk => ?_)
  exact ⟨ret_bool (by simp [tB_eq]), hk.toBelow⟩
end Go.Proofs.Ytmmijcannahjhaa.Hp

