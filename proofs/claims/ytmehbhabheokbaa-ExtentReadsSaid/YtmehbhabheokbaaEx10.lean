/- The statement ExtentReads. -/
import Derived.Test.YtmehbhabheokbaaEx9
namespace Go.Proofs.Ytmehbhabheokbaa.Ex
open Go.RowKit Mem Gx Dd
set_option linter.unusedVariables false
set_option linter.unusedSimpArgs false
set_option maxRecDepth 100000
set_option maxHeartbeats 1000000
theorem ofP_bd (L : List Int) : ∀ r ∈ ofP L, (1 ≤ r.m ∧ r.m ≤ 4097 ∧ 0 ≤ r.f ∧ r.f ≤ 4096) ∧ r.f + r.m ≤ 4097 := fun r hr => by
  have h := ofP_inv L
  have h1 := rightE_m h.right r hr
  refine ⟨h1, ?_⟩
  have h2 : r.f + ((r.m.toNat - 1 : Nat) : Int) ∈ exp (ofP L) := by
    refine List.mem_flatMap.2 ⟨r, hr, ?_⟩
    exact List.mem_map.2 ⟨r.m.toNat - 1, List.mem_range.2 (by omega), rfl⟩
  rw [h.ex] at h2
  have h3 := (List.mem_filter.1 h2).2
  simp [inr] at h3
  omega
theorem read_txt (L : List Int) {r : List RunD × Int} (h : XReadR (txtP (ofP L)) r) : r = (ofP L, 0) := by
  have hi := ofP_inv L
  have hb := ofP_bd L
  have ht : txtP (ofP L) = txt (ofP L) := by unfold txtP; rw [tB_true hi.right, if_pos rfl]
  generalize ofP L = R at h hi hb ht ⊢
  rcases R.length.eq_zero_or_pos with h0 | h0
  · obtain rfl := List.length_eq_zero_iff.1 h0
    have e : txtP [] = [] := ht
    rcases h with ⟨_, h2⟩ | ⟨h1, _⟩ | ⟨h1, _⟩
    · exact h2
    · exact absurd e h1
    · exact absurd e h1
  · have h1 := rdN_txt hb (R.length - 1) (by omega)
    rw [show R.length - 1 + 1 = R.length by omega, List.take_length] at h1
    have h2 : rdN (txt R) ((txt R).length + 1) = some ((txt R).length + 1, R) := h1
    rw [← ht] at h2
    have hne : txtP R ≠ [] := by
      rw [ht]
      intro e
      obtain ⟨r0, hr0⟩ : ∃ r, R[0]? = some r := ⟨_, List.getElem?_eq_getElem h0⟩
      obtain ⟨M, hM⟩ := txtN_pre R 1 R.length (by omega)
      have h3 : txt R = txtN R 1 ++ M := hM
      rw [e, txtN_step hr0] at h3
      have h4 := congrArg List.length h3
      have h5 := dgs_pos r0.f.toNat
      unfold txtR at h4
      simp only [List.length_append, List.length_nil] at h4
      omega
    rcases h with ⟨h3, _⟩ | ⟨_, fr, out, h3, _, h5⟩ | ⟨_, h3, _⟩
    · exact absurd h3 hne
    · rw [h2] at h3
      injection h3 with h3
      injection h3 with h6 h7
      rw [h5, h7]
    · exact absurd rfl (h3 _ _ h2)
theorem txtN_len1 {L : List RunD} (h : ∀ r ∈ L, 1 ≤ r.m ∧ r.m ≤ 4097 ∧ 0 ≤ r.f ∧ r.f ≤ 4096) (i : Nat) (hi : i < L.length) : (txtN L (i + 1)).length ≤ 10 * i + 9 := by
  obtain ⟨r, hr⟩ : ∃ r, L[i]? = some r := ⟨_, List.getElem?_eq_getElem hi⟩
  have h1 := txtN_len h i (by omega)
  have h2 := txtR_len (h r (List.mem_of_getElem? hr))
  rw [txtN_step hr]
  rcases Nat.eq_zero_or_pos i with h0 | h0
  · subst h0
    rw [if_neg (Nat.lt_irrefl 0)]
    simp only [txtN, List.nil_append]
    omega
  · have h3 : (txtN L i).length + 1 ≤ 10 * i := by
      obtain ⟨k, rfl⟩ : ∃ k, i = k + 1 := ⟨i - 1, by omega⟩
      have := txtN_len1 h k (by omega)
      omega
    rw [if_pos h0]
    simp only [List.length_append, List.length_cons, List.length_nil]
    omega
theorem extentReads_any (s : List Int) (A : Option Addr) (n c : Nat) (L : List Int) (w : World) (hB : Bts s) (hn : n = L.length) (hs : Rd1 w (sl A 1 (IE .i64) L)) :
    Calls Try.prog 8 [.string (strOfNums s), .slice A n c].toArray w fun e w' => e = .returned (.bool true) ∧ Below w.heap.size w w' := by
  refine g_enter0 T [] [] [sl A 1 (IE .i64) L] Try.func8 rfl Try.ntmps8 rfl (Rds.cons hs .nil).kn ?_
  have hsz := sx_size s
  by_cases hgr : 200 < s.length ∨ 100 < n
  · (repeat' (first | (refine gG ?_; try intro _) | ((first | refine g_split rfl rfl tE (fun _ => ?_) (fun _ => ?_) | refine gk_cond rfl rfl tE (fun _ => ?_) (fun _ => ?_)) <;> (try first | (exfalso; omega; done) | (rename_i hx; exact absurd rfl hx) | (rename_i hx; cases hx; done)))))
    all_goals (refine gk_ret hT rfl rfl (.tmp rfl .nil) (fun w' hk => ?_); exact ⟨rfl, hk.toBelow⟩)
  (repeat' (first | (refine gG ?_; try intro _) | ((first | refine g_split rfl rfl tE (fun _ => ?_) (fun _ => ?_) | refine gk_cond rfl rfl tE (fun _ => ?_) (fun _ => ?_)) <;> (try first | (exfalso; omega; done) | (rename_i hx; exact absurd rfl hx) | (rename_i hx; cases hx; done)))))
  refine g_mv rfl ?_; refine mv_call_rt (fun w hk => xof_any A n c L w hn (by omega) (hk.rR (φ := sl A 1 (IE .i64) L) mE)) rfl rfl rfl rfl rfl (by kernel_rfl) (fun _ => rfl) (fun v5 _ => ?_)
  have hof := ofP_inv L
  have hRd : ∀ r : List RunD × Int, XReadR (txtP (ofP L)) r → r = (ofP L, 0) := fun r h => read_txt L h
  have hrl : (ofP L).length ≤ 100 := by
    have h1 := rlN_len (dd (srt L)) (dd (srt L)).length
    have h2 : (dd (srt L)).length ≤ (srt L).length := ddN_len
    rw [srt_len] at h2
    unfold ofP rl
    omega
  have htb := txtP_bts (ofP L)
  have htl : (txtP (ofP L)).length ≤ 999 := by
    unfold txtP
    rw [tB_true hof.right, if_pos rfl]
    unfold txt
    rcases Nat.eq_zero_or_pos (ofP L).length with h0 | h0
    · rw [h0]; simp [txtN]
    · have := txtN_len1 (fun r hr => (ofP_bd L r hr).1) ((ofP L).length - 1) (by omega)
      rw [show (ofP L).length - 1 + 1 = (ofP L).length by omega] at this
      omega
  generalize ofP L = R at hof hRd hrl htb htl ⊢
  refine g_freeze _ (by intro _; first | ((repeat (first | with_reducible exact Upd.here _ | with_reducible apply Upd.there)); done) | ((repeat (first | exact Upd.here _ | apply Upd.there)); done) | fail) (fun A1 c1 hA hA1 hA2 hA3 => ?_)
  subst hA
  (repeat (refine gG ?_; try intro _))
  refine g_mv rfl (mv_call_bel (fun w hk => xtext_any A1 R.length c1 R w rfl (by omega) (hk.rO (φ := sl A1 2 RE R) mE)) rfl rfl rfl rfl rfl (by kernel_rfl) ?_)
  refine g_mv rfl ?_; refine mv_call_rt (fun w hk => xread_any (txtP R) w htb htl) rfl rfl rfl rfl rfl (by kernel_rfl) (fun _ => rfl) (fun r hr => ?_)
  obtain ⟨⟨A3, n3, c3⟩, o3, e3⟩ := r
  obtain ⟨hr1, hr2, hr3⟩ := hr
  have hr4 := hRd _ hr1
  injection hr4 with h1 h2
  dsimp only at h1 h2 hr2 hr3 ⊢
  subst h1
  subst h2
  subst hr2
  (repeat (refine gG ?_; try intro _))
  refine g_mv rfl (mv_call_bel (v := .bool true) (fun w hk => by
    have hc := equal_R A3 A1 o3.length c3 o3.length c1 o3 o3 w rfl rfl (by omega) (hk.pO (sl A3 2 RE o3) mE) (hk.pO (sl A1 2 RE o3) mE)
    rw [tB_true rfl] at hc
    exact hc) rfl rfl rfl rfl rfl (by kernel_rfl) ?_)
  (repeat' (first | (refine gG ?_; try intro _) | ((first | refine g_split rfl rfl tE (fun _ => ?_) (fun _ => ?_) | refine gk_cond rfl rfl tE (fun _ => ?_) (fun _ => ?_)) <;> (try first | (exfalso; omega; done) | (rename_i hx; exact absurd rfl hx) | (rename_i hx; cases hx; done)))))
  refine g_mv rfl ?_; refine mv_call_rt (fun w hk => xread_any s w hB (by omega)) rfl rfl rfl rfl rfl (by kernel_rfl) (fun _ => rfl) (fun r hr => ?_)
  obtain ⟨⟨A2, n2, c2⟩, o, e⟩ := r
  obtain ⟨hr1, hr2, hr3⟩ := hr
  dsimp only at hr1 hr2 hr3 ⊢
  subst hr2
  have hcase : (e = 21 ∧ o = []) ∨ (e = 0 ∧ rightE (-1) o ∧ txt o = s ∧ (∀ r ∈ o, 0 ≤ r.f ∧ r.f ≤ 4096 ∧ 1 ≤ r.m ∧ r.f + r.m ≤ 4097) ∧ o.length ≤ 202) := by
    rcases hr1 with ⟨h1, h2⟩ | ⟨h1, fr, out, h2, h3, h4⟩ | ⟨h1, h2, h3⟩
    · injection h2 with h2 h3
      subst h2
      exact .inr ⟨h3, trivial, h1.symm, fun r hr => (by cases hr), by simp⟩
    · injection h4 with h4 h5
      subst h4
      obtain ⟨q1, q2, q3⟩ := rdN_inv _ _ _ h2
      have hR : rightE (-1) o := Classical.byContradiction fun h => h1 (by rw [← h3]; unfold txtP; rw [tB_false h, if_neg (by simp)])
      exact .inr ⟨h5, hR, by rw [← h3]; unfold txtP; rw [tB_true hR, if_pos rfl], q3, by omega⟩
    · injection h3 with h3 h4
      exact .inl ⟨h4, h3⟩
  clear hr1
  rcases hcase with ⟨he, ho⟩ | ⟨he, hR, htx, hbd, hol⟩
  · subst he
    subst ho
    have hz : ([] : List RunD).length = 0 := rfl
    (repeat' (first | (refine gG ?_; try intro _) | (refine g_mv rfl ?_; first | refine mv_call_bel (fun w hk => alive_any w) rfl rfl rfl rfl rfl (by kernel_rfl) ?_) | ((first | refine g_split rfl rfl tE (fun _ => ?_) (fun _ => ?_) | refine gk_cond rfl rfl tE (fun _ => ?_) (fun _ => ?_)) <;> (try first | (exfalso; omega; done) | (rename_i hx; exact absurd rfl hx) | (rename_i hx; cases hx; done)))))
    refine gk_ret hT rfl rfl (.tmp rfl .nil) (fun w' hk => ?_)
    exact ⟨rfl, hk.toBelow⟩
  · subst he
    (repeat' (first | (refine gG ?_; try intro _) | ((first | refine g_split rfl rfl tE (fun _ => ?_) (fun _ => ?_) | refine gk_cond rfl rfl tE (fun _ => ?_) (fun _ => ?_)) <;> (try first | (exfalso; omega; done) | (rename_i hx; exact absurd rfl hx) | (rename_i hx; cases hx; done)))))
    refine gk_share (φ := sl A2 2 RE o) (by repeat (first | with_reducible exact Sel.here | with_reducible apply Sel.there)) ?_
    refine gk_loop_sel (fun (q : Nat × Unit) => match q with | (i, z) => (i ≤ o.length)) (fun (q : Nat × Unit) => match q with | (i, z) => [(0, .string (strOfNums s)), (8, .slice A2 o.length c2), (9, .int .i64 0), (10, .int .i64 (i : Int))]) (fun (q : Nat × Unit) => match q with | (i, z) => []) (fun (q : Nat × Unit) => match q with | (i, z) => [sl A2 2 RE o]) (fun (q : Nat × Unit) => match q with | (i, z) => o.length - i) (0, ()) rfl (Nat.zero_le _) (by repeat (first | exact trivial | refine ⟨rfl, ?_⟩)) sA sS ?_
    rintro ⟨i, z⟩ hI
    replace hI : (i ≤ o.length) := hI
    change GK _ _ [(0, .string (strOfNums s)), (8, .slice A2 o.length c2), (9, .int .i64 0), (10, .int .i64 (i : Int))] [] [sl A2 2 RE o]
    by_cases hlt : i < o.length
    · obtain ⟨r, hr⟩ : ∃ r, o[i]? = some r := ⟨_, List.getElem?_eq_getElem hlt⟩
      have hrb := hbd r (List.mem_of_getElem? hr)
      refine gk_elem (enc := RE) (L := o) i mE hlt (by decide) (fun b off y eA hy => ?_)
      subst eA
      obtain rfl : r = y := by rw [hr] at hy; exact Option.some.inj hy
      (repeat' (first | (refine gG ?_; try intro _) | ((first | refine g_split rfl rfl tE (fun _ => ?_) (fun _ => ?_) | refine gk_cond rfl rfl tE (fun _ => ?_) (fun _ => ?_)) <;> (try first | (exfalso; omega; done) | (rename_i hx; exact absurd rfl hx) | (rename_i hx; cases hx; done)))))
      refine gk_any [0] (Cut _ (fun _ : Unit => [(0, .string (strOfNums s)), (8, .slice (some ⟨b, off, none⟩) o.length c2), (9, .int .i64 0), (10, .int .i64 (i : Int)), (69, .bool false)]) (fun _ => []) (fun _ => [sl (some ⟨b, off, none⟩) 2 RE o])) rfl rfl (by kernel_rfl) ?_ (cut_k fun _ => ?_)
      · skip
        refine gb_take 0 rfl (by decide +kernel) rfl rfl (ys_ev (nw := true) hT rfl sI) sF ?_
        refine gb_take 1 rfl (by decide +kernel) rfl rfl (ys_ev (nw := true) hT rfl sI) sF ?_
        refine gb_take 2 rfl (by decide +kernel) rfl rfl (ys_ev (nw := true) hT rfl sI) sF ?_
        refine gb_take 3 rfl (by decide +kernel) rfl rfl (ys_ev (nw := true) hT rfl sI) sF ?_
        refine gb_take 4 rfl (by decide +kernel) rfl rfl (by first | exact ys_blk hT rfl rfl mE rfl rfl | exact ys_row hT rfl rfl mE rfl rfl | exact ys_row0 hT rfl rfl mE rfl rfl) sF ?_
        refine gb_take 5 rfl (by decide +kernel) rfl rfl (ys_ev (nw := true) hT rfl sI) sF ?_
        refine gb_take 6 rfl (by decide +kernel) rfl rfl (ys_ev (nw := true) hT rfl sI) sF ?_
        refine gb_take 7 rfl (by decide +kernel) rfl rfl (ys_ev (nw := true) hT rfl sI) sF ?_
        refine gb_take 8 rfl (by decide +kernel) rfl rfl (ys_ev (nw := true) hT rfl sI) sF ?_
        refine gb_take 9 rfl (by decide +kernel) rfl rfl (by first | exact ys_blk hT rfl rfl mE rfl rfl | exact ys_row hT rfl rfl mE rfl rfl | exact ys_row0 hT rfl rfl mE rfl rfl) sF ?_
        refine gb_take 10 rfl (by decide +kernel) rfl rfl (ys_ev (nw := true) hT rfl sI) sF ?_
        refine gb_take 11 rfl (by decide +kernel) rfl rfl (ys_ev (nw := true) hT rfl sI) sF ?_
        try (refine gb_say 69 (.bool false) rfl (congrArg Value.bool (tB_false (show ¬ 4097 < r.f + r.m by omega))) ?_)
        refine gb_nil (by decide +kernel) ?_
        exact ⟨(), (by repeat (first | exact trivial | refine ⟨rfl, ?_⟩)), sA, sS⟩
      · (repeat (refine gG ?_; try intro _))
        refine gk_say 10 (.int .i64 ((i + 1 : Nat) : Int)) rfl (by first | (congr 1; done) | (congr 1; omega)) ?_
        refine gk_again_sel rfl (i + 1, ()) (by omega) (by dsimp only; omega) (by repeat (first | exact trivial | refine ⟨rfl, ?_⟩)) sA sS
    · (repeat' (first | (refine gG ?_; try intro _) | (refine g_mv rfl ?_; first | refine mv_call_bel (fun w hk => by have hc := lright_any A2 o.length c2 o w rfl (by omega) (hk.rR (φ := sl A2 2 RE o) mE); rw [tB_true hR] at hc; exact hc) rfl rfl rfl rfl rfl (by kernel_rfl) ?_ | refine mv_call_bel (fun w hk => by have hc := ltext_any A2 o.length c2 o w rfl (by omega) hR (hk.rR (φ := sl A2 2 RE o) mE); rw [htx] at hc; exact hc) rfl rfl rfl rfl rfl (by kernel_rfl) ?_) | ((first | refine g_split rfl rfl tE (fun _ => ?_) (fun _ => ?_) | refine gk_cond rfl rfl tE (fun _ => ?_) (fun _ => ?_)) <;> (try first | (exfalso; omega; done) | (rename_i hx; exact absurd rfl hx) | (rename_i hx; cases hx; done)))))
      (repeat' (first | (refine gG ?_; try intro _) | (refine g_mv rfl ?_; first | refine mv_call_bel (fun w hk => alive_any w) rfl rfl rfl rfl rfl (by kernel_rfl) ?_) | ((first | refine g_split rfl rfl tE (fun _ => ?_) (fun _ => ?_) | refine gk_cond rfl rfl tE (fun _ => ?_) (fun _ => ?_)) <;> (try first | (exfalso; omega; done) | (rename_i hx; exact absurd rfl hx) | (rename_i hx; cases hx; done)))))
      refine gk_ret hT rfl rfl (.tmp rfl .nil) (fun w' hk => ?_)
      exact ⟨rfl, hk.toBelow⟩
end Go.Proofs.Ytmehbhabheokbaa.Ex

