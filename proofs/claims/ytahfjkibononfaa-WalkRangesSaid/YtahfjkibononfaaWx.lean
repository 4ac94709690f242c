/- The law WalkRanges. -/
import Derived.Test.YtahfjkibononfaaWm
import Derived.Test.YtahfjkibononfaaWe
namespace Go.Proofs.Ytahfjkibononfaa.Wk
open Go.RowKit Mem Nd Gx Sk Tw
open Tr hiding T row
set_option linter.unusedVariables false
set_option linter.unusedSimpArgs false
set_option maxRecDepth 100000
set_option maxHeartbeats 1000000
theorem win_all {M : List EntD} (h : ∀ e ∈ M, e.k.Bd) : win ⟨0, 0, 0⟩ maxK M = M := by
  unfold win
  rw [List.filter_eq_self]
  intro e he
  have h1 := (h e he).v; have h2 := (h e he).b; have h3 := (h e he).s
  unfold inW maxK
  rw [tB_false (klt_zero (h e he)), tB_false (by unfold klt; dsimp only; omega)]
  rfl
theorem win_win {x y : Int} {M : List EntD} {m1 m2 : Int} (h : ∀ e ∈ M, e.k.Bd) (h1 : 0 ≤ y ∧ y < 4294967296) (e1 : m1 = 4294967295) (e2 : m2 = 18446744073709551615) : win ⟨x, y, 0⟩ ⟨x, y, m2⟩ (win ⟨x, 0, 0⟩ ⟨x, m1, m2⟩ M) = win ⟨x, y, 0⟩ ⟨x, y, m2⟩ M := by
  unfold win
  rw [List.filter_filter]
  refine List.filter_congr fun e he => ?_
  have a1 := (h e he).v; have a2 := (h e he).b; have a3 := (h e he).s
  unfold inW
  by_cases c1 : klt e.k ⟨x, y, 0⟩
  · rw [tB_true c1]; simp
  · by_cases c2 : klt ⟨x, y, m2⟩ e.k
    · rw [tB_true c2]; simp
    · rw [tB_false c1, tB_false c2, tB_false (show ¬ klt e.k ⟨x, 0, 0⟩ by unfold klt at *; dsimp only at *; omega), tB_false (show ¬ klt ⟨x, m1, m2⟩ e.k by unfold klt at *; dsimp only at *; omega)]
      rfl
theorem walkRanges_any (A : Option Addr) (n c : Nat) (L : List OpD) (f t : KeyD) (w : World) (hs0 : (SlV.mk A n c).Ok L.length) (hL : Sl w A 5 CE L) (hbd : ∀ o ∈ L, o.e.k.Bd) (hf : f.Bd) (ht : t.Bd) :
    Calls Try.prog 5 [.slice A n c, f.val, t.val].toArray w fun e' w' => e' = .returned (.bool true) ∧ Below w.heap.size w w' := by
  have hn : n = L.length := hs0.n
  have hn9 : n ≤ 9223372036854775807 := by
    have h1 : n ≤ c := hs0.c
    have h2 : c ≤ maxLen := hs0.mx
    unfold maxLen at h2; omega
  refine g_enter0 T [] [] [sl A 5 CE L] Try.func5 rfl Try.ntmps5 rfl ((Kn.start w).argR hL (by decide) (fun _ h => by cases h)) ?_
  by_cases h150 : 150 < n
  · (repeat' (first | (refine gG ?_; try intro _) | ((first | refine g_split rfl rfl tE (fun _ => ?_) (fun _ => ?_) | refine gk_cond rfl rfl tE (fun _ => ?_) (fun _ => ?_)) <;> (try first | (exfalso; omega; done) | (rename_i hx; exact absurd rfl hx) | (rename_i hx; cases hx; done)))))
    refine gk_ret hT rfl rfl (.tmp rfl .nil) (fun w' hk => ?_)
    exact ⟨rfl, hk.toBelow⟩
  · (repeat' (first | (refine gG ?_; try intro _) | ((first | refine g_split rfl rfl tE (fun _ => ?_) (fun _ => ?_) | refine gk_cond rfl rfl tE (fun _ => ?_) (fun _ => ?_)) <;> (try first | (exfalso; omega; done) | (rename_i hx; exact absurd rfl hx) | (rename_i hx; cases hx; done)))))
    rename_i g4 g5 _
    refine g_mv rfl ?_; refine mv_call_rs (fun w hk => made_any A n c L w hn (by omega) hbd (hk.rR (φ := sl A 5 CE L) mE)) rfl rfl rfl rfl rfl (by kernel_rfl) sS (fun _ => rfl) (fun r hr hnr => ?_)
    obtain ⟨tg, a, M, ⟨sA, sn, sc⟩⟩ := r
    obtain ⟨hh, hok, hle, hMb⟩ := hr
    dsimp only at hh hok hle hMb
    have hsn : sn = M.length := hok.n
    refine g_say 18 (.tuple #[.pointer (some ⟨tg, 0, none⟩), .slice sA sn sc]) rfl rfl ?_
    (repeat (refine gG ?_; try intro _))
    obtain ⟨fv, hfv⟩ : ∃ k : KeyD, k = ⟨f.v, 0, 0⟩ := ⟨_, rfl⟩
    obtain ⟨tv, htv⟩ : ∃ k : KeyD, k = ⟨f.v, 4294967295, 18446744073709551615⟩ := ⟨_, rfl⟩
    obtain ⟨fb, hfb⟩ : ∃ k : KeyD, k = ⟨f.v, f.b, 0⟩ := ⟨_, rfl⟩
    obtain ⟨tb, htb⟩ : ∃ k : KeyD, k = ⟨f.v, f.b, 18446744073709551615⟩ := ⟨_, rfl⟩
    obtain ⟨f0, hf0⟩ : ∃ k : KeyD, k = ⟨0, 0, 0⟩ := ⟨_, rfl⟩
    obtain ⟨t0, ht0⟩ : ∃ k : KeyD, k = maxK := ⟨_, rfl⟩
    obtain ⟨ys, A1, l1, l2, l3⟩ := lv_ex f hh (by omega)
    obtain ⟨ysv, A2, v1, v2, v3⟩ := lv_ex fv hh (by omega)
    obtain ⟨ysb, A3, b1, b2, b3⟩ := lv_ex fb hh (by omega)
    obtain ⟨ys0, A4, z1, z2, z3⟩ := lv_ex f0 hh (by omega)
    have hl1 : (rows ys).length ≤ 150 := by have := congrArg List.length l2; rw [List.length_append] at this; omega
    have hv1 : (rows ysv).length ≤ 150 := by have := congrArg List.length v2; rw [List.length_append] at this; omega
    have hb1 : (rows ysb).length ≤ 150 := by have := congrArg List.length b2; rw [List.length_append] at this; omega
    have hz1 : (rows ys0).length ≤ 150 := by have := congrArg List.length z2; rw [List.length_append] at this; omega
    have el := win_lv (t := t) l2 l3
    have ev := win_lv (t := tv) v2 v3
    have eb := win_lv (t := tb) b2 b3
    have ez := win_lv (t := t0) z2 z3
    have ez2 : win f0 t0 M = M := by rw [hf0, ht0]; exact win_all hMb
    rw [ez2] at ez
    have ew : win fb tb (win fv tv M) = win fb tb M := by rw [hfb, htb, hfv, htv]; exact win_win hMb hf.b rfl rfl
    have wl := win_le f t M
    have wv := win_le fv tv M
    have wb := win_le fb tb M
    refine g_mv rfl ?_; refine mv_call_rt (fun w hk => within_any sA sn sc M f t w hsn (by omega) hf ht hMb (hk.rR mE)) rfl rfl rfl rfl rfl (by kernel_rfl) (fun _ => rfl) (fun v1 _ => ?_)
    refine g_freeze _ (by intro _; first | ((repeat (first | with_reducible exact Upd.here _ | with_reducible apply Upd.there)); done) | ((repeat (first | exact Upd.here _ | apply Upd.there)); done) | fail) (fun wA wc hw1 hwc _ _ => ?_)
    subst hw1
    refine g_share (by repeat (first | with_reducible exact Sel.here | with_reducible apply Sel.there)) ?_
    (repeat (refine gG ?_; try intro _))
    refine g_mv rfl ?_; refine mv_call_rt (fun w hk => within_any sA sn sc M ⟨f.v, 0, 0⟩ ⟨f.v, 4294967295, 18446744073709551615⟩ w hsn (by omega) ⟨hf.v, by dsimp only; omega, by dsimp only; omega⟩ ⟨hf.v, by dsimp only; omega, by dsimp only; omega⟩ hMb (hk.rR mE)) rfl rfl rfl rfl rfl (by kernel_rfl) (fun _ => rfl) (fun v2 _ => ?_)
    rw [← hfv, ← htv]
    refine g_freeze _ (by intro _; first | ((repeat (first | with_reducible exact Upd.here _ | with_reducible apply Upd.there)); done) | ((repeat (first | exact Upd.here _ | apply Upd.there)); done) | fail) (fun vA vc hw2 _ _ _ => ?_)
    subst hw2
    refine g_share (by repeat (first | with_reducible exact Sel.here | with_reducible apply Sel.there)) ?_
    (repeat (refine gG ?_; try intro _))
    refine g_mv rfl ?_; refine mv_call_rt (fun w hk => within_any vA (win fv tv M).length vc (win fv tv M) ⟨f.v, f.b, 0⟩ ⟨f.v, f.b, 18446744073709551615⟩ w rfl (by omega) ⟨hf.v, hf.b, by dsimp only; omega⟩ ⟨hf.v, hf.b, by dsimp only; omega⟩ (fun e he => hMb e (List.mem_filter.1 (show e ∈ M.filter (inW fv tv) from he)).1) (hk.rR mE)) rfl rfl rfl rfl rfl (by kernel_rfl) (fun _ => rfl) (fun v3 _ => ?_)
    rw [← hfb, ← htb, ew]
    refine g_freeze _ (by intro _; first | ((repeat (first | with_reducible exact Upd.here _ | with_reducible apply Upd.there)); done) | ((repeat (first | exact Upd.here _ | apply Upd.there)); done) | fail) (fun bA bc hw3 _ _ _ => ?_)
    subst hw3
    refine g_share (by repeat (first | with_reducible exact Sel.here | with_reducible apply Sel.there)) ?_
    (repeat (refine gG ?_; try intro _))
    have hn3 : min (win f t M).length 3 = ((win f t M).take 3).length := by rw [List.length_take]; omega
    refine g_yd rfl rfl (Ys.yd (ys_min ((min (win f t M).length 3 : Nat) : Int) rfl rfl rfl (by split <;> omega))) ?_
    refine g_yd rfl rfl (Ys.yd (ys_slice_h hT (min (win f t M).length 3) rfl rfl rfl rfl rfl (by omega))) ?_
    rw [shA_0]
    refine g_takeS 3 wc (show sl wA 4 EE (win f t M) ∈ _ from mE) hwc ?_
    rw [shA_0]
    obtain ⟨n3, hn3'⟩ : ∃ k, k = min (win f t M).length 3 := ⟨_, rfl⟩
    rw [← hn3'] at hn3 ⊢
    have hn3n : ((win f t M).take 3).length ≤ 3 := List.length_take_le ..
    (repeat (refine gG ?_; try intro _))
    refine g_mv rfl ?_; refine mv_call_rt (fun w hk => first_any a f t 1000 tg (M.length : Int) ys w l1 (upTo_lv hh l2) (by omega) (hk.rR mE) (hk.rR mE)) rfl rfl rfl rfl rfl (by kernel_rfl) (fun _ => rfl) (fun u1 _ => ?_)
    rw [el, List.take_of_length_le (show (win f t M).length ≤ 1000 by omega)]
    refine g_freeze _ (by intro _; first | ((repeat (first | with_reducible exact Upd.here _ | with_reducible apply Upd.there)); done) | ((repeat (first | exact Upd.here _ | apply Upd.there)); done) | fail) (fun uA uc huA _ _ _ => ?_)
    subst huA
    (repeat (refine gG ?_; try intro _))
    refine g_mv rfl ?_; refine mv_call_bel (fun w hk => equal_E uA wA (win f t M).length uc (win f t M).length wc (win f t M) (win f t M) w rfl rfl (by omega) (hk.pO (sl uA 4 EE (win f t M)) mE) (hk.pR (sl wA 4 EE (win f t M)) mE)) rfl rfl rfl rfl rfl (by kernel_rfl) ?_
    rw [tB_true (show (win f t M) = (win f t M) from rfl)]
    (repeat (refine gG ?_; try intro _))
    refine g_mv rfl ?_; refine mv_call_rt (fun w hk => first_any a f t 3 tg (M.length : Int) ys w l1 (upTo_lv hh l2) (by omega) (hk.rR mE) (hk.rR mE)) rfl rfl rfl rfl rfl (by kernel_rfl) (fun _ => rfl) (fun u2 _ => ?_)
    rw [el]
    refine g_freeze _ (by intro _; first | ((repeat (first | with_reducible exact Upd.here _ | with_reducible apply Upd.there)); done) | ((repeat (first | exact Upd.here _ | apply Upd.there)); done) | fail) (fun uB ud huB _ _ _ => ?_)
    subst huB
    (repeat (refine gG ?_; try intro _))
    refine g_mv rfl ?_; refine mv_call_bel (fun w hk => equal_E uB wA ((win f t M).take 3).length ud n3 wc ((win f t M).take 3) ((win f t M).take 3) w rfl hn3 (by omega) (hk.pO (sl uB 4 EE ((win f t M).take 3)) mE) (hk.pR (sl wA 4 EE ((win f t M).take 3)) mE)) rfl rfl rfl rfl rfl (by kernel_rfl) ?_
    rw [tB_true (show ((win f t M).take 3) = ((win f t M).take 3) from rfl)]
    (repeat (refine gG ?_; try intro _))
    refine g_mv rfl ?_; refine mv_call_bel (fun w hk => count_any a f t tg (M.length : Int) ys w l1 (upTo_lv hh l2) (by omega) (hk.rR mE) (hk.rR mE)) rfl rfl rfl rfl rfl (by kernel_rfl) ?_
    rw [el]
    (repeat (refine gG ?_; try intro _))
    rw [tB_true (show ((win f t M).length : Int) = (win f t M).length from rfl)]
    (repeat (refine gG ?_; try intro _))
    refine g_mv rfl ?_; refine mv_call_rt (fun w hk => all_any a tg (M.length : Int) f0 t0 ys0 w hf0 ht0 z1 (upTo_lv hh z2) (by omega) (hk.rR mE) (hk.rR mE)) rfl rfl rfl rfl rfl (by kernel_rfl) (fun _ => rfl) (fun vaA _ => ?_)
    rw [ez]
    refine g_freeze _ (by intro _; first | ((repeat (first | with_reducible exact Upd.here _ | with_reducible apply Upd.there)); done) | ((repeat (first | exact Upd.here _ | apply Upd.there)); done) | fail) (fun aA ac haA _ _ _ => ?_)
    subst haA
    (repeat (refine gG ?_; try intro _))
    refine g_mv rfl ?_; refine mv_call_bel (fun w hk => equal_E aA sA (M).length ac sn sc (M) (M) w rfl hsn (by omega) (hk.pO (sl aA 4 EE (M)) mE) (hk.pR (sl sA 4 EE (M)) mE)) rfl rfl rfl rfl rfl (by kernel_rfl) ?_
    rw [tB_true (show (M) = (M) from rfl)]
    (repeat (refine gG ?_; try intro _))
    refine g_mv rfl ?_; refine mv_call_rt (fun w hk => volume_any a tg (M.length : Int) f.v fv tv ysv w hfv htv v1 (upTo_lv hh v2) (by omega) (hk.rR mE) (hk.rR mE)) rfl rfl rfl rfl rfl (by kernel_rfl) (fun _ => rfl) (fun vxA _ => ?_)
    rw [ev]
    refine g_freeze _ (by intro _; first | ((repeat (first | with_reducible exact Upd.here _ | with_reducible apply Upd.there)); done) | ((repeat (first | exact Upd.here _ | apply Upd.there)); done) | fail) (fun xA xc hxA _ _ _ => ?_)
    subst hxA
    (repeat (refine gG ?_; try intro _))
    refine g_mv rfl ?_; refine mv_call_bel (fun w hk => equal_E xA vA (win fv tv M).length xc (win fv tv M).length vc (win fv tv M) (win fv tv M) w rfl rfl (by omega) (hk.pO (sl xA 4 EE (win fv tv M)) mE) (hk.pR (sl vA 4 EE (win fv tv M)) mE)) rfl rfl rfl rfl rfl (by kernel_rfl) ?_
    rw [tB_true (show (win fv tv M) = (win fv tv M) from rfl)]
    (repeat (refine gG ?_; try intro _))
    refine g_mv rfl ?_; refine mv_call_rt (fun w hk => block_any a tg (M.length : Int) f.v f.b fb tb ysb w hfb htb b1 (upTo_lv hh b2) (by omega) (hk.rR mE) (hk.rR mE)) rfl rfl rfl rfl rfl (by kernel_rfl) (fun _ => rfl) (fun vyA _ => ?_)
    rw [eb]
    refine g_freeze _ (by intro _; first | ((repeat (first | with_reducible exact Upd.here _ | with_reducible apply Upd.there)); done) | ((repeat (first | exact Upd.here _ | apply Upd.there)); done) | fail) (fun yA yc hyA _ _ _ => ?_)
    subst hyA
    (repeat (refine gG ?_; try intro _))
    refine g_mv rfl ?_; refine mv_call_bel (fun w hk => equal_E yA bA (win fb tb M).length yc (win fb tb M).length bc (win fb tb M) (win fb tb M) w rfl rfl (by omega) (hk.pO (sl yA 4 EE (win fb tb M)) mE) (hk.pR (sl bA 4 EE (win fb tb M)) mE)) rfl rfl rfl rfl rfl (by kernel_rfl) ?_
    rw [tB_true (show (win fb tb M) = (win fb tb M) from rfl)]
    (repeat' (first | (refine gG ?_; try intro _) | (refine g_mv rfl ?_; first | refine mv_call_bel (fun w hk => alive34_any w) rfl rfl rfl rfl rfl (by kernel_rfl) ?_) | ((first | refine g_split rfl rfl tE (fun _ => ?_) (fun _ => ?_) | refine gk_cond rfl rfl tE (fun _ => ?_) (fun _ => ?_)) <;> (try first | (exfalso; omega; done) | (rename_i hx; exact absurd rfl hx) | (rename_i hx; cases hx; done)))))
    all_goals (refine gk_ret hT rfl rfl (.tmp rfl .nil) (fun w' hk => ?_); exact ⟨ret_bool (by simp [tB_eq]), hk.toBelow⟩)
end Go.Proofs.Ytahfjkibononfaa.Wk

