/- Law 25: alive, AllocWaits. -/
import Derived.Test.YtdkgmgfadpnhbaaAl5
namespace Go.Proofs.Ytdkgmgfadpnhbaa.Al
open Go.RowKit Mem Gx Gm KyU Dd Rf Hp
set_option linter.unusedVariables false
set_option linter.unusedSimpArgs false
set_option maxRecDepth 100000
set_option maxHeartbeats 2000000
theorem iota_at {n i : Nat} (h : i < n) : (iota n).drop i = ((i : Int) + 1) :: (iota n).drop (i + 1) := by
  have hl : i < (iota n).length := by rw [iota_len]; exact h
  rw [List.drop_eq_getElem_cons hl]
  congr 1
  simp [iota]
/-- Some are taken, the others are free. -/
def wS (n i : Nat) : AlS := ⟨(iota n).drop i, iota i, [], []⟩
theorem take_w {n i : Nat} (h : i < n) : takeA (wS n i) = (wS n (i + 1), (i : Int) + 1, 0) := by
  unfold takeA wS
  dsimp only
  rw [iota_at h, iota_succ]
theorem take_S {s : AlS} {x : Int} {S' : List Int} (h : s.S = x :: S') : takeA s = (⟨S', s.l ++ [x], s.U, s.L⟩, x, 0) := by
  unfold takeA
  rw [h]
theorem take_0 {s : AlS} (h : s.S = []) : takeA s = (s, 0, 30) := by
  unfold takeA
  rw [h]
/-- What stays as blocks are dropped: those that are free; those that are held are sure, and held once. -/
structure Wt (S U : List Int) (t : Nat) (s : AlS) : Prop where
  eS : s.S = S
  eU : s.U = U
  sub : ∀ b, b ∈ s.l → b ∈ U
  one : ∀ b, s.l.count b ≤ 1
  len : s.l.length ≤ t
theorem Wt.drop {S U : List Int} {t : Nat} {s : AlS} (h : Wt S U t s) (b : Int) : Wt S U t (dropA s b).1 := by
  unfold dropA
  by_cases h0 : s.l.count b = 0
  · rw [if_pos h0]; exact h
  rw [if_neg h0]
  have h1 := h.one b
  rw [if_neg (by omega)]
  have hb : b ∈ s.l := List.count_pos_iff.1 (by omega)
  rw [if_pos (by rw [h.eU]; exact h.sub b hb)]
  exact ⟨h.eS, h.eU, fun x hx => h.sub x (List.mem_of_mem_erase hx), fun x => Nat.le_trans (by first | exact List.Sublist.count_le x List.erase_sublist | exact List.erase_sublist.count_le x | exact List.Sublist.count_le List.erase_sublist x) (h.one x), Nat.le_trans (List.length_erase_le) h.len⟩
theorem aalive_any (w : World) : Calls Try.prog 61 #[] w fun e w' => e = .returned (.bool true) ∧ Below w.heap.size w w' := by
  refine g_enter0 T [] [] [] Try.func61 rfl Try.ntmps61 rfl (Kn.start _) ?_
  (repeat (refine gG ?_; try intro _))
  refine g_mv rfl ?_; refine mv_call_rt (fun w hk => anew_any 4 w (by decide)) rfl rfl rfl rfl rfl (by kernel_rfl) (fun _ => rfl) (fun q hq => ?_)
  obtain ⟨a, D0⟩ := q
  dsimp only at hq ⊢
  have t1 : takeA ⟨iota 4, [], [], []⟩ = (⟨[2, 3, 4], [1], [], []⟩, 1, 0) := rfl
  have t2 : takeA ⟨[2, 3, 4], [1], [], []⟩ = (⟨[3, 4], [1, 2], [], []⟩, 2, 0) := rfl
  have t3 : dropA ⟨[3, 4], [1, 2], [], []⟩ 1 = (⟨[1, 3, 4], [2], [], []⟩, 0) := rfl
  have t4 : takeA ⟨[1, 3, 4], [2], [], []⟩ = (⟨[3, 4], [2, 1], [], []⟩, 1, 0) := rfl
  (repeat' (first | (refine gG ?_; try intro _) | ((first | refine g_split rfl rfl tE (fun _ => ?_) (fun _ => ?_) | refine gk_cond rfl rfl tE (fun _ => ?_) (fun _ => ?_)) <;> (try first | (exfalso; omega; done) | (rename_i hx; exact absurd rfl hx) | (rename_i hx; cases hx; done)))))
  refine g_mv rfl (mv_call_mod (φ := alF a 4 D0 ⟨iota 4, [], [], []⟩) (ψ := fun r : AlD × AlS × Int × Int => alF a 4 r.1 r.2.1) (fun w1 hk => by exact atake_any a 4 D0 ⟨iota 4, [], [], []⟩ w1 (by decide) hq (hk.rO (φ := alF a 4 D0 ⟨iota 4, [], [], []⟩) mE)) rfl rfl rfl rfl rfl (by kernel_rfl) (by intro _; first | ((repeat (first | with_reducible exact Upd.here _ | with_reducible apply Upd.there)); done) | ((repeat (first | exact Upd.here _ | apply Upd.there)); done) | fail) (fun r hr => ?_))
  obtain ⟨D1, r1⟩ := r
  obtain ⟨h1, e1⟩ := hr
  obtain rfl : r1 = _ := e1.trans t1
  dsimp only at h1 ⊢
  (repeat (refine gG ?_; try intro _))
  refine g_mv rfl (mv_call_mod (φ := alF a 4 D1 ⟨[2, 3, 4], [1], [], []⟩) (ψ := fun r : AlD × AlS × Int × Int => alF a 4 r.1 r.2.1) (fun w1 hk => by exact atake_any a 4 D1 ⟨[2, 3, 4], [1], [], []⟩ w1 (by decide) h1 (hk.rO (φ := alF a 4 D1 ⟨[2, 3, 4], [1], [], []⟩) mE)) rfl rfl rfl rfl rfl (by kernel_rfl) (by intro _; first | ((repeat (first | with_reducible exact Upd.here _ | with_reducible apply Upd.there)); done) | ((repeat (first | exact Upd.here _ | apply Upd.there)); done) | fail) (fun r hr => ?_))
  obtain ⟨D2, r2⟩ := r
  obtain ⟨h2, e2⟩ := hr
  obtain rfl : r2 = _ := e2.trans t2
  dsimp only at h2 ⊢
  (repeat (refine gG ?_; try intro _))
  refine g_mv rfl (mv_call_mod (φ := alF a 4 D2 ⟨[3, 4], [1, 2], [], []⟩) (ψ := fun r : AlD × AlS × Int => alF a 4 r.1 r.2.1) (fun w1 hk => by exact adrop_any a 4 D2 ⟨[3, 4], [1, 2], [], []⟩ 1 w1 (by decide) h2 (hk.rO (φ := alF a 4 D2 ⟨[3, 4], [1, 2], [], []⟩) mE)) rfl rfl rfl rfl rfl (by kernel_rfl) (by intro _; first | ((repeat (first | with_reducible exact Upd.here _ | with_reducible apply Upd.there)); done) | ((repeat (first | exact Upd.here _ | apply Upd.there)); done) | fail) (fun r hr => ?_))
  obtain ⟨D3, r3⟩ := r
  obtain ⟨h3, e3⟩ := hr
  obtain rfl : r3 = _ := e3.trans t3
  dsimp only at h3 ⊢
  (repeat (refine gG ?_; try intro _))
  refine g_mv rfl (mv_call_mod (φ := alF a 4 D3 ⟨[1, 3, 4], [2], [], []⟩) (ψ := fun r : AlD × AlS × Int × Int => alF a 4 r.1 r.2.1) (fun w1 hk => by exact atake_any a 4 D3 ⟨[1, 3, 4], [2], [], []⟩ w1 (by decide) h3 (hk.rO (φ := alF a 4 D3 ⟨[1, 3, 4], [2], [], []⟩) mE)) rfl rfl rfl rfl rfl (by kernel_rfl) (by intro _; first | ((repeat (first | with_reducible exact Upd.here _ | with_reducible apply Upd.there)); done) | ((repeat (first | exact Upd.here _ | apply Upd.there)); done) | fail) (fun r hr => ?_))
  obtain ⟨D4, r4⟩ := r
  obtain ⟨h4, e4⟩ := hr
  obtain rfl : r4 = _ := e4.trans t4
  dsimp only at h4 ⊢
  (repeat' (first | (refine gG ?_; try intro _) | ((first | refine g_split rfl rfl tE (fun _ => ?_) (fun _ => ?_) | refine gk_cond rfl rfl tE (fun _ => ?_) (fun _ => ?_)) <;> (try first | (exfalso; omega; done) | (rename_i hx; exact absurd rfl hx) | (rename_i hx; cases hx; done)))))
  refine gk_ret hT rfl rfl (.tmp rfl .nil) (fun w' hk => ?_)
  exact ⟨by first | rfl | (simp [tB_eq]; rfl), hk.toBelow⟩
theorem allocWaits_any (n t : Int) (A : Option Addr) (m c : Nat) (L : List Int) (w : World) (hm : m = L.length) (hs : Rd1 w (sl A 1 (IE .u32) L)) :
    Calls Try.prog 8 [.int .i64 n, .int .i64 t, .slice A m c].toArray w fun e w' => e = .returned (.bool true) ∧ Below w.heap.size w w' := by
  refine g_enter0 T [] [] [sl A 1 (IE .u32) L] Try.func8 rfl Try.ntmps8 rfl (Rds.cons hs .nil).kn ?_
  by_cases hbad : n < 0 ∨ 40 < n ∨ t < 0 ∨ n < t ∨ 60 < m
  · (repeat' (first | (refine gG ?_; try intro _) | ((first | refine g_split rfl rfl tE (fun _ => ?_) (fun _ => ?_) | refine gk_cond rfl rfl tE (fun _ => ?_) (fun _ => ?_)) <;> (try first | (exfalso; omega; done) | (rename_i hx; exact absurd rfl hx) | (rename_i hx; cases hx; done)))))
    all_goals
      refine gk_ret hT rfl rfl (.tmp rfl .nil) (fun w' hk => ?_)
      exact ⟨rfl, hk.toBelow⟩
  obtain ⟨N, rfl⟩ : ∃ N : Nat, n = (N : Int) := ⟨n.toNat, by omega⟩
  obtain ⟨K, rfl⟩ : ∃ K : Nat, t = (K : Int) := ⟨t.toNat, by omega⟩
  (repeat' (first | (refine gG ?_; try intro _) | ((first | refine g_split rfl rfl tE (fun _ => ?_) (fun _ => ?_) | refine gk_cond rfl rfl tE (fun _ => ?_) (fun _ => ?_)) <;> (try first | (exfalso; omega; done) | (rename_i hx; exact absurd rfl hx) | (rename_i hx; cases hx; done)))))
  refine g_mv rfl ?_; refine mv_call_rt (fun w hk => anew_any N w (by omega)) rfl rfl rfl rfl rfl (by kernel_rfl) (fun _ => rfl) (fun q hq => ?_)
  obtain ⟨a, D0⟩ := q
  dsimp only at hq ⊢
  (repeat' (first | (refine gG ?_; try intro _) | ((first | refine g_split rfl rfl tE (fun _ => ?_) (fun _ => ?_) | refine gk_cond rfl rfl tE (fun _ => ?_) (fun _ => ?_)) <;> (try first | (exfalso; omega; done) | (rename_i hx; exact absurd rfl hx) | (rename_i hx; cases hx; done)))))
  refine gk_loop_sel (fun (q : Nat × AlD) => match q with | (i, D) => (i ≤ K ∧ AlI N D (wS N i))) (fun (q : Nat × AlD) => match q with | (i, D) => [(0, .int .i64 (N : Int)), (1, .int .i64 (K : Int)), (2, .slice A m c), (7, .pointer (some ⟨a, 0, none⟩)), (9, .int .i64 (i : Int))]) (fun (q : Nat × AlD) => match q with | (i, D) => [alF a N D (wS N i)]) (fun (q : Nat × AlD) => match q with | (i, D) => [sl A 1 (IE .u32) L]) (fun (q : Nat × AlD) => match q with | (i, D) => K - i) (0, D0) rfl ⟨Nat.zero_le _, hq⟩ (by repeat (first | exact trivial | refine ⟨rfl, ?_⟩)) sA sS ?_
  rintro ⟨i, D⟩ hI
  replace hI : (i ≤ K ∧ AlI N D (wS N i)) := hI
  change GK _ _ [(0, .int .i64 (N : Int)), (1, .int .i64 (K : Int)), (2, .slice A m c), (7, .pointer (some ⟨a, 0, none⟩)), (9, .int .i64 (i : Int))] [alF a N D (wS N i)] [sl A 1 (IE .u32) L]
  obtain ⟨hi, hA⟩ := hI
  by_cases hlt : i < K
  · have htk := take_w (n := N) (i := i) (by omega)
    (repeat' (first | (refine gG ?_; try intro _) | ((first | refine g_split rfl rfl tE (fun _ => ?_) (fun _ => ?_) | refine gk_cond rfl rfl tE (fun _ => ?_) (fun _ => ?_)) <;> (try first | (exfalso; omega; done) | (rename_i hx; exact absurd rfl hx) | (rename_i hx; cases hx; done)))))
    refine g_mv rfl (mv_call_mod (φ := alF a N D (wS N i)) (ψ := fun r : AlD × AlS × Int × Int => alF a N r.1 r.2.1) (fun w1 hk => by exact atake_any a N D (wS N i) w1 (by show (iota i).length < 1000; rw [iota_len]; omega) hA (hk.rO (φ := alF a N D (wS N i)) mE)) rfl rfl rfl rfl rfl (by kernel_rfl) (by intro _; first | ((repeat (first | with_reducible exact Upd.here _ | with_reducible apply Upd.there)); done) | ((repeat (first | exact Upd.here _ | apply Upd.there)); done) | fail) (fun r hr => ?_))
    obtain ⟨D1, r1⟩ := r
    obtain ⟨h1, e1⟩ := hr
    obtain rfl : r1 = _ := e1.trans htk
    dsimp only at h1 ⊢
    (repeat (refine gG ?_; try intro _))
    refine gk_say 9 (.int .i64 ((i + 1 : Nat) : Int)) rfl (by first | (congr 1; done) | (congr 1; omega)) ?_
    refine gk_again_sel rfl (i + 1, D1) ⟨hlt, h1⟩ (by dsimp only; omega) (by repeat (first | exact trivial | refine ⟨rfl, ?_⟩)) sA sS
  obtain rfl : i = K := by omega
  (repeat' (first | (refine gG ?_; try intro _) | ((first | refine g_split rfl rfl tE (fun _ => ?_) (fun _ => ?_) | refine gk_cond rfl rfl tE (fun _ => ?_) (fun _ => ?_)) <;> (try first | (exfalso; omega; done) | (rename_i hx; exact absurd rfl hx) | (rename_i hx; cases hx; done)))))
  refine g_mv rfl (mv_call_mod (φ := alF a N D (wS N i)) (ψ := fun r : AlD => alF a N r (commitA (wS N i))) (fun w1 hk => by exact acommit_any a N D (wS N i) w1 (by omega) hA (hk.rO (φ := alF a N D (wS N i)) mE)) rfl rfl rfl rfl rfl (by kernel_rfl) (by intro _; first | ((repeat (first | with_reducible exact Upd.here _ | with_reducible apply Upd.there)); done) | ((repeat (first | exact Upd.here _ | apply Upd.there)); done) | fail) (fun D2 h2 => ?_))
  (repeat (refine gG ?_; try intro _))
  have hW0 : Wt ((iota N).drop i) (setP (iota i)) i (commitA (wS N i)) := ⟨rfl, rfl, fun b hb => mem_setP.2 hb, fun b => List.nodup_iff_count.1 ((iota_sorted i).imp fun h => by omega) b, by show (iota i).length ≤ i; rw [iota_len]; exact Nat.le_refl _⟩
  refine gk_loop_sel (fun (q : Nat × AlD × AlS) => match q with | (j, D, s) => (j ≤ m ∧ AlI N D s ∧ Wt ((iota N).drop i) (setP (iota i)) i s)) (fun (q : Nat × AlD × AlS) => match q with | (j, D, s) => [(0, .int .i64 (N : Int)), (1, .int .i64 (i : Int)), (2, .slice A m c), (7, .pointer (some ⟨a, 0, none⟩)), (10, .int .i64 (j : Int))]) (fun (q : Nat × AlD × AlS) => match q with | (j, D, s) => [alF a N D s]) (fun (q : Nat × AlD × AlS) => match q with | (j, D, s) => [sl A 1 (IE .u32) L]) (fun (q : Nat × AlD × AlS) => match q with | (j, D, s) => m - j) (0, D2, commitA (wS N i)) rfl ⟨Nat.zero_le _, h2, hW0⟩ (by repeat (first | exact trivial | refine ⟨rfl, ?_⟩)) sA sS ?_
  rintro ⟨j, D, s⟩ hI
  replace hI : (j ≤ m ∧ AlI N D s ∧ Wt ((iota N).drop i) (setP (iota i)) i s) := hI
  change GK _ _ [(0, .int .i64 (N : Int)), (1, .int .i64 (i : Int)), (2, .slice A m c), (7, .pointer (some ⟨a, 0, none⟩)), (10, .int .i64 (j : Int))] [alF a N D s] [sl A 1 (IE .u32) L]
  obtain ⟨hj, hA2, hW⟩ := hI
  by_cases hlt2 : j < m
  · obtain ⟨x, hx⟩ : ∃ b, L[j]? = some b := ⟨L[j], List.getElem?_eq_getElem (by omega)⟩
    refine gk_elem (enc := IE .u32) (L := L) j mE (by omega) (by decide) (fun g o y eA hy => ?_)
    subst eA
    obtain rfl : x = y := by rw [hx] at hy; exact Option.some.inj hy
    (repeat' (first | (refine gG ?_; try intro _) | ((first | refine g_split rfl rfl tE (fun _ => ?_) (fun _ => ?_) | refine gk_cond rfl rfl tE (fun _ => ?_) (fun _ => ?_)) <;> (try first | (exfalso; omega; done) | (rename_i hx; exact absurd rfl hx) | (rename_i hx; cases hx; done)))))
    refine g_mv rfl (mv_call_mod (φ := alF a N D s) (ψ := fun r : AlD × AlS × Int => alF a N r.1 r.2.1) (fun w1 hk => by exact adrop_any a N D s x w1 (by omega) hA2 (hk.rO (φ := alF a N D s) mE)) rfl rfl rfl rfl rfl (by kernel_rfl) (by intro _; first | ((repeat (first | with_reducible exact Upd.here _ | with_reducible apply Upd.there)); done) | ((repeat (first | exact Upd.here _ | apply Upd.there)); done) | fail) (fun r hr => ?_))
    obtain ⟨D1, s1, e0⟩ := r
    obtain ⟨h1, e1⟩ := hr
    dsimp only at h1 e1 ⊢
    have hs1 : s1 = (dropA s x).1 := by rw [← e1]
    have hW1 := hW.drop x
    rw [← hs1] at hW1
    (repeat (refine gG ?_; try intro _))
    refine gk_say 10 (.int .i64 ((j + 1 : Nat) : Int)) rfl (by first | (congr 1; done) | (congr 1; omega)) ?_
    refine gk_again_sel rfl (j + 1, D1, s1) ⟨hlt2, h1, hW1⟩ (by dsimp only; omega) (by repeat (first | exact trivial | refine ⟨rfl, ?_⟩)) sA sS
  (repeat' (first | (refine gG ?_; try intro _) | ((first | refine g_split rfl rfl tE (fun _ => ?_) (fun _ => ?_) | refine gk_cond rfl rfl tE (fun _ => ?_) (fun _ => ?_)) <;> (try first | (exfalso; omega; done) | (rename_i hx; exact absurd rfl hx) | (rename_i hx; cases hx; done)))))
  refine gk_loop_sel (fun (q : Nat × AlD × AlS) => match q with | (k, D, s) => (k ≤ N - i ∧ AlI N D s ∧ s.S = (iota N).drop (i + k) ∧ s.l.length ≤ i + k)) (fun (q : Nat × AlD × AlS) => match q with | (k, D, s) => [(0, .int .i64 (N : Int)), (1, .int .i64 (i : Int)), (7, .pointer (some ⟨a, 0, none⟩)), (11, .int .i64 (k : Int))]) (fun (q : Nat × AlD × AlS) => match q with | (k, D, s) => [alF a N D s]) (fun (q : Nat × AlD × AlS) => match q with | (k, D, s) => []) (fun (q : Nat × AlD × AlS) => match q with | (k, D, s) => N - i - k) (0, D, s) rfl ⟨Nat.zero_le _, hA2, hW.eS, hW.len⟩ (by repeat (first | exact trivial | refine ⟨rfl, ?_⟩)) sA sS ?_
  rintro ⟨k, D, s⟩ hI
  replace hI : (k ≤ N - i ∧ AlI N D s ∧ s.S = (iota N).drop (i + k) ∧ s.l.length ≤ i + k) := hI
  change GK _ _ [(0, .int .i64 (N : Int)), (1, .int .i64 (i : Int)), (7, .pointer (some ⟨a, 0, none⟩)), (11, .int .i64 (k : Int))] [alF a N D s] []
  clear hA2 hW hA h2 hW0
  obtain ⟨hk, hA, hS, hl⟩ := hI
  by_cases hlt3 : k < N - i
  · have htk := take_S (hS.trans (iota_at (by omega)))
    (repeat' (first | (refine gG ?_; try intro _) | ((first | refine g_split rfl rfl tE (fun _ => ?_) (fun _ => ?_) | refine gk_cond rfl rfl tE (fun _ => ?_) (fun _ => ?_)) <;> (try first | (exfalso; omega; done) | (rename_i hx; exact absurd rfl hx) | (rename_i hx; cases hx; done)))))
    refine g_mv rfl (mv_call_mod (φ := alF a N D s) (ψ := fun r : AlD × AlS × Int × Int => alF a N r.1 r.2.1) (fun w1 hk => by exact atake_any a N D s w1 (by omega) hA (hk.rO (φ := alF a N D s) mE)) rfl rfl rfl rfl rfl (by kernel_rfl) (by intro _; first | ((repeat (first | with_reducible exact Upd.here _ | with_reducible apply Upd.there)); done) | ((repeat (first | exact Upd.here _ | apply Upd.there)); done) | fail) (fun r hr => ?_))
    obtain ⟨D1, r1⟩ := r
    obtain ⟨h1, e1⟩ := hr
    obtain rfl : r1 = _ := e1.trans htk
    dsimp only at h1 ⊢
    (repeat' (first | (refine gG ?_; try intro _) | ((first | refine g_split rfl rfl tE (fun _ => ?_) (fun _ => ?_) | refine gk_cond rfl rfl tE (fun _ => ?_) (fun _ => ?_)) <;> (try first | (exfalso; omega; done) | (rename_i hx; exact absurd rfl hx) | (rename_i hx; cases hx; done)))))
    refine gk_say 11 (.int .i64 ((k + 1 : Nat) : Int)) rfl (by first | (congr 1; done) | (congr 1; omega)) ?_
    refine gk_again_sel rfl (k + 1, D1, ⟨(iota N).drop (i + k + 1), s.l ++ [((i + k : Nat) : Int) + 1], s.U, s.L⟩) ⟨by omega, h1, rfl, by rw [List.length_append, List.length_singleton]; omega⟩ (by dsimp only; omega) (by repeat (first | exact trivial | refine ⟨rfl, ?_⟩)) sA sS
  have hS0 : s.S = [] := by rw [hS]; exact List.drop_eq_nil_of_le (by rw [iota_len]; omega)
  have htk := take_0 hS0
  (repeat' (first | (refine gG ?_; try intro _) | ((first | refine g_split rfl rfl tE (fun _ => ?_) (fun _ => ?_) | refine gk_cond rfl rfl tE (fun _ => ?_) (fun _ => ?_)) <;> (try first | (exfalso; omega; done) | (rename_i hx; exact absurd rfl hx) | (rename_i hx; cases hx; done)))))
  refine g_mv rfl (mv_call_mod (φ := alF a N D s) (ψ := fun r : AlD × AlS × Int × Int => alF a N r.1 r.2.1) (fun w1 hk => by exact atake_any a N D s w1 (by omega) hA (hk.rO (φ := alF a N D s) mE)) rfl rfl rfl rfl rfl (by kernel_rfl) (by intro _; first | ((repeat (first | with_reducible exact Upd.here _ | with_reducible apply Upd.there)); done) | ((repeat (first | exact Upd.here _ | apply Upd.there)); done) | fail) (fun r hr => ?_))
  obtain ⟨D1, r1⟩ := r
  obtain ⟨h1, e1⟩ := hr
  obtain rfl : r1 = _ := e1.trans htk
  dsimp only at h1 ⊢
  (repeat' (first | (refine gG ?_; try intro _) | (refine g_mv rfl ?_; first | refine mv_call_bel (fun w hk => alate_any a N D1 s w (hk.rO (φ := alF a N D1 s) mE)) rfl rfl rfl rfl rfl (by kernel_rfl) ?_) | ((first | refine g_split rfl rfl tE (fun _ => ?_) (fun _ => ?_) | refine gk_cond rfl rfl tE (fun _ => ?_) (fun _ => ?_)) <;> (try first | (exfalso; omega; done) | (rename_i hx; exact absurd rfl hx) | (rename_i hx; cases hx; done)))))
  refine g_mv rfl (mv_call_mod (φ := alF a N D1 s) (ψ := fun r : AlD => alF a N r (commitA s)) (fun w1 hk => by exact acommit_any a N D1 s w1 (by omega) h1 (hk.rO (φ := alF a N D1 s) mE)) rfl rfl rfl rfl rfl (by kernel_rfl) (by intro _; first | ((repeat (first | with_reducible exact Upd.here _ | with_reducible apply Upd.there)); done) | ((repeat (first | exact Upd.here _ | apply Upd.there)); done) | fail) (fun D2 h2 => ?_))
  have hlen : (commitA s).S.length = s.L.length := by show (insL s.L s.S).length = _; rw [insL_len, hS0]; exact Nat.zero_add _
  have hlen0 : (commitA s).L.length = 0 := rfl
  (repeat' (first | (refine gG ?_; try intro _) | (refine g_mv rfl ?_; first | refine mv_call_bel (fun w hk => afree_any a N D2 (commitA s) w h2 (hk.rO (φ := alF a N D2 (commitA s)) mE)) rfl rfl rfl rfl rfl (by kernel_rfl) ?_ | refine mv_call_bel (fun w hk => alate_any a N D2 (commitA s) w (hk.rO (φ := alF a N D2 (commitA s)) mE)) rfl rfl rfl rfl rfl (by kernel_rfl) ?_ | refine mv_call_bel (fun w hk => asound_any a N D2 (commitA s) w (by omega) h2 (hk.rO (φ := alF a N D2 (commitA s)) mE)) rfl rfl rfl rfl rfl (by kernel_rfl) ?_ | refine mv_call_bel (fun w hk => aalive_any w) rfl rfl rfl rfl rfl (by kernel_rfl) ?_) | ((first | refine g_split rfl rfl tE (fun _ => ?_) (fun _ => ?_) | refine gk_cond rfl rfl tE (fun _ => ?_) (fun _ => ?_)) <;> (try first | (exfalso; omega; done) | (rename_i hx; exact absurd rfl hx) | (rename_i hx; cases hx; done)))))
  refine gk_ret hT rfl rfl (.tmp rfl .nil) (fun w' hk => ?_)
  exact ⟨rfl, hk.toBelow⟩
end Go.Proofs.Ytdkgmgfadpnhbaa.Al

