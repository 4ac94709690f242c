/- Law 25: alive, AllocWaits. Alloc: Hold, Adopt, Waits. -/
import Derived.Test.YtdkgmgfadpnhbaaAlM1
namespace Go.Proofs.Ytdkgmgfadpnhbaa.Al
open Go.RowKit Mem Gx Gm KyU Dd Rf Hp
set_option linter.unusedVariables false
set_option linter.unusedSimpArgs false
set_option maxRecDepth 100000
set_option maxHeartbeats 2000000
theorem iota_at {n i : Nat} (h : i < n) : (iota n).drop i = ((i : Int) + 1) :: (iota n).drop (i + 1) := by
  have hl : i < (iota n).length := by rw [iota_len]; exact h
  rw [List.drop_eq_getElem_cons hl]
  congr 1
  simp [iota]
/-- Some are taken, the others are free. -/
def wS (n i : Nat) : AlS := ⟨(iota n).drop i, iota i, [], []⟩
theorem take_w {n i : Nat} (h : i < n) : takeA (wS n i) = (wS n (i + 1), (i : Int) + 1, 0) := by
  unfold takeA wS
  dsimp only
  rw [iota_at h, iota_succ]
theorem take_S {s : AlS} {x : Int} {S' : List Int} (h : s.S = x :: S') : takeA s = (⟨S', s.l ++ [x], s.U, s.L⟩, x, 0) := by
  unfold takeA
  rw [h]
theorem take_0 {s : AlS} (h : s.S = []) : takeA s = (s, 0, 30) := by
  unfold takeA
  rw [h]
/-- What stays as blocks are dropped: those that are free; those that are held are sure, and held once. -/
structure Wt (S U : List Int) (t : Nat) (s : AlS) : Prop where
  eS : s.S = S
  eU : s.U = U
  sub : ∀ b, b ∈ s.l → b ∈ U
  one : ∀ b, s.l.count b ≤ 1
  len : s.l.length ≤ t
theorem Wt.drop {S U : List Int} {t : Nat} {s : AlS} (h : Wt S U t s) (b : Int) : Wt S U t (dropA s b).1 := by
  unfold dropA
  by_cases h0 : s.l.count b = 0
  · rw [if_pos h0]; exact h
  rw [if_neg h0]
  have h1 := h.one b
  rw [if_neg (by omega)]
  have hb : b ∈ s.l := List.count_pos_iff.1 (by omega)
  rw [if_pos (by rw [h.eU]; exact h.sub b hb)]
  exact ⟨h.eS, h.eU, fun x hx => h.sub x (List.mem_of_mem_erase hx), fun x => Nat.le_trans (by first | exact List.Sublist.count_le x List.erase_sublist | exact List.erase_sublist.count_le x | exact List.Sublist.count_le List.erase_sublist x) (h.one x), Nat.le_trans (List.length_erase_le) h.len⟩
theorem aalive_any (w : World) : Calls Try.prog 61 #[] w fun e w' => e = .returned (.bool true) ∧ Below w.heap.size w w' := by
  refine g_enter0 T [] [] [] Try.func61 rfl Try.ntmps61 rfl (Kn.start _) ?_
  (repeat (refine gG ?_; try intro _))
  refine g_mv rfl ?_; refine mv_call_rt (fun w hk => anew_any 4 w (by decide)) rfl rfl rfl rfl rfl (by kernel_rfl) (fun _ => rfl) (fun q hq => ?_)
  obtain ⟨a, D0⟩ := q
  dsimp only at hq ⊢
  have t1 : takeA ⟨iota 4, [], [], []⟩ = (⟨[2, 3, 4], [1], [], []⟩, 1, 0) := rfl
  have t2 : takeA ⟨[2, 3, 4], [1], [], []⟩ = (⟨[3, 4], [1, 2], [], []⟩, 2, 0) := rfl
  have t3 : dropA ⟨[3, 4], [1, 2], [], []⟩ 1 = (⟨[1, 3, 4], [2], [], []⟩, 0) := rfl
  have t4 : takeA ⟨[1, 3, 4], [2], [], []⟩ = (⟨[3, 4], [2, 1], [], []⟩, 1, 0) := rfl
  (repeat' (first | (refine gG ?_; try intro _) | ((first | refine g_split rfl rfl tE (fun _ => ?_) (fun _ => ?_) | refine gk_cond rfl rfl tE (fun _ => ?_) (fun _ => ?_)) <;> (try first | (exfalso; omega; done) | (rename_i hx; exact absurd rfl hx) | (rename_i hx; cases hx; done)))))
  refine g_mv rfl (mv_call_mod (φ := alF a 4 D0 ⟨iota 4, [], [], []⟩) (ψ := fun r : AlD × AlS × Int × Int => alF a 4 r.1 r.2.1) (fun w1 hk => by exact atake_any a 4 D0 ⟨iota 4, [], [], []⟩ w1 (by decide) hq (hk.rO (φ := alF a 4 D0 ⟨iota 4, [], [], []⟩) mE)) rfl rfl rfl rfl rfl (by kernel_rfl) (by intro _; first | ((repeat (first | with_reducible exact Upd.here _ | with_reducible apply Upd.there)); done) | ((repeat (first | exact Upd.here _ | apply Upd.there)); done) | fail) (fun r hr => ?_))
  obtain ⟨D1, r1⟩ := r
  obtain ⟨h1, e1⟩ := hr
  obtain rfl : r1 = _ := e1.trans t1
  dsimp only at h1 ⊢
  (repeat (refine gG ?_; try intro _))
  refine g_mv rfl (mv_call_mod (φ := alF a 4 D1 ⟨[2, 3, 4], [1], [], []⟩) (ψ := fun r : AlD × AlS × Int × Int => alF a 4 r.1 r.2.1) (fun w1 hk => by exact atake_any a 4 D1 ⟨[2, 3, 4], [1], [], []⟩ w1 (by decide) h1 (hk.rO (φ := alF a 4 D1 ⟨[2, 3, 4], [1], [], []⟩) mE)) rfl rfl rfl rfl rfl (by kernel_rfl) (by intro _; first | ((repeat (first | with_reducible exact Upd.here _ | with_reducible apply Upd.there)); done) | ((repeat (first | exact Upd.here _ | apply Upd.there)); done) | fail) (fun r hr => ?_))
  obtain ⟨D2, r2⟩ := r
  obtain ⟨h2, e2⟩ := hr
  obtain rfl : r2 = _ := e2.trans t2
  dsimp only at h2 ⊢
  (repeat (refine gG ?_; try intro _))
  refine g_mv rfl (mv_call_mod (φ := alF a 4 D2 ⟨[3, 4], [1, 2], [], []⟩) (ψ := fun r : AlD × AlS × Int => alF a 4 r.1 r.2.1) (fun w1 hk => by exact adrop_any a 4 D2 ⟨[3, 4], [1, 2], [], []⟩ 1 w1 (by decide) h2 (hk.rO (φ := alF a 4 D2 ⟨[3, 4], [1, 2], [], []⟩) mE)) rfl rfl rfl rfl rfl (by kernel_rfl) (by intro _; first | ((repeat (first | with_reducible exact Upd.here _ | with_reducible apply Upd.there)); done) | ((repeat (first | exact Upd.here _ | apply Upd.there)); done) | fail) (fun r hr => ?_))
  obtain ⟨D3, r3⟩ := r
  obtain ⟨h3, e3⟩ := hr
  obtain rfl : r3 = _ := e3.trans t3
  dsimp only at h3 ⊢
  (repeat (refine gG ?_; try intro _))
  refine g_mv rfl (mv_call_mod (φ := alF a 4 D3 ⟨[1, 3, 4], [2], [], []⟩) (ψ := fun r : AlD × AlS × Int × Int => alF a 4 r.1 r.2.1) (fun w1 hk => by exact atake_any a 4 D3 ⟨[1, 3, 4], [2], [], []⟩ w1 (by decide) h3 (hk.rO (φ := alF a 4 D3 ⟨[1, 3, 4], [2], [], []⟩) mE)) rfl rfl rfl rfl rfl (by kernel_rfl) (by intro _; first | ((repeat (first | with_reducible exact Upd.here _ | with_reducible apply Upd.there)); done) | ((repeat (first | exact Upd.here _ | apply Upd.there)); done) | fail) (fun r hr => ?_))
  obtain ⟨D4, r4⟩ := r
  obtain ⟨h4, e4⟩ := hr
  obtain rfl : r4 = _ := e4.trans t4
  dsimp only at h4 ⊢
  (repeat' (first | (refine gG ?_; try intro _) | ((first | refine g_split rfl rfl tE (fun _ => ?_) (fun _ => ?_) | refine gk_cond rfl rfl tE (fun _ => ?_) (fun _ => ?_)) <;> (try first | (exfalso; omega; done) | (rename_i hx; exact absurd rfl hx) | (rename_i hx; cases hx; done)))))
  refine gk_ret hT rfl rfl (.tmp rfl .nil) (fun w' hk => ?_)
  exact ⟨by first | rfl | (simp [tB_eq]; rfl), hk.toBelow⟩
theorem allocWaits_any (n t : Int) (A : Option Addr) (m c : Nat) (L : List Int) (w : World) (hm : m = L.length) (hs : Rd1 w (sl A 1 (IE .u32) L)) :
    Calls Try.prog 8 [.int .i64 n, .int .i64 t, .slice A m c].toArray w fun e w' => e = .returned (.bool true) ∧ Below w.heap.size w w' := by
  refine g_enter0 T [] [] [sl A 1 (IE .u32) L] Try.func8 rfl Try.ntmps8 rfl (Rds.cons hs .nil).kn ?_
  by_cases hbad : n < 0 ∨ 40 < n ∨ t < 0 ∨ n < t ∨ 60 < m
  · (repeat' (first | (refine gG ?_; try intro _) | ((first | refine g_split rfl rfl tE (fun _ => ?_) (fun _ => ?_) | refine gk_cond rfl rfl tE (fun _ => ?_) (fun _ => ?_)) <;> (try first | (exfalso; omega; done) | (rename_i hx; exact absurd rfl hx) | (rename_i hx; cases hx; done)))))
    all_goals
      refine gk_ret hT rfl rfl (.tmp rfl .nil) (fun w' hk => ?_)
      exact ⟨rfl, hk.toBelow⟩
  obtain ⟨N, rfl⟩ : ∃ N : Nat, n = (N : Int) := ⟨n.toNat, by omega⟩
  obtain ⟨K, rfl⟩ : ∃ K : Nat, t = (K : Int) := ⟨t.toNat, by omega⟩
  (repeat' (first | (refine gG ?_; try intro _) | ((first | refine g_split rfl rfl tE (fun _ => ?_) (fun _ => ?_) | refine gk_cond rfl rfl tE (fun _ => ?_) (fun _ => ?_)) <;> (try first | (exfalso; omega; done) | (rename_i hx; exact absurd rfl hx) | (rename_i hx; cases hx; done)))))
  refine g_mv rfl ?_; refine mv_call_rt (fun w hk => anew_any N w (by omega)) rfl rfl rfl rfl rfl (by kernel_rfl) (fun _ => rfl) (fun q hq => ?_)
  obtain ⟨a, D0⟩ := q
  dsimp only at hq ⊢
  (repeat' (first | (refine gG ?_; try intro _) | ((first | refine g_split rfl rfl tE (fun _ => ?_) (fun _ => ?_) | refine gk_cond rfl rfl tE (fun _ => ?_) (fun _ => ?_)) <;> (try first | (exfalso; omega; done) | (rename_i hx; exact absurd rfl hx) | (rename_i hx; cases hx; done)))))
  refine gk_loop_sel (fun (q : Nat × AlD) => match q with | (i, D) => (i ≤ K ∧ AlI N D (wS N i))) (fun (q : Nat × AlD) => match q with | (i, D) => [(0, .int .i64 (N : Int)), (1, .int .i64 (K : Int)), (2, .slice A m c), (7, .pointer (some ⟨a, 0, none⟩)), (9, .int .i64 (i : Int))]) (fun (q : Nat × AlD) => match q with | (i, D) => [alF a N D (wS N i)]) (fun (q : Nat × AlD) => match q with | (i, D) => [sl A 1 (IE .u32) L]) (fun (q : Nat × AlD) => match q with | (i, D) => K - i) (0, D0) rfl ⟨Nat.zero_le _, hq⟩ (by repeat (first | exact trivial | refine ⟨rfl, ?_⟩)) sA sS ?_
  rintro ⟨i, D⟩ hI
  replace hI : (i ≤ K ∧ AlI N D (wS N i)) := hI
  change GK _ _ [(0, .int .i64 (N : Int)), (1, .int .i64 (K : Int)), (2, .slice A m c), (7, .pointer (some ⟨a, 0, none⟩)), (9, .int .i64 (i : Int))] [alF a N D (wS N i)] [sl A 1 (IE .u32) L]
  obtain ⟨hi, hA⟩ := hI
  by_cases hlt : i < K
  · have htk := take_w (n := N) (i := i) (by omega)
    (repeat' (first | (refine gG ?_; try intro _) | ((first | refine g_split rfl rfl tE (fun _ => ?_) (fun _ => ?_) | refine gk_cond rfl rfl tE (fun _ => ?_) (fun _ => ?_)) <;> (try first | (exfalso; omega; done) | (rename_i hx; exact absurd rfl hx) | (rename_i hx; cases hx; done)))))
    refine g_mv rfl (mv_call_mod (φ := alF a N D (wS N i)) (ψ := fun r : AlD × AlS × Int × Int => alF a N r.1 r.2.1) (fun w1 hk => by exact atake_any a N D (wS N i) w1 (by show (iota i).length < 1000; rw [iota_len]; omega) hA (hk.rO (φ := alF a N D (wS N i)) mE)) rfl rfl rfl rfl rfl (by kernel_rfl) (by intro _; first | ((repeat (first | with_reducible exact Upd.here _ | with_reducible apply Upd.there)); done) | ((repeat (first | exact Upd.here _ | apply Upd.there)); done) | fail) (fun r hr => ?_))
    obtain ⟨D1, r1⟩ := r
    obtain ⟨h1, e1⟩ := hr
    obtain rfl : r1 = _ := e1.trans htk
    dsimp only at h1 ⊢
    (repeat (refine gG ?_; try intro _))
    refine gk_say 9 (.int .i64 ((i + 1 : Nat) : Int)) rfl (by first | (congr 1; done) | (congr 1; omega)) ?_
    refine gk_again_sel rfl (i + 1, D1) ⟨hlt, h1⟩ (by dsimp only; omega) (by repeat (first | exact trivial | refine ⟨rfl, ?_⟩)) sA sS
  obtain rfl : i = K := by omega
  (repeat' (first | (refine gG ?_; try intro _) | ((first | refine g_split rfl rfl tE (fun _ => ?_) (fun _ => ?_) | refine gk_cond rfl rfl tE (fun _ => ?_) (fun _ => ?_)) <;> (try first | (exfalso; omega; done) | (rename_i hx; exact absurd rfl hx) | (rename_i hx; cases hx; done)))))
  refine g_mv rfl (mv_call_mod (φ := alF a N D (wS N i)) (ψ := fun r : AlD => alF a N r (commitA (wS N i))) (fun w1 hk => by exact acommit_any a N D (wS N i) w1 (by omega) hA (hk.rO (φ := alF a N D (wS N i)) mE)) rfl rfl rfl rfl rfl (by kernel_rfl) (by intro _; first | ((repeat (first | with_reducible exact Upd.here _ | with_reducible apply Upd.there)); done) | ((repeat (first | exact Upd.here _ | apply Upd.there)); done) | fail) (fun D2 h2 => ?_))
  (repeat (refine gG ?_; try intro _))
  have hW0 : Wt ((iota N).drop i) (setP (iota i)) i (commitA (wS N i)) := ⟨rfl, rfl, fun b hb => mem_setP.2 hb, fun b => List.nodup_iff_count.1 ((iota_sorted i).imp fun h => by omega) b, by show (iota i).length ≤ i; rw [iota_len]; exact Nat.le_refl _⟩
  refine gk_loop_sel (fun (q : Nat × AlD × AlS) => match q with | (j, D, s) => (j ≤ m ∧ AlI N D s ∧ Wt ((iota N).drop i) (setP (iota i)) i s)) (fun (q : Nat × AlD × AlS) => match q with | (j, D, s) => [(0, .int .i64 (N : Int)), (1, .int .i64 (i : Int)), (2, .slice A m c), (7, .pointer (some ⟨a, 0, none⟩)), (10, .int .i64 (j : Int))]) (fun (q : Nat × AlD × AlS) => match q with | (j, D, s) => [alF a N D s]) (fun (q : Nat × AlD × AlS) => match q with | (j, D, s) => [sl A 1 (IE .u32) L]) (fun (q : Nat × AlD × AlS) => match q with | (j, D, s) => m - j) (0, D2, commitA (wS N i)) rfl ⟨Nat.zero_le _, h2, hW0⟩ (by repeat (first | exact trivial | refine ⟨rfl, ?_⟩)) sA sS ?_
  rintro ⟨j, D, s⟩ hI
  replace hI : (j ≤ m ∧ AlI N D s ∧ Wt ((iota N).drop i) (setP (iota i)) i s) := hI
  change GK _ _ [(0, .int .i64 (N : Int)), (1, .int .i64 (i : Int)), (2, .slice A m c), (7, .pointer (some ⟨a, 0, none⟩)), (10, .int .i64 (j : Int))] [alF a N D s] [sl A 1 (IE .u32) L]
  obtain ⟨hj, hA2, hW⟩ := hI
  by_cases hlt2 : j < m
  · obtain ⟨x, hx⟩ : ∃ b, L[j]? = some b := ⟨L[j], List.getElem?_eq_getElem (by omega)⟩
    refine gk_elem (enc := IE .u32) (L := L) j mE (by omega) (by decide) (fun g o y eA hy => ?_)
    subst eA
    obtain rfl : x = y := by rw [hx] at hy; exact Option.some.inj hy
    (repeat' (first | (refine gG ?_; try intro _) | ((first | refine g_split rfl rfl tE (fun _ => ?_) (fun _ => ?_) | refine gk_cond rfl rfl tE (fun _ => ?_) (fun _ => ?_)) <;> (try first | (exfalso; omega; done) | (rename_i hx; exact absurd rfl hx) | (rename_i hx; cases hx; done)))))
    refine g_mv rfl (mv_call_mod (φ := alF a N D s) (ψ := fun r : AlD × AlS × Int => alF a N r.1 r.2.1) (fun w1 hk => by exact adrop_any a N D s x w1 (by omega) hA2 (hk.rO (φ := alF a N D s) mE)) rfl rfl rfl rfl rfl (by kernel_rfl) (by intro _; first | ((repeat (first | with_reducible exact Upd.here _ | with_reducible apply Upd.there)); done) | ((repeat (first | exact Upd.here _ | apply Upd.there)); done) | fail) (fun r hr => ?_))
    obtain ⟨D1, s1, e0⟩ := r
    obtain ⟨h1, e1⟩ := hr
    dsimp only at h1 e1 ⊢
    have hs1 : s1 = (dropA s x).1 := by rw [← e1]
    have hW1 := hW.drop x
    rw [← hs1] at hW1
    (repeat (refine gG ?_; try intro _))
    refine gk_say 10 (.int .i64 ((j + 1 : Nat) : Int)) rfl (by first | (congr 1; done) | (congr 1; omega)) ?_
    refine gk_again_sel rfl (j + 1, D1, s1) ⟨hlt2, h1, hW1⟩ (by dsimp only; omega) (by repeat (first | exact trivial | refine ⟨rfl, ?_⟩)) sA sS
  (repeat' (first | (refine gG ?_; try intro _) | ((first | refine g_split rfl rfl tE (fun _ => ?_) (fun _ => ?_) | refine gk_cond rfl rfl tE (fun _ => ?_) (fun _ => ?_)) <;> (try first | (exfalso; omega; done) | (rename_i hx; exact absurd rfl hx) | (rename_i hx; cases hx; done)))))
  refine gk_loop_sel (fun (q : Nat × AlD × AlS) => match q with | (k, D, s) => (k ≤ N - i ∧ AlI N D s ∧ s.S = (iota N).drop (i + k) ∧ s.l.length ≤ i + k)) (fun (q : Nat × AlD × AlS) => match q with | (k, D, s) => [(0, .int .i64 (N : Int)), (1, .int .i64 (i : Int)), (7, .pointer (some ⟨a, 0, none⟩)), (11, .int .i64 (k : Int))]) (fun (q : Nat × AlD × AlS) => match q with | (k, D, s) => [alF a N D s]) (fun (q : Nat × AlD × AlS) => match q with | (k, D, s) => []) (fun (q : Nat × AlD × AlS) => match q with | (k, D, s) => N - i - k) (0, D, s) rfl ⟨Nat.zero_le _, hA2, hW.eS, hW.len⟩ (by repeat (first | exact trivial | refine ⟨rfl, ?_⟩)) sA sS ?_
  rintro ⟨k, D, s⟩ hI
  replace hI : (k ≤ N - i ∧ AlI N D s ∧ s.S = (iota N).drop (i + k) ∧ s.l.length ≤ i + k) := hI
  change GK _ _ [(0, .int .i64 (N : Int)), (1, .int .i64 (i : Int)), (7, .pointer (some ⟨a, 0, none⟩)), (11, .int .i64 (k : Int))] [alF a N D s] []
  clear hA2 hW hA h2 hW0
  obtain ⟨hk, hA, hS, hl⟩ := hI
  by_cases hlt3 : k < N - i
  · have htk := take_S (hS.trans (iota_at (by omega)))
    (repeat' (first | (refine gG ?_; try intro _) | ((first | refine g_split rfl rfl tE (fun _ => ?_) (fun _ => ?_) | refine gk_cond rfl rfl tE (fun _ => ?_) (fun _ => ?_)) <;> (try first | (exfalso; omega; done) | (rename_i hx; exact absurd rfl hx) | (rename_i hx; cases hx; done)))))
    refine g_mv rfl (mv_call_mod (φ := alF a N D s) (ψ := fun r : AlD × AlS × Int × Int => alF a N r.1 r.2.1) (fun w1 hk => by exact atake_any a N D s w1 (by omega) hA (hk.rO (φ := alF a N D s) mE)) rfl rfl rfl rfl rfl (by kernel_rfl) (by intro _; first | ((repeat (first | with_reducible exact Upd.here _ | with_reducible apply Upd.there)); done) | ((repeat (first | exact Upd.here _ | apply Upd.there)); done) | fail) (fun r hr => ?_))
    obtain ⟨D1, r1⟩ := r
    obtain ⟨h1, e1⟩ := hr
    obtain rfl : r1 = _ := e1.trans htk
    dsimp only at h1 ⊢
    (repeat' (first | (refine gG ?_; try intro _) | ((first | refine g_split rfl rfl tE (fun _ => ?_) (fun _ => ?_) | refine gk_cond rfl rfl tE (fun _ => ?_) (fun _ => ?_)) <;> (try first | (exfalso; omega; done) | (rename_i hx; exact absurd rfl hx) | (rename_i hx; cases hx; done)))))
    refine gk_say 11 (.int .i64 ((k + 1 : Nat) : Int)) rfl (by first | (congr 1; done) | (congr 1; omega)) ?_
    refine gk_again_sel rfl (k + 1, D1, ⟨(iota N).drop (i + k + 1), s.l ++ [((i + k : Nat) : Int) + 1], s.U, s.L⟩) ⟨by omega, h1, rfl, by rw [List.length_append, List.length_singleton]; omega⟩ (by dsimp only; omega) (by repeat (first | exact trivial | refine ⟨rfl, ?_⟩)) sA sS
  have hS0 : s.S = [] := by rw [hS]; exact List.drop_eq_nil_of_le (by rw [iota_len]; omega)
  have htk := take_0 hS0
  (repeat' (first | (refine gG ?_; try intro _) | ((first | refine g_split rfl rfl tE (fun _ => ?_) (fun _ => ?_) | refine gk_cond rfl rfl tE (fun _ => ?_) (fun _ => ?_)) <;> (try first | (exfalso; omega; done) | (rename_i hx; exact absurd rfl hx) | (rename_i hx; cases hx; done)))))
  refine g_mv rfl (mv_call_mod (φ := alF a N D s) (ψ := fun r : AlD × AlS × Int × Int => alF a N r.1 r.2.1) (fun w1 hk => by exact atake_any a N D s w1 (by omega) hA (hk.rO (φ := alF a N D s) mE)) rfl rfl rfl rfl rfl (by kernel_rfl) (by intro _; first | ((repeat (first | with_reducible exact Upd.here _ | with_reducible apply Upd.there)); done) | ((repeat (first | exact Upd.here _ | apply Upd.there)); done) | fail) (fun r hr => ?_))
  obtain ⟨D1, r1⟩ := r
  obtain ⟨h1, e1⟩ := hr
  obtain rfl : r1 = _ := e1.trans htk
  dsimp only at h1 ⊢
  (repeat' (first | (refine gG ?_; try intro _) | (refine g_mv rfl ?_; first | refine mv_call_bel (fun w hk => alate_any a N D1 s w (hk.rO (φ := alF a N D1 s) mE)) rfl rfl rfl rfl rfl (by kernel_rfl) ?_) | ((first | refine g_split rfl rfl tE (fun _ => ?_) (fun _ => ?_) | refine gk_cond rfl rfl tE (fun _ => ?_) (fun _ => ?_)) <;> (try first | (exfalso; omega; done) | (rename_i hx; exact absurd rfl hx) | (rename_i hx; cases hx; done)))))
  refine g_mv rfl (mv_call_mod (φ := alF a N D1 s) (ψ := fun r : AlD => alF a N r (commitA s)) (fun w1 hk => by exact acommit_any a N D1 s w1 (by omega) h1 (hk.rO (φ := alF a N D1 s) mE)) rfl rfl rfl rfl rfl (by kernel_rfl) (by intro _; first | ((repeat (first | with_reducible exact Upd.here _ | with_reducible apply Upd.there)); done) | ((repeat (first | exact Upd.here _ | apply Upd.there)); done) | fail) (fun D2 h2 => ?_))
  have hlen : (commitA s).S.length = s.L.length := by show (insL s.L s.S).length = _; rw [insL_len, hS0]; exact Nat.zero_add _
  have hlen0 : (commitA s).L.length = 0 := rfl
  (repeat' (first | (refine gG ?_; try intro _) | (refine g_mv rfl ?_; first | refine mv_call_bel (fun w hk => afree_any a N D2 (commitA s) w h2 (hk.rO (φ := alF a N D2 (commitA s)) mE)) rfl rfl rfl rfl rfl (by kernel_rfl) ?_ | refine mv_call_bel (fun w hk => alate_any a N D2 (commitA s) w (hk.rO (φ := alF a N D2 (commitA s)) mE)) rfl rfl rfl rfl rfl (by kernel_rfl) ?_ | refine mv_call_bel (fun w hk => asound_any a N D2 (commitA s) w (by omega) h2 (hk.rO (φ := alF a N D2 (commitA s)) mE)) rfl rfl rfl rfl rfl (by kernel_rfl) ?_ | refine mv_call_bel (fun w hk => aalive_any w) rfl rfl rfl rfl rfl (by kernel_rfl) ?_) | ((first | refine g_split rfl rfl tE (fun _ => ?_) (fun _ => ?_) | refine gk_cond rfl rfl tE (fun _ => ?_) (fun _ => ?_)) <;> (try first | (exfalso; omega; done) | (rename_i hx; exact absurd rfl hx) | (rename_i hx; cases hx; done)))))
  refine gk_ret hT rfl rfl (.tmp rfl .nil) (fun w' hk => ?_)
  exact ⟨rfl, hk.toBelow⟩
end Go.Proofs.Ytdkgmgfadpnhbaa.Al
namespace Go.Proofs.Ytdkgmgfadpnhbaa.Al
open Go.RowKit Mem Gx Gm KyU Dd Rf Hp
set_option linter.unusedVariables false
set_option linter.unusedSimpArgs false
set_option maxRecDepth 100000
set_option maxHeartbeats 2000000
def holdA (s : AlS) (b : Int) : AlS × Int := if s.l.count b = 0 then (s, 60) else (⟨s.S, s.l ++ [b], s.U, s.L⟩, 0)
theorem ahold_any (a n : Nat) (D : AlD) (s : AlS) (b : Int) (w : World) (hl9 : s.l.length < 1000) (hI : AlI n D s) (h : Rd1 w (alF a n D s)) :
    Calls Try.prog 112 [.pointer (some ⟨a, 0, none⟩), .int .u32 b].toArray w (RetM (alF a n D s) (fun r : AlD × AlS × Int => AlI n r.1 r.2.1 ∧ r.2 = holdA s b) (fun r => .int .i64 r.2.2) (fun r => alF a n r.1 r.2.1) w) := by
  obtain ⟨f, fs, T1, rs, M, v⟩ := D
  obtain ⟨S, l, U, L⟩ := s
  obtain ⟨hp, hf, hr, hu⟩ := hI
  dsimp only at hp hf hr hu hl9
  refine g_enter0 T (finE (alF a n ⟨f, fs, T1, rs, M, v⟩ ⟨S, l, U, L⟩) w) [tbF2 a (⟨.pointer (some ⟨f, 0, none⟩), .map (some rs), v, .int .i64 (n : Int)⟩ : XA) T1, packF (frF f fs), mpk rs (Value.int .u32) M, own 0 87 1 v (IE .u32) L] [] Try.func112 rfl Try.ntmps112 rfl (Kn.startP h (fun b hb => (finE_mem h.2 b).2 hb) (fun _ h => by cases h)) ?_
  by_cases h0 : l.count b = 0
  · have hd : holdA ⟨S, l, U, L⟩ b = (⟨S, l, U, L⟩, 60) := if_pos h0
    (repeat' (first | (refine gG ?_; try intro _) | (refine g_mv rfl ?_; first | refine mv_call_bel (fun w hk => count2_any a (⟨.pointer (some ⟨f, 0, none⟩), .map (some rs), v, .int .i64 (n : Int)⟩ : XA) T1 l b w hr (hk.rO (φ := tbF2 a (⟨.pointer (some ⟨f, 0, none⟩), .map (some rs), v, .int .i64 (n : Int)⟩ : XA) T1) mE)) rfl rfl rfl rfl rfl (by kernel_rfl) ?_) | ((first | refine g_split rfl rfl tE (fun _ => ?_) (fun _ => ?_) | refine gk_cond rfl rfl tE (fun _ => ?_) (fun _ => ?_)) <;> (try first | (exfalso; omega; done) | (rename_i hx; exact absurd rfl hx) | (rename_i hx; cases hx; done)))))
    refine gk_ret hT rfl rfl (.tmp rfl .nil) (fun w' hk => ?_)
    exact RetM.mkP (ll := fun r : AlD × AlS × Int => alL a n r.1 r.2.1) ((⟨f, fs, T1, rs, M, v⟩, ⟨S, l, U, L⟩, 60) : AlD × AlS × Int) ⟨⟨hp, hf, hr, hu⟩, hd.symm⟩ rfl hk (fun b hb => (finE_mem h.2 b).1 hb) (show SelAll [tbF2 a (⟨.pointer (some ⟨f, 0, none⟩), .map (some rs), v, .int .i64 (n : Int)⟩ : XA) T1, packF (frF f fs), mpk rs (Value.int .u32) M, own 0 87 1 v (IE .u32) L] _ from sA)
  · have hb : b ∈ l := List.count_pos_iff.1 (by omega)
    have hb1 := hp.pos (b := b) (.inr (.inl hb))
    have hd : holdA ⟨S, l, U, L⟩ b = (⟨S, l ++ [b], U, L⟩, 0) := if_neg h0
    (repeat' (first | (refine gG ?_; try intro _) | (refine g_mv rfl ?_; first | refine mv_call_bel (fun w hk => count2_any a (⟨.pointer (some ⟨f, 0, none⟩), .map (some rs), v, .int .i64 (n : Int)⟩ : XA) T1 l b w hr (hk.rO (φ := tbF2 a (⟨.pointer (some ⟨f, 0, none⟩), .map (some rs), v, .int .i64 (n : Int)⟩ : XA) T1) mE)) rfl rfl rfl rfl rfl (by kernel_rfl) ?_) | ((first | refine g_split rfl rfl tE (fun _ => ?_) (fun _ => ?_) | refine gk_cond rfl rfl tE (fun _ => ?_) (fun _ => ?_)) <;> (try first | (exfalso; omega; done) | (rename_i hx; exact absurd rfl hx) | (rename_i hx; cases hx; done)))))
    refine g_mv rfl (mv_call_mod (φ := tbF2 a (⟨.pointer (some ⟨f, 0, none⟩), .map (some rs), v, .int .i64 (n : Int)⟩ : XA) T1) (ψ := fun T' : TabS => tbF2 a (⟨.pointer (some ⟨f, 0, none⟩), .map (some rs), v, .int .i64 (n : Int)⟩ : XA) T') (fun w1 hk => by exact hold2_any a (⟨.pointer (some ⟨f, 0, none⟩), .map (some rs), v, .int .i64 (n : Int)⟩ : XA) T1 l b w1 (by omega) hl9 hr (hk.rO (φ := tbF2 a (⟨.pointer (some ⟨f, 0, none⟩), .map (some rs), v, .int .i64 (n : Int)⟩ : XA) T1) mE)) rfl rfl rfl rfl rfl (by kernel_rfl) (by intro _; first | ((repeat (first | with_reducible exact Upd.here _ | with_reducible apply Upd.there)); done) | ((repeat (first | exact Upd.here _ | apply Upd.there)); done) | fail) (fun T' hT' => ?_))
    (repeat (refine gG ?_; try intro _))
    refine gk_ret hT rfl rfl (.tmp rfl .nil) (fun w' hk => ?_)
    exact RetM.mkP (ll := fun r : AlD × AlS × Int => alL a n r.1 r.2.1) ((⟨f, fs, T', rs, M, v⟩, ⟨S, l ++ [b], U, L⟩, 0) : AlD × AlS × Int) ⟨⟨hp.hold hb, hf, hT', hu⟩, hd.symm⟩ rfl hk (fun b hb => (finE_mem h.2 b).1 hb) (show SelAll [tbF2 a (⟨.pointer (some ⟨f, 0, none⟩), .map (some rs), v, .int .i64 (n : Int)⟩ : XA) T', packF (frF f fs), mpk rs (Value.int .u32) M, own 0 87 1 v (IE .u32) L] _ from sA)
def adoptA (n : Nat) (s : AlS) (b : Int) : AlS × Int := if b = 0 ∨ (n : Int) < b then (s, 11) else (⟨dropP b s.S, s.l ++ [b], s.U, s.L⟩, 0)
theorem aadopt_any (a n : Nat) (D : AlD) (s : AlS) (b : Int) (w : World) (hn : n ≤ 4096) (hb0 : 0 ≤ b) (hb9 : b ≤ 4294967295) (hL : b ∉ s.L) (hl9 : s.l.length < 1000) (hI : AlI n D s) (h : Rd1 w (alF a n D s)) :
    Calls Try.prog 113 [.pointer (some ⟨a, 0, none⟩), .int .u32 b].toArray w (RetM (alF a n D s) (fun r : AlD × AlS × Int => AlI n r.1 r.2.1 ∧ r.2 = adoptA n s b) (fun r => .int .i64 r.2.2) (fun r => alF a n r.1 r.2.1) w) := by
  obtain ⟨f, fs, T1, rs, M, v⟩ := D
  obtain ⟨S, l, U, L⟩ := s
  obtain ⟨hp, hf, hr, hu⟩ := hI
  dsimp only at hp hf hr hu hl9 hL
  refine g_enter0 T (finE (alF a n ⟨f, fs, T1, rs, M, v⟩ ⟨S, l, U, L⟩) w) [tbF2 a (⟨.pointer (some ⟨f, 0, none⟩), .map (some rs), v, .int .i64 (n : Int)⟩ : XA) T1, packF (frF f fs), mpk rs (Value.int .u32) M, own 0 87 1 v (IE .u32) L] [] Try.func113 rfl Try.ntmps113 rfl (Kn.startP h (fun b hb => (finE_mem h.2 b).2 hb) (fun _ h => by cases h)) ?_
  rw [show tbF2 a (⟨.pointer (some ⟨f, 0, none⟩), .map (some rs), v, .int .i64 (n : Int)⟩ : XA) T1 = packF [blk a [.pointer (some ⟨f, 0, none⟩), .map T1.r, .int .i64 T1.sum, .map (some rs), v, .int .i64 (n : Int)] 191, moF T1.r T1.M] from rfl]
  refine gk_unpack (l := [blk a [.pointer (some ⟨f, 0, none⟩), .map T1.r, .int .i64 T1.sum, .map (some rs), v, .int .i64 (n : Int)] 191, moF T1.r T1.M]) (by repeat (first | with_reducible exact Sel.here | with_reducible apply Sel.there)) ?_
  by_cases hbad : b = 0 ∨ (n : Int) < b
  · have hd : adoptA n ⟨S, l, U, L⟩ b = (⟨S, l, U, L⟩, 11) := if_pos hbad
    (repeat' (first | (refine gG ?_; try intro _) | ((first | refine g_split rfl rfl tE (fun _ => ?_) (fun _ => ?_) | refine gk_cond rfl rfl tE (fun _ => ?_) (fun _ => ?_)) <;> (try first | (exfalso; omega; done) | (rename_i hx; exact absurd rfl hx) | (rename_i hx; cases hx; done)))))
    all_goals
      refine gk_pack (tbL2 a (⟨.pointer (some ⟨f, 0, none⟩), .map (some rs), v, .int .i64 (n : Int)⟩ : XA) T1) [packF (frF f fs), mpk rs (Value.int .u32) M, own 0 87 1 v (IE .u32) L] sA ?_
      refine gk_ret hT rfl rfl (.tmp rfl .nil) (fun w' hk => ?_)
      exact RetM.mkP (ll := fun r : AlD × AlS × Int => alL a n r.1 r.2.1) ((⟨f, fs, T1, rs, M, v⟩, ⟨S, l, U, L⟩, 11) : AlD × AlS × Int) ⟨⟨hp, hf, hr, hu⟩, hd.symm⟩ rfl hk (fun b hb => (finE_mem h.2 b).1 hb) (show SelAll [tbF2 a (⟨.pointer (some ⟨f, 0, none⟩), .map (some rs), v, .int .i64 (n : Int)⟩ : XA) T1, packF (frF f fs), mpk rs (Value.int .u32) M, own 0 87 1 v (IE .u32) L] _ from sA)
  · have hd : adoptA n ⟨S, l, U, L⟩ b = (⟨dropP b S, l ++ [b], U, L⟩, 0) := if_neg hbad
    have hb1 : 1 ≤ b ∧ b ≤ n := by omega
    (repeat' (first | (refine gG ?_; try intro _) | ((first | refine g_split rfl rfl tE (fun _ => ?_) (fun _ => ?_) | refine gk_cond rfl rfl tE (fun _ => ?_) (fun _ => ?_)) <;> (try first | (exfalso; omega; done) | (rename_i hx; exact absurd rfl hx) | (rename_i hx; cases hx; done)))))
    refine g_mv rfl (mv_call_mod (φ := packF (frF f fs)) (ψ := fun r : FrS × Bool => packF (frF f r.1)) (fun w1 hk => by exact ldrop_any f fs S b w1 hf (hk.rO (φ := packF (frF f fs)) mE)) rfl rfl rfl rfl rfl (by kernel_rfl) (by intro _; first | ((repeat (first | with_reducible exact Upd.here _ | with_reducible apply Upd.there)); done) | ((repeat (first | exact Upd.here _ | apply Upd.there)); done) | fail) (fun r hr2 => ?_))
    obtain ⟨fs', ok⟩ := r
    obtain ⟨hf', hok⟩ := hr2
    dsimp only at hf' ⊢
    (repeat (refine gG ?_; try intro _))
    refine g_pack (tbL2 a (⟨.pointer (some ⟨f, 0, none⟩), .map (some rs), v, .int .i64 (n : Int)⟩ : XA) T1) [packF (frF f fs'), mpk rs (Value.int .u32) M, own 0 87 1 v (IE .u32) L] sA ?_
    refine g_mv rfl (mv_call_mod (φ := tbF2 a (⟨.pointer (some ⟨f, 0, none⟩), .map (some rs), v, .int .i64 (n : Int)⟩ : XA) T1) (ψ := fun T' : TabS => tbF2 a (⟨.pointer (some ⟨f, 0, none⟩), .map (some rs), v, .int .i64 (n : Int)⟩ : XA) T') (fun w1 hk => by exact hold2_any a (⟨.pointer (some ⟨f, 0, none⟩), .map (some rs), v, .int .i64 (n : Int)⟩ : XA) T1 l b w1 (by omega) hl9 hr (hk.rO (φ := tbF2 a (⟨.pointer (some ⟨f, 0, none⟩), .map (some rs), v, .int .i64 (n : Int)⟩ : XA) T1) mE)) rfl rfl rfl rfl rfl (by kernel_rfl) (by intro _; first | ((repeat (first | with_reducible exact Upd.here _ | with_reducible apply Upd.there)); done) | ((repeat (first | exact Upd.here _ | apply Upd.there)); done) | fail) (fun T' hT' => ?_))
    (repeat (refine gG ?_; try intro _))
    refine gk_ret hT rfl rfl (.tmp rfl .nil) (fun w' hk => ?_)
    exact RetM.mkP (ll := fun r : AlD × AlS × Int => alL a n r.1 r.2.1) ((⟨f, fs', T', rs, M, v⟩, ⟨dropP b S, l ++ [b], U, L⟩, 0) : AlD × AlS × Int) ⟨⟨hp.adopt hb1.1 hb1.2 hL, hf', hT', hu⟩, hd.symm⟩ rfl hk (fun b hb => (finE_mem h.2 b).1 hb) (show SelAll [tbF2 a (⟨.pointer (some ⟨f, 0, none⟩), .map (some rs), v, .int .i64 (n : Int)⟩ : XA) T', packF (frF f fs'), mpk rs (Value.int .u32) M, own 0 87 1 v (IE .u32) L] _ from sA)
theorem vals_any (A : Option Addr) (n c : Nat) (w : World) :
    Calls Try.prog 149 [.slice A n c].toArray w (Ret (fun _ : Nat => True) (fun s => .func (.func 179) #[] #[.pointer (some ⟨s, 0, none⟩)]) (fun s => [blk s [.slice A n c] 85]) w) := by
  refine g_enter0 T [] [] [] Try.func149 rfl Try.ntmps149 rfl (Kn.start _) ?_
  (repeat (refine gG ?_; try intro _))
  rename_i g1
  refine g_yd rfl rfl (Ys.yd (ys_makeFuncB rfl rfl rfl)) ?_
  (repeat (refine gG ?_; try intro _))
  refine gk_ret hT rfl rfl (.tmp rfl .nil) (fun w' hk => ?_)
  exact Ret.mk g1 trivial rfl hk sA
theorem vals_iter (A : Option Addr) (n c bt : Nat) (L : List Int) (w1 : World) (hn : n = L.length) (h9 : n ≤ 10000) (hB : Rds w1 [blk bt [.slice A n c] 85, sl A 1 (IE .u32) L]) :
    IterG Try.prog 179 [.pointer (some ⟨bt, 0, none⟩)] (fun x : Int => [.int .u32 x]) (fun k x k' => L[k]? = some x ∧ k' = k + 1) 0 (fun k => k = L.length) [blk bt [.slice A n c] 85, sl A 1 (IE .u32) L] w1 := by
  intro l τ Γ Iv Dn t0 h0 hΓ hdis hY
  refine g_enter0 T (finE (Γ t0) w1) [Γ t0] [blk bt [.slice A n c] 85, sl A 1 (IE .u32) L] Try.func179 rfl Try.ntmps179 rfl (Kn.startM hΓ (fun b hb => (finE_mem hΓ.2 b).2 hb) (fun ψ hψ => ⟨hB.mem hψ, fun b h1 => hdis ψ hψ b h1⟩)) ?_
  refine gk_rowR (g := bt) mE ?_
  (repeat (refine gG ?_; try intro _))
  refine gk_loop_sel (fun (q : Nat × τ) => match q with | (k, t) => (k ≤ n ∧ Iv k t)) (fun (q : Nat × τ) => match q with | (k, t) => [(0, .func (.yield l) #[] #[]), (1, .pointer (some ⟨bt, 0, none⟩)), (5, .slice A n c), (6, .int .i64 (n : Int)), (7, .int .i64 (k : Int))]) (fun (q : Nat × τ) => match q with | (k, t) => [Γ t]) (fun (q : Nat × τ) => match q with | (k, t) => [blk bt [.slice A n c] 85, sl A 1 (IE .u32) L]) (fun (q : Nat × τ) => match q with | (k, t) => n - k) (0, t0) rfl ⟨Nat.zero_le _, h0⟩ (by repeat (first | exact trivial | refine ⟨rfl, ?_⟩)) sA sS ?_
  rintro ⟨k, t⟩ hI
  replace hI : (k ≤ n ∧ Iv k t) := hI
  change GK _ _ [(0, .func (.yield l) #[] #[]), (1, .pointer (some ⟨bt, 0, none⟩)), (5, .slice A n c), (6, .int .i64 (n : Int)), (7, .int .i64 (k : Int))] [Γ t] [blk bt [.slice A n c] 85, sl A 1 (IE .u32) L]
  obtain ⟨hk1, hIv⟩ := hI
  by_cases hlt : k < n
  · obtain ⟨x, hx⟩ : ∃ b, L[k]? = some b := ⟨L[k], List.getElem?_eq_getElem (by omega)⟩
    refine gk_elem (enc := IE .u32) (L := L) k mE (by omega) (by decide) (fun g o y eA hy => ?_)
    subst eA
    obtain rfl : x = y := by rw [hx] at hy; exact Option.some.inj hy
    (repeat' (first | (refine gG ?_; try intro _) | ((first | refine g_split rfl rfl tE (fun _ => ?_) (fun _ => ?_) | refine gk_cond rfl rfl tE (fun _ => ?_) (fun _ => ?_)) <;> (try first | (exfalso; omega; done) | (rename_i hx; exact absurd rfl hx) | (rename_i hx; cases hx; done)))))
    refine g_yield Γ t (fun b t2 => (b = true → Iv (k + 1) t2) ∧ (b = false → Dn t2)) rfl rfl rfl rfl rfl rfl (fun w hk => hY k x (k + 1) t w ⟨hx, rfl⟩ hIv (hk.outM (fun b hb => finE_in b hb) mE)) (by intro _; first | ((repeat (first | with_reducible exact Upd.here _ | with_reducible apply Upd.there)); done) | ((repeat (first | exact Upd.here _ | apply Upd.there)); done) | fail) (fun b t2 hJ => ?_)
    cases b with
    | true =>
      (repeat (refine gG ?_; try intro _))
      refine gk_say 7 (.int .i64 ((k + 1 : Nat) : Int)) rfl (by first | (congr 1; done) | (congr 1; omega)) ?_
      refine gk_again_sel rfl (k + 1, t2) ⟨hlt, hJ.1 rfl⟩ (by dsimp only; omega) (by repeat (first | exact trivial | refine ⟨rfl, ?_⟩)) sA sS
    | false =>
      (repeat (refine gG ?_; try intro _))
      refine gk_ret hT rfl rfl .nil (fun w' hk => ?_)
      exact ⟨⟨_, rfl⟩, t2, hk.outM (fun b hb => finE_in b hb) mE, .inr (hJ.2 rfl)⟩
  · (repeat' (first | (refine gG ?_; try intro _) | ((first | refine g_split rfl rfl tE (fun _ => ?_) (fun _ => ?_) | refine gk_cond rfl rfl tE (fun _ => ?_) (fun _ => ?_)) <;> (try first | (exfalso; omega; done) | (rename_i hx; exact absurd rfl hx) | (rename_i hx; cases hx; done)))))
    refine gk_fin hT rfl rfl .nil (fun w' hk => ?_)
    exact ⟨⟨_, rfl⟩, t, hk.outM (fun b hb => finE_in b hb) mE, .inl ⟨k, by omega, hIv⟩⟩
theorem sorted_rise {P S : List Int} (hr : P.Pairwise (fun x y => x < y)) (hp : S.Perm P) (hs : Pq.SortedIn (fun x y : Int => x < y) 0 S.length S) : S = P := by
  refine List.Perm.eq_of_pairwise (le := fun x y : Int => x ≤ y) (fun a b _ _ h1 h2 => by omega) ?_ (hr.imp fun h => by omega) hp
  rw [List.pairwise_iff_getElem]
  intro i j hi hj hij
  have := hs i j _ _ (Nat.zero_le _) hij hj (List.getElem?_eq_getElem hi) (List.getElem?_eq_getElem hj)
  exact Int.not_lt.1 this
/-- The numbers that are so, of all. -/
def pickN (n : Nat) (p : Int → Bool) : List Int := (iota n).filter p
theorem pickN_rise (n : Nat) (p : Int → Bool) : (pickN n p).Pairwise (fun x y => x < y) := (iota_sorted n).filter _
theorem mem_pickN {n : Nat} {p : Int → Bool} {b : Int} : b ∈ pickN n p ↔ (1 ≤ b ∧ b ≤ n) ∧ p b = true := by
  unfold pickN
  rw [List.mem_filter]
  refine and_congr_left fun _ => ⟨iota_mem, fun h => ?_⟩
  unfold iota
  rw [List.mem_map]
  exact ⟨(b - 1).toNat, by rw [List.mem_range]; omega, by omega⟩
theorem nodup_rise' {L : List Int} (h : L.Pairwise (fun x y => x < y)) : L.Nodup := h.imp fun h => by omega
theorem AlP.waits {n : Nat} {s : AlS} (h : AlP n s) : s.L.Perm (pickN n fun b => decide (b ∈ s.L)) := (List.perm_ext_iff_of_nodup h.nd (nodup_rise' (pickN_rise _ _))).2 fun b => by
  rw [mem_pickN, decide_eq_true_eq]
  exact ⟨fun hb => ⟨h.pos (.inr (.inr hb)), hb⟩, fun hb => hb.2⟩
theorem AlP.held {n : Nat} {s : AlS} (h : AlP n s) : setP s.l = pickN n fun b => decide (0 < s.l.count b) := by
  refine List.Perm.eq_of_pairwise (le := fun x y : Int => x ≤ y) (fun a b _ _ h1 h2 => by omega) ((setP_rise s.l).imp fun h => by omega) ((pickN_rise _ _).imp fun h => by omega) ?_
  refine (List.perm_ext_iff_of_nodup (nodup_rise' (setP_rise s.l)) (nodup_rise' (pickN_rise _ _))).2 fun b => ?_
  rw [mem_pickN, decide_eq_true_eq, mem_setP]
  exact ⟨fun hb => ⟨h.pos (.inr (.inl hb)), List.count_pos_iff.2 hb⟩, fun hb => List.count_pos_iff.1 hb.2⟩
theorem awaits_any (a n : Nat) (D : AlD) (s : AlS) (w : World) (hn : n ≤ 4096) (hI : AlI n D s) (h : Rd1 w (alF a n D s)) :
    Calls Try.prog 118 [.pointer (some ⟨a, 0, none⟩)].toArray w (Ret (fun _ : Value => True) (fun v => v) (fun v => [own 0 87 1 v (IE .u32) (pickN n fun b => decide (b ∈ s.L))]) w) := by
  have hw := hI.p.waits
  have hlens := hI.p.lens
  obtain ⟨f, fs, T1, rs, M, v⟩ := D
  obtain ⟨S, l, U, L⟩ := s
  dsimp only at hw hlens ⊢
  have hrd := rda h
  obtain ⟨A, c, hv, _⟩ := own_rdv hrd.o
  replace hv : v = .slice A L.length c := hv
  subst hv
  have hsl : Rd1 w (sl A 1 (IE .u32) L) := SoU.rd_own hrd.o
  refine g_enter0 T [] [] [blk a [.pointer (some ⟨f, 0, none⟩), .map T1.r, .int .i64 T1.sum, .map (some rs), .slice A L.length c, .int .i64 (n : Int)] 191, sl A 1 (IE .u32) L] Try.func118 rfl Try.ntmps118 rfl (Rds.cons hrd.b (.cons hsl .nil)).kn ?_
  refine gk_rowR (g := a) mE ?_
  (repeat (refine gG ?_; try intro _))
  refine g_mv rfl ?_; refine mv_call_rt (fun w hk => vals_any A L.length c w) rfl rfl rfl rfl rfl (by kernel_rfl) (fun _ => rfl) (fun bt _ => ?_)
  refine g_share (φ := blk bt [.slice A L.length c] 85) (by repeat (first | with_reducible exact Sel.here | with_reducible apply Sel.there)) ?_
  refine g_mv rfl ?_; refine mv_call_rt (fun w hk => by exact sorted_any 179 [.pointer (some ⟨bt, 0, none⟩)] (fun (k : Nat) x k' => L[k]? = some x ∧ k' = k + 1) 0 (fun k => k = L.length) (fun k => L.take k) [blk bt [.slice A L.length c] 85, sl A 1 (IE .u32) L] w (by kernel_rfl) (KyU.Kn.rds hk (by intro φ hφ; rcases List.mem_cons.1 hφ with rfl | hφ; exact mE; obtain rfl := List.mem_singleton.1 hφ; exact mE)) (fun w' hB => vals_iter A L.length c bt L w' rfl (by omega) hB) rfl (fun q x q' ⟨h1, h2⟩ => by rw [h2]; exact takeAt h1) (fun q x q' _ => by rw [List.length_take]; omega) (fun q _ => by rw [List.length_take]; omega)) rfl rfl rfl rfl rfl (by kernel_rfl) (fun _ => rfl) (fun r hr => ?_)
  obtain ⟨v1, S1⟩ := r
  obtain ⟨⟨q, hq1, hq2⟩, hso⟩ := hr
  dsimp only at hq1 hq2 hso ⊢
  rw [hq1, List.take_length] at hq2
  have hS : S1 = pickN n fun b => decide (b ∈ L) := sorted_rise (pickN_rise _ _) (hq2.trans hw) hso
  rw [hS]
  (repeat (refine gG ?_; try intro _))
  refine gk_ret hT rfl rfl (.tmp rfl .nil) (fun w' hk => ?_)
  exact Ret.mk v1 trivial rfl hk sA
end Go.Proofs.Ytdkgmgfadpnhbaa.Al

