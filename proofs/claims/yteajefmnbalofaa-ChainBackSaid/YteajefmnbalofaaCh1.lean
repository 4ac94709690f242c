/- chain.Blocks; slices.Chunk of bytes by 116. -/
import Derived.Test.YteajefmnbalofaaCh0
namespace Go.Proofs.Yteajefmnbalofaa.Ch
open Go.RowKit Mem Gx Bytes Dk
set_option linter.unusedVariables false
set_option linter.unusedSimpArgs false
set_option maxRecDepth 100000
set_option maxHeartbeats 2000000
/-- How many blocks so many bytes take. -/
def chN (k : Nat) : Nat := (k + 115) / 116
theorem chN_lt {n q : Nat} : q < chN n ↔ 116 * q < n := by unfold chN; omega
theorem blocks_any (k : Nat) (h : k ≤ 1000000) (w : World) : Calls Try.prog 24 [.int .i64 (k : Nat)].toArray w fun e w' => e = .returned (.int .i64 (chN k : Nat)) ∧ Below w.heap.size w w' := by
  refine g_enter0 T [] [] [] Try.func24 rfl Try.ntmps24 rfl (Kn.start _) ?_
  (repeat (refine gG ?_; try intro _))
  refine g_yd rfl rfl (Ys.yd (ys_max (k : Int) rfl rfl rfl (by split <;> omega))) ?_
  (repeat (refine gG ?_; try intro _))
  refine gk_ret hT rfl rfl (.tmp rfl .nil) (fun w' hk => ?_)
  exact ⟨congrArg (fun q => Ending.returned (.int .i64 q)) (by unfold chN; first | omega | (rw [show (k : Int) + 116 - 1 = ((k + 115 : Nat) : Int) by omega]; rfl)), hk.toBelow⟩
theorem blocks_neg (w : World) : Calls Try.prog 24 [.int .i64 (-1)].toArray w fun e w' => e = .returned (.int .i64 0) ∧ Below w.heap.size w w' := by
  refine g_enter0 T [] [] [] Try.func24 rfl Try.ntmps24 rfl (Kn.start _) ?_
  (repeat (refine gG ?_; try intro _))
  refine g_yd rfl rfl (Ys.yd (ys_max 0 rfl rfl rfl (by split <;> omega))) ?_
  (repeat (refine gG ?_; try intro _))
  refine gk_ret hT rfl rfl (.tmp rfl .nil) (fun w' hk => ?_)
  exact ⟨congrArg (fun q => Ending.returned (.int .i64 q)) (by decide), hk.toBelow⟩
/-- A chunk's length. -/
def ckN (n q : Nat) : Nat := if 116 < n - 116 * q then 116 else n - 116 * q
theorem ckN_pos {n q : Nat} (h : 116 * q < n) : 1 ≤ ckN n q ∧ ckN n q ≤ 116 ∧ 116 * q + ckN n q ≤ n := by unfold ckN; split <;> omega
theorem chunk_any (A : Option Addr) (n c : Nat) (w : World) :
    Calls Try.prog 49 [.slice A n c, .int .i64 116].toArray w (Ret (fun _ : Nat × Nat => True) (fun q => .func (.func 66) #[] #[.pointer (some ⟨q.1, 0, none⟩), .pointer (some ⟨q.2, 0, none⟩)]) (fun q => [blk q.1 [.slice A n c] 36, blk q.2 [.int .i64 116] 3]) w) := by
  refine g_enter0 T [] [] [] Try.func49 rfl Try.ntmps49 rfl (Kn.start _) ?_
  (repeat' (first | (refine gG ?_; try intro _) | ((first | refine g_split rfl rfl tE (fun _ => ?_) (fun _ => ?_) | refine gk_cond rfl rfl tE (fun _ => ?_) (fun _ => ?_)) <;> (try first | (exfalso; omega; done) | (rename_i hx; exact absurd rfl hx) | (rename_i hx; cases hx; done)))))
  rename_i g1 g2 _
  refine g_yd rfl rfl (Ys.yd (ys_makeFuncB rfl rfl rfl)) ?_
  (repeat (refine gG ?_; try intro _))
  refine gk_ret hT rfl rfl (.tmp rfl .nil) (fun w' hk => ?_)
  exact Ret.mk (g1, g2) trivial rfl hk sA
theorem chunk_iter (A : Option Addr) (n c bs bn : Nat) (w1 : World) (hnc : n ≤ c) (hc : c ≤ maxLen) (h9 : n ≤ 100000) (hB : Rds w1 [blk bs [.slice A n c] 36, blk bn [.int .i64 116] 3]) :
    IterOk Try.prog 66 [.pointer (some ⟨bs, 0, none⟩), .pointer (some ⟨bn, 0, none⟩)] (fun q : Nat => [.slice (shA A (116 * q) n 1) (ckN n q) (ckN n q)]) (List.range (chN n)) [blk bs [.slice A n c] 36, blk bn [.int .i64 116] 3] w1 := by
  intro l τ Γ Iv Dn t0 h0 hΓ hdis hY
  refine g_enter0 T (finE (Γ t0) w1) [Γ t0] [blk bs [.slice A n c] 36, blk bn [.int .i64 116] 3] Try.func66 rfl Try.ntmps66 rfl (Kn.startM hΓ (fun b hb => (finE_mem hΓ.2 b).2 hb) (fun ψ hψ => ⟨hB.mem hψ, fun b h1 => hdis ψ hψ b h1⟩)) ?_
  refine gk_rowR (g := bs) mE ?_
  refine gk_rowR (g := bn) mE ?_
  (repeat (refine gG ?_; try intro _))
  refine gk_say 4 (.int .i64 ((116 * 0 : Nat) : Int)) rfl rfl ?_
  refine gk_loop_sel (fun (q : Nat × τ) => match q with | (m, t) => (m ≤ chN n ∧ Iv m t)) (fun (q : Nat × τ) => match q with | (m, t) => [(0, .func (.yield l) #[] #[]), (1, .pointer (some ⟨bs, 0, none⟩)), (2, .pointer (some ⟨bn, 0, none⟩)), (4, .int .i64 ((116 * m : Nat) : Int))]) (fun (q : Nat × τ) => match q with | (m, t) => [Γ t]) (fun (q : Nat × τ) => match q with | (m, t) => [row bn 0 [.int .i64 116], row bs 0 [.slice A n c], blk bs [.slice A n c] 36, blk bn [.int .i64 116] 3]) (fun (q : Nat × τ) => match q with | (m, t) => chN n - m) (0, t0) rfl ⟨Nat.zero_le _, h0⟩ (by repeat (first | exact trivial | refine ⟨rfl, ?_⟩)) sA sS ?_
  rintro ⟨m, t⟩ hI
  replace hI : (m ≤ chN n ∧ Iv m t) := hI
  change GK _ _ [(0, .func (.yield l) #[] #[]), (1, .pointer (some ⟨bs, 0, none⟩)), (2, .pointer (some ⟨bn, 0, none⟩)), (4, .int .i64 ((116 * m : Nat) : Int))] [Γ t] [row bn 0 [.int .i64 116], row bs 0 [.slice A n c], blk bs [.slice A n c] 36, blk bn [.int .i64 116] 3]
  obtain ⟨hmn, hiv⟩ := hI
  by_cases hlt : m < chN n
  · have h2 := chN_lt.1 hlt
    obtain ⟨k1, k2, k3⟩ := ckN_pos h2
    have hxm : (List.range (chN n))[m]? = some m := List.getElem?_range hlt
    (repeat' (first | (refine gG ?_; try intro _) | ((first | refine g_split rfl rfl tE (fun _ => ?_) (fun _ => ?_) | refine gk_cond rfl rfl tE (fun _ => ?_) (fun _ => ?_)) <;> (try first | (exfalso; omega; done) | (rename_i hx; exact absurd rfl hx) | (rename_i hx; cases hx; done)))))
    refine gk_any [1, 2, 3, 4] (Cut _ (fun _ : Unit => [(0, .func (.yield l) #[] #[]), (1, .pointer (some ⟨bs, 0, none⟩)), (2, .pointer (some ⟨bn, 0, none⟩)), (4, .int .i64 ((116 * m : Nat) : Int)), (5, .int .i64 ((ckN n m : Nat) : Int))]) (fun _ => [Γ t]) (fun _ => [row bn 0 [.int .i64 116], row bs 0 [.slice A n c], blk bs [.slice A n c] 36, blk bn [.int .i64 116] 3])) rfl rfl (by kernel_rfl) ?_ (cut_k fun _ => ?_)
    · skip
      refine gb_take 0 rfl (by decide +kernel) rfl rfl (by first | exact ys_blk hT rfl rfl mE rfl rfl | exact ys_row hT rfl rfl mE rfl rfl | exact ys_row0 hT rfl rfl mE rfl rfl) sF ?_
      refine gb_take 1 rfl (by decide +kernel) rfl rfl (by first | exact ys_blk hT rfl rfl mE rfl rfl | exact ys_row hT rfl rfl mE rfl rfl | exact ys_row0 hT rfl rfl mE rfl rfl) sF ?_
      refine gb_take 2 rfl (by decide +kernel) rfl rfl (ys_ev (nw := true) hT rfl sI) sF ?_
      refine gb_take 3 rfl (by decide +kernel) rfl rfl (ys_slice_l hT (116 * m) rfl rfl rfl rfl rfl (by omega)) sF ?_
      refine gb_take 4 rfl (by decide +kernel) rfl rfl (ys_ev (nw := true) hT rfl sI) sF ?_
      refine gb_take 5 rfl (by decide +kernel) rfl rfl (ys_min ((ckN n m : Nat) : Int) rfl rfl rfl (by unfold ckN; split <;> split <;> omega)) sF ?_
      refine gb_take 6 rfl (by decide +kernel) rfl rfl (ys_ev (nw := true) hT rfl sI) sF ?_
      refine gb_nil (by decide +kernel) ?_
      exact ⟨(), (by repeat (first | exact trivial | refine ⟨rfl, ?_⟩)), sA, sS⟩
    (repeat (refine gG ?_; try intro _))
    refine g_yd rfl rfl (Ys.yd (ys_slice_lhm hT (116 * m) (116 * m + ckN n m) (116 * m + ckN n m) rfl rfl rfl rfl rfl rfl rfl (by push_cast; rfl) (by push_cast; rfl) (by omega) (by omega) (by omega))) ?_
    refine g_say 28 (.slice (shA A (116 * m) n 1) (ckN n m) (ckN n m)) rfl (by rw [Nat.add_sub_cancel_left]; unfold shA; rw [if_neg (by omega), if_neg (by omega)]) ?_
    refine g_yield Γ t (fun b t2 => (b = true → Iv (m + 1) t2) ∧ (b = false → Dn t2)) rfl rfl rfl rfl rfl rfl (fun w hk => hY m m t w hxm hiv (hk.outM (fun b hb => finE_in b hb) mE)) (by intro _; first | ((repeat (first | with_reducible exact Upd.here _ | with_reducible apply Upd.there)); done) | ((repeat (first | exact Upd.here _ | apply Upd.there)); done) | fail) (fun b t2 hJ => ?_)
    cases b with
    | true =>
      (repeat (refine gG ?_; try intro _))
      refine gk_say 4 (.int .i64 ((116 * (m + 1) : Nat) : Int)) rfl (by first | (congr 1; done) | (congr 1; omega)) ?_
      refine gk_again_sel rfl (m + 1, t2) ⟨hlt, hJ.1 rfl⟩ (by dsimp only; omega) (by repeat (first | exact trivial | refine ⟨rfl, ?_⟩)) sA sS
    | false =>
      (repeat (refine gG ?_; try intro _))
      refine gk_ret hT rfl rfl .nil (fun w' hk => ?_)
      exact ⟨⟨_, rfl⟩, t2, hk.outM (fun b hb => finE_in b hb) mE, .inr (hJ.2 rfl)⟩
  · have h2 : ¬ 116 * m < n := fun h => hlt (chN_lt.2 h)
    obtain rfl : m = chN n := by omega
    (repeat' (first | (refine gG ?_; try intro _) | ((first | refine g_split rfl rfl tE (fun _ => ?_) (fun _ => ?_) | refine gk_cond rfl rfl tE (fun _ => ?_) (fun _ => ?_)) <;> (try first | (exfalso; omega; done) | (rename_i hx; exact absurd rfl hx) | (rename_i hx; cases hx; done)))))
    refine gk_fin hT rfl rfl .nil (fun w' hk => ?_)
    exact ⟨⟨_, rfl⟩, t, hk.outM (fun b hb => finE_in b hb) mE, .inl (by rw [List.length_range]; exact hiv)⟩
end Go.Proofs.Yteajefmnbalofaa.Ch

