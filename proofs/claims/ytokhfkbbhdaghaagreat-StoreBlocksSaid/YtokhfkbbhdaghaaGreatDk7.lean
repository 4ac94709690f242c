/- slices.Backward over late writes. -/
import Derived.Test.YtokhfkbbhdaghaaGreatDk6
namespace Go.Proofs.YtokhfkbbhdaghaaGreat.Dk
open Go.RowKit Mem Gx Bytes
set_option linter.unusedVariables false
set_option linter.unusedSimpArgs false
set_option maxRecDepth 100000
set_option maxHeartbeats 1000000
/-- Late writes from behind. -/
def backs (W : List WrD) : List (Nat × WrD) := (W.zipIdx.map fun p => (p.2, p.1)).reverse
theorem backs_len (W : List WrD) : (backs W).length = W.length := by unfold backs; simp
theorem backs_at {W : List WrD} {q i : Nat} {x : WrD} (h : q + i + 1 = W.length) (hx : W[i]? = some x) : (backs W)[q]? = some (i, x) := by
  unfold backs
  rw [List.getElem?_reverse (by simp; omega), List.getElem?_map, List.getElem?_zipIdx]
  simp only [List.length_map, List.length_zipIdx]
  rw [show W.length - 1 - q = i by omega, hx]
  simp
theorem back_any (lA : Option Addr) (n lc : Nat) (w : World) :
    Calls Tryz.prog 19 [.slice lA n lc].toArray w (Ret (fun _ : Nat => True) (fun s => .func (.func 39) #[] #[.pointer (some ⟨s, 0, none⟩)]) (fun s => [blk s [.slice lA n lc] 64]) w) := by
  refine g_enter0 T [] [] [] Tryz.func19 rfl Tryz.ntmps19 rfl (Kn.start _) ?_
  (repeat (refine gG ?_; try intro _))
  rename_i g1
  refine g_yd rfl rfl (Ys.yd (ys_makeFuncB rfl rfl rfl)) ?_
  (repeat (refine gG ?_; try intro _))
  refine gk_ret hT rfl rfl (.tmp rfl .nil) (fun w' hk => ?_)
  exact Ret.mk g1 trivial rfl hk sA
theorem back_iter (W : List WrD) (lA : Option Addr) (n lc bt : Nat) (w1 : World) (hn : n = W.length) (h9 : n ≤ 100000) (hB : Rds w1 [blk bt [.slice lA n lc] 64, sl lA 2 WE W]) :
    IterOk Tryz.prog 39 [.pointer (some ⟨bt, 0, none⟩)] (fun p : Nat × WrD => [.int .i64 (p.1 : Nat), p.2.val]) (backs W) [blk bt [.slice lA n lc] 64, sl lA 2 WE W] w1 := by
  intro l τ Γ Iv Dn t0 h0 hΓ hdis hY
  refine g_enter0 T (finE (Γ t0) w1) [Γ t0] [blk bt [.slice lA n lc] 64, sl lA 2 WE W] Tryz.func39 rfl Tryz.ntmps39 rfl (Kn.startM hΓ (fun b hb => (finE_mem hΓ.2 b).2 hb) (fun ψ hψ => ⟨hB.mem hψ, fun b h1 => hdis ψ hψ b h1⟩)) ?_
  refine gk_rowR (g := bt) mE ?_
  (repeat (refine gG ?_; try intro _))
  refine gk_say 3 (.int .i64 ((n : Int) - 1 - ((0 : Nat) : Int))) rfl (by congr 1; omega) ?_
  refine gk_loop_sel (fun (q : Nat × τ) => match q with | (m, t) => (m ≤ n ∧ Iv m t)) (fun (q : Nat × τ) => match q with | (m, t) => [(0, .func (.yield l) #[] #[]), (1, .pointer (some ⟨bt, 0, none⟩)), (3, .int .i64 ((n : Int) - 1 - (m : Nat)))]) (fun (q : Nat × τ) => match q with | (m, t) => [Γ t]) (fun (q : Nat × τ) => match q with | (m, t) => [row bt 0 [.slice lA n lc], blk bt [.slice lA n lc] 64, sl lA 2 WE W]) (fun (q : Nat × τ) => match q with | (m, t) => n - m) (0, t0) rfl ⟨Nat.zero_le _, h0⟩ (by repeat (first | exact trivial | refine ⟨rfl, ?_⟩)) sA sS ?_
  rintro ⟨m, t⟩ hI
  replace hI : (m ≤ n ∧ Iv m t) := hI
  change GK _ _ [(0, .func (.yield l) #[] #[]), (1, .pointer (some ⟨bt, 0, none⟩)), (3, .int .i64 ((n : Int) - 1 - (m : Nat)))] [Γ t] [row bt 0 [.slice lA n lc], blk bt [.slice lA n lc] 64, sl lA 2 WE W]
  obtain ⟨hmn, hiv⟩ := hI
  by_cases hlt : m < n
  · obtain ⟨i, hi⟩ : ∃ i, m + i + 1 = n := ⟨n - m - 1, by omega⟩
    obtain ⟨x, hx⟩ : ∃ x, W[i]? = some x := ⟨W[i], List.getElem?_eq_getElem (by omega)⟩
    have hxm := backs_at (q := m) (by omega) hx
    refine gk_say 3 (.int .i64 ((i : Nat) : Int)) rfl (by first | (congr 1; done) | (congr 1; omega)) ?_
    refine gk_elem (enc := WE) (L := W) i mE (by omega) (by decide) (fun b2 o2 y2 eA2 hy2 => ?_)
    subst eA2
    obtain rfl : x = y2 := by rw [hx] at hy2; exact Option.some.inj hy2
    (repeat' (first | (refine gG ?_; try intro _) | ((first | refine g_split rfl rfl tE (fun _ => ?_) (fun _ => ?_) | refine gk_cond rfl rfl tE (fun _ => ?_) (fun _ => ?_)) <;> (try first | (exfalso; omega; done) | (rename_i hx; exact absurd rfl hx) | (rename_i hx; cases hx; done)))))
    refine g_say 16 x.val rfl rfl ?_
    refine g_yield Γ t (fun b t2 => (b = true → Iv (m + 1) t2) ∧ (b = false → Dn t2)) rfl rfl rfl rfl rfl rfl (fun w hk => hY m (i, x) t w hxm hiv (hk.outM (fun b hb => finE_in b hb) mE)) (by intro _; first | ((repeat (first | with_reducible exact Upd.here _ | with_reducible apply Upd.there)); done) | ((repeat (first | exact Upd.here _ | apply Upd.there)); done) | fail) (fun b t2 hJ => ?_)
    cases b with
    | true =>
      (repeat (refine gG ?_; try intro _))
      refine gk_say 3 (.int .i64 ((n : Int) - 1 - ((m + 1 : Nat) : Int))) rfl (by congr 1; omega) ?_
      refine gk_again_sel rfl (m + 1, t2) ⟨hlt, hJ.1 rfl⟩ (by dsimp only; omega) (by repeat (first | exact trivial | refine ⟨rfl, ?_⟩)) sA sS
    | false =>
      (repeat (refine gG ?_; try intro _))
      refine gk_ret hT rfl rfl .nil (fun w' hk => ?_)
      exact ⟨⟨_, rfl⟩, t2, hk.outM (fun b hb => finE_in b hb) mE, .inr (hJ.2 rfl)⟩
  · obtain rfl : m = n := by omega
    refine gk_say 3 (.int .i64 (-1)) rfl (by congr 1; omega) ?_
    (repeat' (first | (refine gG ?_; try intro _) | ((first | refine g_split rfl rfl tE (fun _ => ?_) (fun _ => ?_) | refine gk_cond rfl rfl tE (fun _ => ?_) (fun _ => ?_)) <;> (try first | (exfalso; omega; done) | (rename_i hx; exact absurd rfl hx) | (rename_i hx; cases hx; done)))))
    refine gk_fin hT rfl rfl .nil (fun w' hk => ?_)
    exact ⟨⟨_, rfl⟩, t, hk.outM (fun b hb => finE_in b hb) mE, .inl (by rw [backs_len, ← hn]; exact hiv)⟩
end Go.Proofs.YtokhfkbbhdaghaaGreat.Dk
