/- law15: count, set. -/
import Derived.Test.YtdkgmgfadpnhbaaRf8
namespace Go.Proofs.Ytdkgmgfadpnhbaa.Rf
open Go.RowKit Mem Gx Gm KyU Dd
set_option linter.unusedVariables false
set_option linter.unusedSimpArgs false
set_option maxRecDepth 100000
set_option maxHeartbeats 1000000
theorem xcnt_any (A : Option Addr) (n c : Nat) (L : List Int) (x : Int) (w : World) (hn : n = L.length) (h9 : n ≤ 10000) (hs : Rd1 w (sl A 1 (IE .u32) L)) :
    Calls Try.prog 31 [.slice A n c, .int .u32 x].toArray w fun e w' => e = .returned (.int .i64 (L.count x : Int)) ∧ Below w.heap.size w w' := by
  refine g_enter0 T [] [] [sl A 1 (IE .u32) L] Try.func31 rfl Try.ntmps31 rfl (Rds.cons hs .nil).kn ?_
  (repeat (refine gG ?_; try intro _))
  refine gk_loop_sel (fun (q : Nat × Unit) => match q with | (i, z) => (i ≤ n)) (fun (q : Nat × Unit) => match q with | (i, z) => [(0, .slice A n c), (1, .int .u32 x), (5, .int .i64 ((L.take i).count x : Int)), (6, .int .i64 (i : Int))]) (fun (q : Nat × Unit) => match q with | (i, z) => []) (fun (q : Nat × Unit) => match q with | (i, z) => [sl A 1 (IE .u32) L]) (fun (q : Nat × Unit) => match q with | (i, z) => n - i) (0, ()) rfl (Nat.zero_le _) (by repeat (first | exact trivial | refine ⟨rfl, ?_⟩)) sA sS ?_
  rintro ⟨i, z⟩ hI
  replace hI : (i ≤ n) := hI
  change GK _ _ [(0, .slice A n c), (1, .int .u32 x), (5, .int .i64 ((L.take i).count x : Int)), (6, .int .i64 (i : Int))] [] [sl A 1 (IE .u32) L]
  by_cases hlt : i < n
  · obtain ⟨y, hy⟩ : ∃ b, L[i]? = some b := ⟨L[i], List.getElem?_eq_getElem (by omega)⟩
    have htk := takeAt hy
    have hcs := cnt_snoc (L.take i) y x
    rw [← htk] at hcs
    have hcl : (L.take i).count x ≤ i := Nat.le_trans List.count_le_length (by rw [List.length_take]; omega)
    refine gk_elem (enc := IE .u32) (L := L) i mE (by omega) (by decide) (fun g o y' eA hy' => ?_)
    subst eA
    obtain rfl : y = y' := by rw [hy] at hy'; exact Option.some.inj hy'
    by_cases he : y = x
    · rw [if_pos he.symm] at hcs
      (repeat' (first | (refine gG ?_; try intro _) | ((first | refine g_split rfl rfl tE (fun _ => ?_) (fun _ => ?_) | refine gk_cond rfl rfl tE (fun _ => ?_) (fun _ => ?_)) <;> (try first | (exfalso; omega; done) | (rename_i hx; exact absurd rfl hx) | (rename_i hx; cases hx; done)))))
      refine gk_say 5 (.int .i64 ((L.take (i + 1)).count x : Int)) rfl (by rw [hcs]; push_cast; rfl) ?_
      refine gk_say 6 (.int .i64 ((i + 1 : Nat) : Int)) rfl (by first | (congr 1; done) | (congr 1; omega)) ?_
      refine gk_again_sel rfl (i + 1, ()) (by omega) (by dsimp only; omega) (by repeat (first | exact trivial | refine ⟨rfl, ?_⟩)) sA sS
    · rw [if_neg (fun h => he h.symm), Nat.add_zero] at hcs
      (repeat' (first | (refine gG ?_; try intro _) | ((first | refine g_split rfl rfl tE (fun _ => ?_) (fun _ => ?_) | refine gk_cond rfl rfl tE (fun _ => ?_) (fun _ => ?_)) <;> (try first | (exfalso; omega; done) | (rename_i hx; exact absurd rfl hx) | (rename_i hx; cases hx; done)))))
      refine gk_say 5 (.int .i64 ((L.take (i + 1)).count x : Int)) rfl (by rw [hcs]; rfl) ?_
      refine gk_say 6 (.int .i64 ((i + 1 : Nat) : Int)) rfl (by first | (congr 1; done) | (congr 1; omega)) ?_
      refine gk_again_sel rfl (i + 1, ()) (by omega) (by dsimp only; omega) (by repeat (first | exact trivial | refine ⟨rfl, ?_⟩)) sA sS
  · have ht : L.take i = L := List.take_of_length_le (by omega)
    rw [ht]
    (repeat' (first | (refine gG ?_; try intro _) | ((first | refine g_split rfl rfl tE (fun _ => ?_) (fun _ => ?_) | refine gk_cond rfl rfl tE (fun _ => ?_) (fun _ => ?_)) <;> (try first | (exfalso; omega; done) | (rename_i hx; exact absurd rfl hx) | (rename_i hx; cases hx; done)))))
    refine gk_ret hT rfl rfl (.tmp rfl .nil) (fun w' hk => ?_)
    exact ⟨rfl, hk.toBelow⟩
theorem compU_own (v : Value) (L : List Int) (w : World) (h9 : L.length ≤ 1000000) (h : Rd1 w (own 0 87 1 v (IE .u32) L)) :
    Calls Try.prog 83 [v].toArray w (RetM (own 0 87 1 v (IE .u32) L) (fun s : Value => True) (fun s => s) (fun s => own 0 87 1 s (IE .u32) (dd L)) w) := by
  rcases L with _ | ⟨x, L⟩
  · obtain ⟨A, c, rfl, _⟩ := own_rdv h
    exact (SoU.comp_nil A c w).mono fun e w' ⟨he, hb⟩ => ⟨_, trivial, he, .of_below h hb⟩
  · obtain ⟨b, c, hv, hc, hm⟩ := own_at0 (h.1) (by simp)
    subst hv
    exact (SoU.comp_any b _ c (x :: L) w rfl h9 h).mono fun e w' ⟨_, _, he, hb⟩ => ⟨_, trivial, he, hb⟩
theorem srtU_of {L S : List Int} (hp : S.Perm L) (hs : Pq.SortedIn SoU.lt 0 L.length S) : S = Ex.srt L := Ex.srt_of hp hs
theorem xset_any (A : Option Addr) (n c : Nat) (L : List Int) (w : World) (hn : n = L.length) (h9 : n ≤ 10000) (hs : Rd1 w (sl A 1 (IE .u32) L)) :
    Calls Try.prog 35 [.slice A n c].toArray w (Ret (fun _ : Value => True) (fun v => v) (fun v => [own 0 87 1 v (IE .u32) (setP L)]) w) := by
  refine g_enter0 T [] [] [sl A 1 (IE .u32) L] Try.func35 rfl Try.ntmps35 rfl (Rds.cons hs .nil).kn ?_
  (repeat (refine gG ?_; try intro _))
  refine g_mv rfl ?_; refine mv_call_rt (fun w hk => cloneU_own A n c L w hn (by omega) (hk.pR (sl A 1 (IE .u32) L) mE)) rfl rfl rfl rfl rfl (by kernel_rfl) (fun _ => rfl) (fun v1 _ => ?_)
  (repeat (refine gG ?_; try intro _))
  refine g_mv rfl (mv_call_mod (φ := own 0 87 1 v1 (IE .u32) L) (ψ := fun L' : List Int => own 0 87 1 v1 (IE .u32) L') (fun w1 hk => by exact SoU.sort_any v1 L w1 (by omega) (hk.rO (φ := own 0 87 1 v1 (IE .u32) L) mE)) rfl rfl rfl rfl rfl (by kernel_rfl) (by intro _; first | ((repeat (first | with_reducible exact Upd.here _ | with_reducible apply Upd.there)); done) | ((repeat (first | exact Upd.here _ | apply Upd.there)); done) | fail) (fun S hS => ?_))
  obtain rfl := srtU_of hS.1 hS.2
  clear hS
  have hl := Ex.srt_len L
  (repeat (refine gG ?_; try intro _))
  refine g_mv rfl (mv_call_mod (φ := own 0 87 1 v1 (IE .u32) (Ex.srt L)) (ψ := fun s : Value => own 0 87 1 s (IE .u32) (dd (Ex.srt L))) (fun w1 hk => by exact compU_own v1 (Ex.srt L) w1 (by omega) (hk.rO (φ := own 0 87 1 v1 (IE .u32) (Ex.srt L)) mE)) rfl rfl rfl rfl rfl (by kernel_rfl) (by intro _; first | ((repeat (first | with_reducible exact Upd.here _ | with_reducible apply Upd.there)); done) | ((repeat (first | exact Upd.here _ | apply Upd.there)); done) | fail) (fun v2 _ => ?_))
  (repeat (refine gG ?_; try intro _))
  refine gk_ret hT rfl rfl (.tmp rfl .nil) (fun w' hk => ?_)
  exact Ret.mk v2 trivial rfl hk sA
end Go.Proofs.Ytdkgmgfadpnhbaa.Rf

