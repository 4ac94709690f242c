/- The law CheckFine. -/
import Derived.Test.YtahfjkibononfaaCg
namespace Go.Proofs.Ytahfjkibononfaa.Ck
open Go.RowKit Mem Nd Gx Sk Tw Wk
open Tr hiding T row
set_option linter.unusedVariables false
set_option linter.unusedSimpArgs false
set_option maxRecDepth 100000
set_option maxHeartbeats 1000000
theorem checkFine_any (A : Option Addr) (n c : Nat) (L : List OpD) (w : World) (hs0 : (SlV.mk A n c).Ok L.length) (hL : Sl w A 5 CE L) (hbd : ∀ o ∈ L, o.e.k.Bd) :
    Calls Try.prog 6 [.slice A n c].toArray w fun e' w' => e' = .returned (.bool true) ∧ Below w.heap.size w w' := by
  have hn : n = L.length := hs0.n
  have hn9 : n ≤ 9223372036854775807 := by
    have h1 : n ≤ c := hs0.c
    have h2 : c ≤ maxLen := hs0.mx
    unfold maxLen at h2; omega
  refine g_enter0 T [] [] [sl A 5 CE L] Try.func6 rfl Try.ntmps6 rfl ((Kn.start w).argR hL (by decide) (fun _ h => by cases h)) ?_
  by_cases h150 : 150 < n
  · (repeat' (first | (refine gG ?_; try intro _) | ((first | refine g_split rfl rfl tE (fun _ => ?_) (fun _ => ?_) | refine gk_cond rfl rfl tE (fun _ => ?_) (fun _ => ?_)) <;> (try first | (exfalso; omega; done) | (rename_i hx; exact absurd rfl hx) | (rename_i hx; cases hx; done)))))
    refine gk_ret hT rfl rfl (.tmp rfl .nil) (fun w' hk => ?_)
    exact ⟨rfl, hk.toBelow⟩
  · (repeat' (first | (refine gG ?_; try intro _) | ((first | refine g_split rfl rfl tE (fun _ => ?_) (fun _ => ?_) | refine gk_cond rfl rfl tE (fun _ => ?_) (fun _ => ?_)) <;> (try first | (exfalso; omega; done) | (rename_i hx; exact absurd rfl hx) | (rename_i hx; cases hx; done)))))
    rename_i tg
    refine gk_der [] (φ := stF none) (Der.all fun x hx => by cases hx) (List.nil_subset _) ?_
    refine gk_loop_sel (fun (q : (Option AT) × (List EntD) × Nat) => match q with | (a, M, i) => (HasO a M ∧ M.length ≤ i ∧ i ≤ n ∧ ∀ e ∈ M, e.k.Bd)) (fun (q : (Option AT) × (List EntD) × Nat) => match q with | (a, M, i) => [(0, .slice A n c), (3, .pointer (some ⟨tg, 0, none⟩)), (4, .int .i64 i)]) (fun (q : (Option AT) × (List EntD) × Nat) => match q with | (a, M, i) => [blk tg [rootV a, .int .i64 (M.length : Int)] 63]) (fun (q : (Option AT) × (List EntD) × Nat) => match q with | (a, M, i) => [stF a, sl A 5 CE L]) (fun (q : (Option AT) × (List EntD) × Nat) => match q with | (a, M, i) => n - i) (none, [], 0) rfl ⟨rfl, Nat.zero_le _, Nat.zero_le _, fun e he => (by cases he)⟩ (by repeat (first | exact trivial | refine ⟨rfl, ?_⟩)) sA sS ?_
    rintro ⟨a, M, i⟩ hI
    replace hI : (HasO a M ∧ M.length ≤ i ∧ i ≤ n ∧ ∀ e ∈ M, e.k.Bd) := hI
    change GK _ _ [(0, .slice A n c), (3, .pointer (some ⟨tg, 0, none⟩)), (4, .int .i64 i)] [blk tg [rootV a, .int .i64 (M.length : Int)] 63] [stF a, sl A 5 CE L]
    obtain ⟨hh, hMi, hin, hMb⟩ := hI
    by_cases hlt : i < n
    · obtain ⟨y, hy⟩ : ∃ y, L[i]? = some y := ⟨L[i], List.getElem?_eq_getElem (by omega)⟩
      have hyb := hbd y (List.mem_of_getElem? hy)
      refine gk_elem (enc := CE) (L := L) i mE (by omega) (by decide) (fun b1 o1 y1 eA hy1 => ?_)
      subst eA
      obtain rfl : y = y1 := by rw [hy] at hy1; exact Option.some.inj hy1
      obtain ⟨del, e⟩ := y
      cases del with
      | true =>
        (repeat' (first | (refine gG ?_; try intro _) | ((first | refine g_split rfl rfl tE (fun _ => ?_) (fun _ => ?_) | refine gk_cond rfl rfl tE (fun _ => ?_) (fun _ => ?_)) <;> (try first | (exfalso; omega; done) | (rename_i hx; exact absurd rfl hx) | (rename_i hx; cases hx; done)))))
        refine g_say 26 (.pointer (some ⟨b1, o1 + i * 5 + 1, none⟩)) rfl rfl ?_
        (repeat (refine gG ?_; try intro _))
        refine g_mv rfl ?_; refine mv_call_rx (fun w hk => st_delete a M e.k tg w hh (by omega) (hk.pO (blk tg [rootV a, .int .i64 (M.length : Int)] 63) mE) (hk.rR mE) (fun h => hk.disR (blk tg [rootV a, .int .i64 (M.length : Int)] 63) mE (stF a) mE tg rfl h)) rfl rfl rfl rfl rfl (by kernel_rfl) (by intro _; first | ((repeat (first | with_reducible exact Upd.here _ | with_reducible apply Upd.there)); done) | ((repeat (first | exact Upd.here _ | apply Upd.there)); done) | fail) sS (fun _ => rfl) (fun s hs hnw => ?_)
        have hM2 : s.M.length ≤ M.length + 1 ∧ ∀ x ∈ s.M, x.k.Bd := by
          obtain ⟨p, hp, hM, _⟩ := hs.p
          rw [hM]
          exact ⟨Nat.le_succ_of_le (delAt_len (by have := hp.le; rw [List.length_map] at this; exact this)).1, fun x hx => hMb x (delAt_mem hx)⟩
        (repeat (refine gG ?_; try intro _))
        refine g_mv rfl ?_; refine mv_call_bel (fun w hk => ctree_has s.a s.M tg (s.M.length : Int) w hs.has (by omega) hM2.2 (hk.rO (φ := blk tg [rootV s.a, .int .i64 (s.M.length : Int)] 63) mE) (hk.rR (φ := stF s.a) mE)) rfl rfl rfl rfl rfl (by kernel_rfl) ?_
        rw [if_pos rfl]
        (repeat' (first | (refine gG ?_; try intro _) | ((first | refine g_split rfl rfl tE (fun _ => ?_) (fun _ => ?_) | refine gk_cond rfl rfl tE (fun _ => ?_) (fun _ => ?_)) <;> (try first | (exfalso; omega; done) | (rename_i hx; exact absurd rfl hx) | (rename_i hx; cases hx; done)))))
        refine gk_again_sel rfl (s.a, s.M, i + 1) ⟨hs.has, by omega, by omega, hM2.2⟩ (by dsimp only; omega) (by repeat (first | exact trivial | refine ⟨rfl, ?_⟩)) sA sS
      | false =>
        (repeat' (first | (refine gG ?_; try intro _) | ((first | refine g_split rfl rfl tE (fun _ => ?_) (fun _ => ?_) | refine gk_cond rfl rfl tE (fun _ => ?_) (fun _ => ?_)) <;> (try first | (exfalso; omega; done) | (rename_i hx; exact absurd rfl hx) | (rename_i hx; cases hx; done)))))
        refine g_mv rfl ?_; refine mv_call_rx (fun w hk => st_set a M e tg w hh (by omega) (hk.pO (blk tg [rootV a, .int .i64 (M.length : Int)] 63) mE) (hk.rR mE) (fun h => hk.disR (blk tg [rootV a, .int .i64 (M.length : Int)] 63) mE (stF a) mE tg rfl h)) rfl rfl rfl rfl rfl (by kernel_rfl) (by intro _; first | ((repeat (first | with_reducible exact Upd.here _ | with_reducible apply Upd.there)); done) | ((repeat (first | exact Upd.here _ | apply Upd.there)); done) | fail) sS (fun _ => rfl) (fun s hs hnw => ?_)
        have hM2 : s.M.length ≤ M.length + 1 ∧ ∀ x ∈ s.M, x.k.Bd := by
          obtain ⟨p, hp, hM, _⟩ := hs.p
          rw [hM]
          refine ⟨(setAt_len (by have := hp.le; rw [List.length_map] at this; exact this)).2, fun x hx => ?_⟩
          rcases setAt_mem hx with rfl | hx
          · exact hyb
          · exact hMb x hx
        (repeat (refine gG ?_; try intro _))
        refine g_mv rfl ?_; refine mv_call_bel (fun w hk => ctree_has s.a s.M tg (s.M.length : Int) w hs.has (by omega) hM2.2 (hk.rO (φ := blk tg [rootV s.a, .int .i64 (s.M.length : Int)] 63) mE) (hk.rR (φ := stF s.a) mE)) rfl rfl rfl rfl rfl (by kernel_rfl) ?_
        rw [if_pos rfl]
        (repeat' (first | (refine gG ?_; try intro _) | ((first | refine g_split rfl rfl tE (fun _ => ?_) (fun _ => ?_) | refine gk_cond rfl rfl tE (fun _ => ?_) (fun _ => ?_)) <;> (try first | (exfalso; omega; done) | (rename_i hx; exact absurd rfl hx) | (rename_i hx; cases hx; done)))))
        refine gk_again_sel rfl (s.a, s.M, i + 1) ⟨hs.has, by omega, by omega, hM2.2⟩ (by dsimp only; omega) (by repeat (first | exact trivial | refine ⟨rfl, ?_⟩)) sA sS
    · (repeat' (first | (refine gG ?_; try intro _) | (refine g_mv rfl ?_; first | refine mv_call_bel (fun w hk => alive35_any w) rfl rfl rfl rfl rfl (by kernel_rfl) ?_) | ((first | refine g_split rfl rfl tE (fun _ => ?_) (fun _ => ?_) | refine gk_cond rfl rfl tE (fun _ => ?_) (fun _ => ?_)) <;> (try first | (exfalso; omega; done) | (rename_i hx; exact absurd rfl hx) | (rename_i hx; cases hx; done)))))
      refine gk_ret hT rfl rfl (.tmp rfl .nil) (fun w' hk => ?_)
      exact ⟨rfl, hk.toBelow⟩
end Go.Proofs.Ytahfjkibononfaa.Ck

