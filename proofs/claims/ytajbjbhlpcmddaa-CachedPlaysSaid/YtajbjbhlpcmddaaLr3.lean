/- Pages by places: touch, oldest, Drop, Put. -/
import Derived.Test.YtajbjbhlpcmddaaLr2
namespace Go.Proofs.Ytajbjbhlpcmddaa.Dk
open Go.RowKit Mem Gx Bytes
set_option linter.unusedVariables false
set_option linter.unusedSimpArgs false
set_option maxRecDepth 100000
set_option maxHeartbeats 1000000
theorem touch_any (c r mo now hit miss : Nat) (M : List Itm) (at' : Int) (bA : Option Addr) (bn bc : Nat) (L : List Int) (w : World) (h9 : now ≤ 100000) (h : Rd1 w (packF [blk c [.map (some r), .int .i64 (mo : Nat), .int .u64 (now : Nat), .int .i64 (hit : Nat), .int .i64 (miss : Nat)] 103, mpk r (Value.int .i64) (vals M)])) :
    Calls Try.prog 56 [.pointer (some ⟨c, 0, none⟩), .int .i64 at', .slice bA bn bc].toArray w (RetM (packF [blk c [.map (some r), .int .i64 (mo : Nat), .int .u64 (now : Nat), .int .i64 (hit : Nat), .int .i64 (miss : Nat)] 103, mpk r (Value.int .i64) (vals M)]) (fun _ : Unit => True) (fun _ => .tuple #[]) (fun _ => packF [blk c [.map (some r), .int .i64 (mo : Nat), .int .u64 ((now + 1 : Nat) : Int), .int .i64 (hit : Nat), .int .i64 (miss : Nat)] 103, mpk r (Value.int .i64) (vals (setI at' (⟨⟨bA, bn, bc⟩, L, now + 1⟩ : ItD) M))]) w) := by
  refine g_enter0 T (finE (packF [blk c [.map (some r), .int .i64 (mo : Nat), .int .u64 (now : Nat), .int .i64 (hit : Nat), .int .i64 (miss : Nat)] 103, mpk r (Value.int .i64) (vals M)]) w) [blk c [.map (some r), .int .i64 (mo : Nat), .int .u64 (now : Nat), .int .i64 (hit : Nat), .int .i64 (miss : Nat)] 103, mpk r (Value.int .i64) (vals M)] [] Try.func56 rfl Try.ntmps56 rfl (Kn.startP h (fun b hb => (finE_mem h.2 b).2 hb) (fun ψ hψ => by cases hψ)) ?_
  (repeat (refine gG ?_; try intro _))
  refine gk_any [0] (Cut _ (fun _ : Unit => []) (fun _ => [blk c [.map (some r), .int .i64 (mo : Nat), .int .u64 ((now + 1 : Nat) : Int), .int .i64 (hit : Nat), .int .i64 (miss : Nat)] 103, mpk r (Value.int .i64) (msG at' (itV (⟨⟨bA, bn, bc⟩, L, now + 1⟩ : ItD)) (vals M))]) (fun _ => [])) rfl rfl (by kernel_rfl) ?_ (cut_k fun _ => ?_)
  · skip
    refine gb_take 0 rfl (by decide +kernel) rfl rfl (ys_ev (nw := true) hT rfl sI) sF ?_
    refine gb_take 1 rfl (by decide +kernel) rfl rfl (ys_ev (nw := true) hT rfl sI) sF ?_
    refine gb_take 2 rfl (by decide +kernel) rfl rfl (ys_ev (nw := true) hT rfl sI) sF ?_
    refine gb_take 3 rfl (by decide +kernel) rfl rfl (by first | exact ys_blk hT rfl rfl mE rfl rfl | exact ys_row hT rfl rfl mE rfl rfl | exact ys_row0 hT rfl rfl mE rfl rfl) sF ?_
    refine gb_take 4 rfl (by decide +kernel) rfl rfl (ys_ev (nw := true) hT rfl sI) sF ?_
    refine gb_take 5 rfl (by decide +kernel) rfl rfl (ys_ev (nw := true) hT rfl sI) sF ?_
    refine gb_take 6 rfl (by decide +kernel) rfl rfl (ys_ev (nw := true) hT rfl sI) sF ?_
    refine gb_take 7 rfl (by decide +kernel) rfl rfl (ys_ev (nw := true) hT rfl sI) sF ?_
    refine gb_take 8 rfl (by decide +kernel) rfl rfl (ys_ev (nw := true) hT rfl sI) sF ?_
    refine gb_take 9 rfl (by decide +kernel) rfl rfl (by first | exact ys_blk hT rfl rfl mE rfl rfl | exact ys_row hT rfl rfl mE rfl rfl | exact ys_row0 hT rfl rfl mE rfl rfl) sF ?_
    refine gb_take 10 rfl (by decide +kernel) rfl rfl (ys_ev (nw := true) hT rfl sI) sF ?_
    refine gb_only 11 (by decide +kernel) rfl rfl ?_
    refine mv_mapUpdateG rfl at' rfl rfl rfl rfl rfl Try.underlying101 kok_i (by first | ((repeat (first | with_reducible exact Upd.here _ | with_reducible apply Upd.there)); done) | ((repeat (first | exact Upd.here _ | apply Upd.there)); done) | fail) ?_
    refine ⟨sF, ?_⟩
    refine gb_nil (by decide +kernel) ?_
    exact ⟨(), (by repeat (first | exact trivial | refine ⟨rfl, ?_⟩)), sA, sS⟩
  · rw [ms_vals]
    refine gk_fin hT rfl rfl .nil (fun w' hk => ?_)
    exact RetM.mkP (ll := fun _ : Unit => [blk c [.map (some r), .int .i64 (mo : Nat), .int .u64 ((now + 1 : Nat) : Int), .int .i64 (hit : Nat), .int .i64 (miss : Nat)] 103, mpk r (Value.int .i64) (vals (setI at' (⟨⟨bA, bn, bc⟩, L, now + 1⟩ : ItD) M))]) () trivial rfl hk (fun b hb => (finE_mem h.2 b).1 hb) sA
theorem vals_at {M : List Itm} {i : Nat} {q : Int} {v : Value} (h : (vals M)[i]? = some (q, v)) : ∃ p : Itm, M[i]? = some p ∧ q = p.1 ∧ v = itV p.2 := by
  unfold vals at h
  rw [List.getElem?_map] at h
  cases hp : M[i]? with
  | none => rw [hp] at h; cases h
  | some p =>
    rw [hp] at h
    have := Option.some.inj h
    exact ⟨p, rfl, (Prod.mk.inj this).1.symm, (Prod.mk.inj this).2.symm⟩
/-- How many entries are left. -/
def leftN (n : Nat) (Q : List Nat) : Nat := ((List.range n).filter fun i => decide (i ∉ Q)).length
theorem leftN_lt {n i : Nat} {Q : List Nat} (hi : i < n) (hq : i ∉ Q) : leftN n (i :: Q) < leftN n Q := by
  unfold leftN
  exact filter_lt (fun j => decide (j ∉ Q)) (fun j => decide (j ∉ i :: Q)) (fun x hx => by simp at hx ⊢; exact hx.2) i (by simpa using hq) (by simp) _ (List.mem_range.2 hi)
theorem oldest_any (c r mo now hit miss : Nat) (M : List Itm) (k0 : Int) (x0 : ItD) (w : World) (hm0 : (k0, x0) ∈ M) (h9 : ∀ p ∈ M, p.2.w < 1000000) (ho : ∀ p ∈ M, p.1 = k0 ∨ x0.w < p.2.w) (hC : Rd1 w (blk c [.map (some r), .int .i64 (mo : Nat), .int .u64 (now : Nat), .int .i64 (hit : Nat), .int .i64 (miss : Nat)] 103)) (hM : Rd1 w (mpk r (Value.int .i64) (vals M))) :
    Calls Try.prog 57 [.pointer (some ⟨c, 0, none⟩)].toArray w fun e w' => e = .returned (.int .i64 k0) ∧ Below w.heap.size w w' := by
  obtain ⟨B, ck, hB⟩ := hM.mpc
  refine g_enter0 T [] [] [blk c [.map (some r), .int .i64 (mo : Nat), .int .u64 (now : Nat), .int .i64 (hit : Nat), .int .i64 (miss : Nat)] 103, mpc r (Value.int .i64) (vals M) B ck] Try.func57 rfl Try.ntmps57 rfl (Rds.cons hC (.cons hB .nil)).kn ?_
  refine gk_rowR (g := c) mE ?_
  (repeat (refine gG ?_; try intro _))
  refine g_mv rfl (mv_rangeR rfl rfl rfl Try.underlying101 mE (fun it => ?_))
  (repeat (refine gG ?_; try intro _))
  refine gk_loop_sel (fun (q : Int × Nat × (List Nat)) => match q with | (a, wh, Q) => ((∀ j p, j ∈ Q → M[j]? = some p → wh ≤ p.2.w) ∧ (wh = 18446744073709551615 ∨ ∃ p ∈ M, p.1 = a ∧ p.2.w = wh))) (fun (q : Int × Nat × (List Nat)) => match q with | (a, wh, Q) => [(0, .pointer (some ⟨c, 0, none⟩)), (3, .int .i64 a), (4, .int .u64 (wh : Nat)), (11, .pointer (some ⟨it, 0, none⟩))]) (fun (q : Int × Nat × (List Nat)) => match q with | (a, wh, Q) => [itr it r B ck Q]) (fun (q : Int × Nat × (List Nat)) => match q with | (a, wh, Q) => [row c 0 [.map (some r), .int .i64 (mo : Nat), .int .u64 (now : Nat), .int .i64 (hit : Nat), .int .i64 (miss : Nat)], blk c [.map (some r), .int .i64 (mo : Nat), .int .u64 (now : Nat), .int .i64 (hit : Nat), .int .i64 (miss : Nat)] 103, mpc r (Value.int .i64) (vals M) B ck]) (fun (q : Int × Nat × (List Nat)) => match q with | (a, wh, Q) => leftN M.length Q) (0, 18446744073709551615, []) rfl ⟨fun j p hj => (by cases hj), .inl rfl⟩ (by repeat (first | exact trivial | refine ⟨rfl, ?_⟩)) sA sS ?_
  rintro ⟨a, wh, Q⟩ hI
  replace hI : ((∀ j p, j ∈ Q → M[j]? = some p → wh ≤ p.2.w) ∧ (wh = 18446744073709551615 ∨ ∃ p ∈ M, p.1 = a ∧ p.2.w = wh)) := hI
  change GK _ _ [(0, .pointer (some ⟨c, 0, none⟩)), (3, .int .i64 a), (4, .int .u64 (wh : Nat)), (11, .pointer (some ⟨it, 0, none⟩))] [itr it r B ck Q] [row c 0 [.map (some r), .int .i64 (mo : Nat), .int .u64 (now : Nat), .int .i64 (hit : Nat), .int .i64 (miss : Nat)], blk c [.map (some r), .int .i64 (mo : Nat), .int .u64 (now : Nat), .int .i64 (hit : Nat), .int .i64 (miss : Nat)] 103, mpc r (Value.int .i64) (vals M) B ck]
  obtain ⟨hle, hwh⟩ := hI
  (repeat (refine gG ?_; try intro _))
  refine g_mv rfl (mv_nextR rfl rfl rfl mE (by intro _; first | ((repeat (first | with_reducible exact Upd.here _ | with_reducible apply Upd.there)); done) | ((repeat (first | exact Upd.here _ | apply Upd.there)); done) | fail) (fun hall => ?_) (fun i q v hi hq => ?_))
  · (repeat' (first | (refine gG ?_; try intro _) | ((first | refine g_split rfl rfl tE (fun _ => ?_) (fun _ => ?_) | refine gk_cond rfl rfl tE (fun _ => ?_) (fun _ => ?_)) <;> (try first | (exfalso; omega; done) | (rename_i hx; exact absurd rfl hx) | (rename_i hx; cases hx; done)))))
    rw [vals_len] at hall
    have hk0 : a = k0 := by
      obtain ⟨j, hj⟩ := List.getElem?_of_mem hm0
      have hjl := (List.getElem?_eq_some_iff.1 hj).1
      have h1 := hle j _ (hall j hjl) hj
      have h2 := h9 _ hm0
      dsimp only at h1 h2
      rcases hwh with h3 | ⟨p, hp, rfl, hpw⟩
      · omega
      · rcases ho p hp with h4 | h4
        · exact h4
        · omega
    subst hk0
    refine gk_ret hT rfl rfl (.tmp rfl .nil) (fun w' hk => ?_)
    exact ⟨rfl, hk.toBelow⟩
  · obtain ⟨p, hp, rfl, rfl⟩ := vals_at hi
    have hpm := List.mem_of_getElem? hp
    have hp9 := h9 _ hpm
    obtain ⟨pk, ⟨⟨pA, pn, pc⟩, pL, pw⟩⟩ := p
    (repeat' (first | (refine gG ?_; try intro _) | ((first | refine g_split rfl rfl tE (fun _ => ?_) (fun _ => ?_) | refine gk_cond rfl rfl tE (fun _ => ?_) (fun _ => ?_)) <;> (try first | (exfalso; omega; done) | (rename_i hx; exact absurd rfl hx) | (rename_i hx; cases hx; done)))))
    refine g_mv rfl (mv_entryR rfl rfl rfl mE mE hi ?_)
    refine g_say 14 (.tuple #[.int .i64 pk, .agg #[.slice pA pn pc, .int .u64 (pw : Nat)]]) rfl rfl ?_
    have hq2 : leftN M.length (i :: Q) < leftN M.length Q := leftN_lt (List.getElem?_eq_some_iff.1 hp).1 hq
    by_cases hlt : pw < wh
    · (repeat' (first | (refine gG ?_; try intro _) | ((first | refine g_split rfl rfl tE (fun _ => ?_) (fun _ => ?_) | refine gk_cond rfl rfl tE (fun _ => ?_) (fun _ => ?_)) <;> (try first | (exfalso; omega; done) | (rename_i hx; exact absurd rfl hx) | (rename_i hx; cases hx; done)))))
      rename_i g6
      refine gk_any [0] (Cut _ (fun _ : Unit => [(0, .pointer (some ⟨c, 0, none⟩)), (3, .int .i64 pk), (4, .int .u64 (pw : Nat)), (11, .pointer (some ⟨it, 0, none⟩))]) (fun _ => [itr it r B ck (i :: Q)]) (fun _ => [row c 0 [.map (some r), .int .i64 (mo : Nat), .int .u64 (now : Nat), .int .i64 (hit : Nat), .int .i64 (miss : Nat)], blk c [.map (some r), .int .i64 (mo : Nat), .int .u64 (now : Nat), .int .i64 (hit : Nat), .int .i64 (miss : Nat)] 103, mpc r (Value.int .i64) (vals M) B ck])) rfl rfl (by kernel_rfl) ?_ (cut_k fun _ => ?_)
      · skip
        refine gb_take 0 rfl (by decide +kernel) rfl rfl (ys_ev (nw := true) hT rfl sI) sF ?_
        refine gb_take 1 rfl (by decide +kernel) rfl rfl (ys_ev (nw := true) hT rfl sI) sF ?_
        refine gb_take 2 rfl (by decide +kernel) rfl rfl (by first | exact ys_blk hT rfl rfl mE rfl rfl | exact ys_row hT rfl rfl mE rfl rfl | exact ys_row0 hT rfl rfl mE rfl rfl) sF ?_
        refine gb_take 3 rfl (by decide +kernel) rfl rfl (ys_ev (nw := true) hT rfl sI) sF ?_
        refine gb_take 4 rfl (by decide +kernel) rfl rfl (ys_ev (nw := true) hT rfl sI) sF ?_
        refine gb_nil (by decide +kernel) ?_
        exact ⟨(), (by repeat (first | exact trivial | refine ⟨rfl, ?_⟩)), sA, sS⟩
      · (repeat (refine gG ?_; try intro _))
        refine gk_again_sel rfl (pk, pw, i :: Q) ⟨fun j p hj hp2 => by
          rcases List.mem_cons.1 hj with rfl | hj
          · rw [hp] at hp2
            obtain rfl := Option.some.inj hp2
            exact Nat.le_refl _
          · have := hle j p hj hp2
            show pw ≤ _
            omega, .inr ⟨_, hpm, rfl, rfl⟩⟩ hq2 (by repeat (first | exact trivial | refine ⟨rfl, ?_⟩)) sA sS
    · (repeat' (first | (refine gG ?_; try intro _) | ((first | refine g_split rfl rfl tE (fun _ => ?_) (fun _ => ?_) | refine gk_cond rfl rfl tE (fun _ => ?_) (fun _ => ?_)) <;> (try first | (exfalso; omega; done) | (rename_i hx; exact absurd rfl hx) | (rename_i hx; cases hx; done)))))
      refine gk_again_sel rfl (a, wh, i :: Q) ⟨fun j p hj hp2 => by
          rcases List.mem_cons.1 hj with rfl | hj
          · rw [hp] at hp2
            obtain rfl := Option.some.inj hp2
            show wh ≤ pw
            omega
          · exact hle j p hj hp2, hwh⟩ hq2 (by repeat (first | exact trivial | refine ⟨rfl, ?_⟩)) sA sS
end Go.Proofs.Ytajbjbhlpcmddaa.Dk

