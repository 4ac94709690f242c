/- pair. -/
import Derived.Test.YtmehbhabheokbaaEx8
namespace Go.Proofs.Ytmehbhabheokbaa.Ex
open Go.RowKit Mem Gx Dd
set_option linter.unusedVariables false
set_option linter.unusedSimpArgs false
set_option maxRecDepth 100000
set_option maxHeartbeats 1000000
/-- What pair says. -/
def PairR (L : List Int) (r : Int × Int × Bool) : Prop := (∃ n m : Nat, pairP L = some (n, m) ∧ r.1 = n ∧ r.2.1 = m ∧ r.2.2 = true) ∨ (pairP L = none ∧ r.2.2 = false)
theorem endsR {a b : List Int} {r1 r2 : Int × Int} (h1 : ReadR a r1) (h2 : ReadR b r2) : (r1.2 = 0 ∧ r2.2 = 0 ∧ r1.1 ≤ 4096 ∧ r2.1 ≤ 4096 ∧ 0 ≤ r1.1 ∧ 0 ≤ r2.1 ∧ endsP a b = some (r1.1.toNat, r2.1.toNat)) ∨ ((r1.2 ≠ 0 ∨ r2.2 ≠ 0 ∨ 4096 < r1.1 ∨ 4096 < r2.1) ∧ endsP a b = none) := by
  rcases h1 with ⟨n, e1, q1, q2, _⟩ | ⟨e1, q1, q2⟩
  · rcases h2 with ⟨m, e2, q3, q4, _⟩ | ⟨e2, q3, q4⟩
    · by_cases hb : n ≤ 4096 ∧ m ≤ 4096
      · refine .inl ⟨q2, q4, by omega, by omega, by omega, by omega, ?_⟩
        unfold endsP
        rw [e1, e2]
        simp only
        rw [if_pos hb, q1, q3]
        rfl
      · refine .inr ⟨by omega, ?_⟩
        unfold endsP
        rw [e1, e2]
        simp only
        rw [if_neg hb]
    · refine .inr ⟨by omega, ?_⟩
      unfold endsP
      rw [e1, e2]
  · refine .inr ⟨by omega, ?_⟩
    unfold endsP
    rw [e1]
theorem ReadR.rng {L : List Int} {r : Int × Int} (h : ReadR L r) : 0 ≤ r.1 ∧ r.1 ≤ 18446744073709551615 ∧ 0 ≤ r.2 := by
  rcases h with ⟨n, _, q1, q2, q3⟩ | ⟨_, q1, q2⟩ <;> omega
theorem xpair_any (L : List Int) (w : World) (hB : Bts L) (h9 : L.length ≤ 1000) :
    Calls Try.prog 112 [.string (strOfNums L)].toArray w (Ret (PairR L) (fun r => .tuple #[.int .i64 r.1, .int .i64 r.2.1, .bool r.2.2]) (fun _ => []) w) := by
  refine g_enter0 T [] [] [] Try.func112 rfl Try.ntmps112 rfl (Kn.start _) ?_
  (repeat (refine gG ?_; try intro _))
  refine gk_say 15 (.int .i64 (L.length : Int)) rfl (by rw [sx_size]) ?_
  refine gk_loop_sel (fun (q : Nat × Unit) => match q with | (i, z) => (i ≤ L.length ∧ ∀ (j : Nat) (x : Int), j < i → L[j]? = some x → x ≠ 45)) (fun (q : Nat × Unit) => match q with | (i, z) => [(0, .string (strOfNums L)), (5, .string (strOfNums L)), (6, .string (strOfNums L)), (15, .int .i64 (L.length : Int)), (16, .int .i64 (i : Int))]) (fun (q : Nat × Unit) => match q with | (i, z) => []) (fun (q : Nat × Unit) => match q with | (i, z) => []) (fun (q : Nat × Unit) => match q with | (i, z) => L.length - i) (0, ()) rfl ⟨Nat.zero_le _, fun j x h => absurd h (Nat.not_lt_zero _)⟩ (by repeat (first | exact trivial | refine ⟨rfl, ?_⟩)) sA sS ?_
  rintro ⟨i, z⟩ hI
  replace hI : (i ≤ L.length ∧ ∀ (j : Nat) (x : Int), j < i → L[j]? = some x → x ≠ 45) := hI
  change GK _ _ [(0, .string (strOfNums L)), (5, .string (strOfNums L)), (6, .string (strOfNums L)), (15, .int .i64 (L.length : Int)), (16, .int .i64 (i : Int))] [] []
  obtain ⟨hi, hno⟩ := hI
  by_cases hlt : i < L.length
  · obtain ⟨y, hy⟩ : ∃ y, L[i]? = some y := ⟨_, List.getElem?_eq_getElem hlt⟩
    have hyb := hB y (List.mem_of_getElem? hy)
    (repeat' (first | (refine gG ?_; try intro _) | ((first | refine g_split rfl rfl tE (fun _ => ?_) (fun _ => ?_) | refine gk_cond rfl rfl tE (fun _ => ?_) (fun _ => ?_)) <;> (try first | (exfalso; omega; done) | (rename_i hx; exact absurd rfl hx) | (rename_i hx; cases hx; done)))))
    refine g_yd rfl rfl (yd_index (jj := (i : Int)) (j := undef) hT rfl rfl rfl (by omega) (idxV_sx rfl hy hyb)) ?_
    by_cases h45 : y = 45
    · have hp : pairP L = endsP (L.take i) (L.drop (i + 1)) := by
        unfold pairP
        rw [fst_of hno (by rw [hy, h45])]
      (repeat' (first | (refine gG ?_; try intro _) | ((first | refine g_split rfl rfl tE (fun _ => ?_) (fun _ => ?_) | refine gk_cond rfl rfl tE (fun _ => ?_) (fun _ => ?_)) <;> (try first | (exfalso; omega; done) | (rename_i hx; exact absurd rfl hx) | (rename_i hx; cases hx; done)))))
      refine gk_any [] (Cut _ (fun _ : Unit => [(5, .string (strOfNums (L.take i))), (6, .string (strOfNums (L.drop (i + 1))))]) (fun _ => []) (fun _ => [])) rfl rfl (by kernel_rfl) ?_ (cut_k fun _ => ?_)
      · skip
        refine gb_take 0 rfl (by decide +kernel) rfl rfl (ys_ev (nw := true) hT rfl sI) sF ?_
        refine gb_take 1 rfl (by decide +kernel) rfl rfl (ys_ev (nw := true) hT rfl sI) sF ?_
        refine gb_take 2 rfl (by decide +kernel) rfl rfl (ys_sx_h (L := L) hT i rfl rfl rfl rfl rfl rfl (by omega)) sF ?_
        refine gb_take 3 rfl (by decide +kernel) rfl rfl (ys_ev (nw := true) hT rfl sI) sF ?_
        refine gb_take 4 rfl (by decide +kernel) rfl rfl (ys_ev (nw := true) hT rfl sI) sF ?_
        refine gb_take 5 rfl (by decide +kernel) rfl rfl (ys_ev (nw := true) hT rfl sI) sF ?_
        refine gb_take 6 rfl (by decide +kernel) rfl rfl (ys_sx_l (L := L) hT (i + 1) rfl rfl rfl rfl rfl (by push_cast; rfl) (by omega)) sF ?_
        refine gb_take 7 rfl (by decide +kernel) rfl rfl (ys_ev (nw := true) hT rfl sI) sF ?_
        refine gb_take 8 rfl (by decide +kernel) rfl rfl (ys_ev (nw := true) hT rfl sI) sF ?_
        refine gb_nil (by decide +kernel) ?_
        exact ⟨(), (by repeat (first | exact trivial | refine ⟨rfl, ?_⟩)), sA, sS⟩
      · (repeat (refine gG ?_; try intro _))
        obtain ⟨a, ha⟩ : ∃ a, a = L.take i := ⟨_, rfl⟩
        obtain ⟨b, hb⟩ : ∃ b, b = L.drop (i + 1) := ⟨_, rfl⟩
        have hBa : Bts a := fun x hx => hB x (List.mem_of_mem_take (ha ▸ hx))
        have hBb : Bts b := fun x hx => hB x (List.mem_of_mem_drop (hb ▸ hx))
        have hla : a.length ≤ 1000 := by rw [ha, List.length_take]; omega
        have hlb : b.length ≤ 1000 := by rw [hb, List.length_drop]; omega
        rw [← ha, ← hb] at hp
        rw [← ha, ← hb]
        refine g_mv rfl ?_; refine mv_call_rt (fun w hk => tread_any a w hBa hla) rfl rfl rfl rfl rfl (by kernel_rfl) (fun _ => rfl) (fun r1 h1 => ?_)
        have q1 := h1.rng
        (repeat (refine gG ?_; try intro _))
        refine g_mv rfl ?_; refine mv_call_rt (fun w hk => tread_any b w hBb hlb) rfl rfl rfl rfl rfl (by kernel_rfl) (fun _ => rfl) (fun r2 h2 => ?_)
        have q2 := h2.rng
        rcases endsR h1 h2 with ⟨e1, e2, e3, e4, e5, e6, e7⟩ | ⟨e1, e2⟩
        · (repeat' (first | (refine gG ?_; try intro _) | ((first | refine g_split rfl rfl tE (fun _ => ?_) (fun _ => ?_) | refine gk_cond rfl rfl tE (fun _ => ?_) (fun _ => ?_)) <;> (try first | (exfalso; omega; done) | (rename_i hx; exact absurd rfl hx) | (rename_i hx; cases hx; done)))))
          refine gk_ret hT rfl rfl (.tmp rfl (.tmp rfl (.tmp rfl .nil))) (fun w' hk => ?_)
          exact Ret.mk ((r1.1, r2.1, true) : Int × Int × Bool) (.inl ⟨r1.1.toNat, r2.1.toNat, hp.trans e7, by show r1.1 = _; omega, by show r2.1 = _; omega, rfl⟩) rfl hk sA
        · (repeat' (first | (refine gG ?_; try intro _) | ((first | refine g_split rfl rfl tE (fun _ => ?_) (fun _ => ?_) | refine gk_cond rfl rfl tE (fun _ => ?_) (fun _ => ?_)) <;> (try first | (exfalso; omega; done) | (rename_i hx; exact absurd rfl hx) | (rename_i hx; cases hx; done)))))
          all_goals (refine gk_ret hT rfl rfl (.tmp rfl (.tmp rfl (.tmp rfl .nil))) (fun w' hk => ?_); exact Ret.mk ((0, 0, false) : Int × Int × Bool) (.inr ⟨hp.trans e2, rfl⟩) rfl hk sA)
    · (repeat' (first | (refine gG ?_; try intro _) | ((first | refine g_split rfl rfl tE (fun _ => ?_) (fun _ => ?_) | refine gk_cond rfl rfl tE (fun _ => ?_) (fun _ => ?_)) <;> (try first | (exfalso; omega; done) | (rename_i hx; exact absurd rfl hx) | (rename_i hx; cases hx; done)))))
      refine gk_say 16 (.int .i64 ((i + 1 : Nat) : Int)) rfl (by first | (congr 1; done) | (congr 1; omega)) ?_
      refine gk_again_sel rfl (i + 1, ()) ⟨by omega, fun j x hj hx => (by
        by_cases e : j = i
        · subst e; rw [hy] at hx; injection hx with hx; rw [← hx]; exact h45
        · exact hno j x (by omega) hx)⟩ (by dsimp only; omega) (by repeat (first | exact trivial | refine ⟨rfl, ?_⟩)) sA sS
  · have hp : pairP L = endsP L L := by
      unfold pairP
      rw [fst_no fun j x hx => hno j x (by have := (List.getElem?_eq_some_iff.1 hx).1; omega) hx]
    (repeat' (first | (refine gG ?_; try intro _) | ((first | refine g_split rfl rfl tE (fun _ => ?_) (fun _ => ?_) | refine gk_cond rfl rfl tE (fun _ => ?_) (fun _ => ?_)) <;> (try first | (exfalso; omega; done) | (rename_i hx; exact absurd rfl hx) | (rename_i hx; cases hx; done)))))
    obtain ⟨a, ha⟩ : ∃ a, a = L := ⟨_, rfl⟩
    obtain ⟨b, hb⟩ : ∃ b, b = L := ⟨_, rfl⟩
    have hBa : Bts a := fun x hx => hB x (ha ▸ hx)
    have hBb : Bts b := fun x hx => hB x (hb ▸ hx)
    have hla : a.length ≤ 1000 := by rw [ha]; exact h9
    have hlb : b.length ≤ 1000 := by rw [hb]; exact h9
    refine g_say 5 (.string (strOfNums a)) rfl (by rw [ha]) ?_
    refine g_say 6 (.string (strOfNums b)) rfl (by rw [hb]) ?_
    refine g_say 32 (.string (strOfNums a)) rfl (by rw [ha]) ?_
    have hp : pairP L = endsP a b := by rw [hp, ha, hb]
    refine g_mv rfl ?_; refine mv_call_rt (fun w hk => tread_any a w hBa hla) rfl rfl rfl rfl rfl (by kernel_rfl) (fun _ => rfl) (fun r1 h1 => ?_)
    have q1 := h1.rng
    (repeat (refine gG ?_; try intro _))
    refine g_mv rfl ?_; refine mv_call_rt (fun w hk => tread_any b w hBb hlb) rfl rfl rfl rfl rfl (by kernel_rfl) (fun _ => rfl) (fun r2 h2 => ?_)
    have q2 := h2.rng
    rcases endsR h1 h2 with ⟨e1, e2, e3, e4, e5, e6, e7⟩ | ⟨e1, e2⟩
    · (repeat' (first | (refine gG ?_; try intro _) | ((first | refine g_split rfl rfl tE (fun _ => ?_) (fun _ => ?_) | refine gk_cond rfl rfl tE (fun _ => ?_) (fun _ => ?_)) <;> (try first | (exfalso; omega; done) | (rename_i hx; exact absurd rfl hx) | (rename_i hx; cases hx; done)))))
      refine gk_ret hT rfl rfl (.tmp rfl (.tmp rfl (.tmp rfl .nil))) (fun w' hk => ?_)
      exact Ret.mk ((r1.1, r2.1, true) : Int × Int × Bool) (.inl ⟨r1.1.toNat, r2.1.toNat, hp.trans e7, by show r1.1 = _; omega, by show r2.1 = _; omega, rfl⟩) rfl hk sA
    · (repeat' (first | (refine gG ?_; try intro _) | ((first | refine g_split rfl rfl tE (fun _ => ?_) (fun _ => ?_) | refine gk_cond rfl rfl tE (fun _ => ?_) (fun _ => ?_)) <;> (try first | (exfalso; omega; done) | (rename_i hx; exact absurd rfl hx) | (rename_i hx; cases hx; done)))))
      all_goals (refine gk_ret hT rfl rfl (.tmp rfl (.tmp rfl (.tmp rfl .nil))) (fun w' hk => ?_); exact Ret.mk ((0, 0, false) : Int × Int × Bool) (.inr ⟨hp.trans e2, rfl⟩) rfl hk sA)
end Go.Proofs.Ytmehbhabheokbaa.Ex

