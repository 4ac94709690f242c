/- op: Same of both. -/
import Derived.Test.YteajefmnbalofaaOpD
namespace Go.Proofs.Yteajefmnbalofaa.OpA
open Go.RowKit Mem Gx Sls
set_option linter.unusedVariables false
set_option linter.unusedSimpArgs false
set_option maxRecDepth 100000
set_option maxHeartbeats 4000000
def sameP (a b : OpD) : Prop := a.k = b.k ∧ a.v = b.v ∧ a.i = b.i ∧ a.b = b.b ∧ a.c = b.c ∧ a.p = b.p ∧ a.D = b.D ∧ a.M = b.M
theorem rsame_any (a b : OpD) (w : World) (ha : a.Ok) (hai : a.In w) (hb : b.Ok) (hbi : b.In w) (h9 : a.D.length ≤ 100000000 ∧ a.M.length ≤ 100000000) : Calls Try.prog 40 [a.val, b.val].toArray w fun e w' => e = .returned (.bool (tB (sameP a b))) ∧ Below w.heap.size w w' := by
  obtain ⟨k, v, i, bk, c, p, ⟨A, n, ca⟩, D, ⟨B, m, cm⟩, M⟩ := a
  obtain ⟨k', v', i', bk', c', p', ⟨A', n', ca'⟩, D', ⟨B', m', cm'⟩, M'⟩ := b
  have en : n = D.length := ha.a.n
  have em : m = M.length := ha.m.n
  have en' : n' = D'.length := hb.a.n
  have em' : m' = M'.length := hb.m.n
  have s1 : Sl w A 1 (IE .u8) D := hai.a
  have s2 : Sl w B 1 (IE .i64) M := hai.m
  have s3 : Sl w A' 1 (IE .u8) D' := hbi.a
  have s4 : Sl w B' 1 (IE .i64) M' := hbi.m
  dsimp only at h9
  clear ha hai hb hbi
  refine g_enter0 T [] [] [sl B 1 (IE .i64) M, sl A 1 (IE .u8) D, sl B' 1 (IE .i64) M', sl A' 1 (IE .u8) D'] Try.func40 rfl Try.ntmps40 rfl (((((Kn.start w).argR s3 (by decide) (fun _ h => by cases h)).argR s4 (by decide) (fun _ h => by cases h)).argR s1 (by decide) (fun _ h => by cases h)).argR s2 (by decide) (fun _ h => by cases h)) ?_
  (repeat (refine gG ?_; try intro _))
  rename_i g2 g3
  (repeat' (first | (refine gG ?_; try intro _) | ((first | refine g_split rfl rfl tE (fun _ => ?_) (fun _ => ?_) | refine gk_cond rfl rfl tE (fun _ => ?_) (fun _ => ?_)) <;> (try first | (exfalso; omega; done) | (rename_i hx; exact absurd rfl hx) | (rename_i hx; cases hx; done)))))
  all_goals try
    (refine gk_ret hT rfl rfl (.tmp rfl .nil) (fun w' hk => ?_)
     refine ⟨?_, hk.toBelow⟩
     rw [tB_false (fun h => by
       obtain ⟨e1, e2, e3, e4, e5, e6, e7, e8⟩ := h
       have e7' := congrArg List.length e7
       have e8' := congrArg List.length e8
       dsimp only at *
       omega)]
     rfl)
  rename_i q1 q2 q3 q4 q5 q6 q7 q8
  have z1 : k = k' := Classical.not_not.1 q1
  have z2 : v = v' := Classical.not_not.1 q2
  have z3 : i = i' := Classical.not_not.1 q3
  have z4 : bk = bk' := Classical.not_not.1 q4
  have z5 : c = c' := Classical.not_not.1 q5
  have z6 : p = p' := Classical.not_not.1 q6
  have z7 : (n : Int) = n' := Classical.not_not.1 q7
  have z8 : (m : Int) = m' := Classical.not_not.1 q8
  clear q1 q2 q3 q4 q5 q6 q7 q8
  refine gk_loop (fun j : Nat => j ≤ D.length ∧ ∀ i, i < j → D[i]? = D'[i]?) (fun j => [(2, .pointer (some ⟨g2, 0, none⟩)), (3, .pointer (some ⟨g3, 0, none⟩)), (5, .int .i64 j)])
    (fun _ => [blk g3 [.int .i64 k', .int .i64 v', .int .i64 i', .int .i64 bk', .int .i64 c', .int .u64 p', .slice A' n' ca', .slice B' m' cm'] 39, blk g2 [.int .i64 k, .int .i64 v, .int .i64 i, .int .i64 bk, .int .i64 c, .int .u64 p, .slice A n ca, .slice B m cm] 39]) (fun _ => [sl B 1 (IE .i64) M, sl A 1 (IE .u8) D, sl B' 1 (IE .i64) M', sl A' 1 (IE .u8) D'])
    (fun j => D.length - j) 0 rfl ⟨Nat.zero_le _, fun i hi => absurd hi (Nat.not_lt_zero _)⟩ ⟨rfl, rfl, rfl, trivial⟩ sL sS ?_
  rintro j ⟨hj, hp⟩
  (repeat (refine gG ?_; try intro _))
  refine gk_cond rfl rfl (tells_tB _) (fun h1 => ?_) (fun h1 => ?_)
  · refine gk_elem (enc := IE .u8) (L := D) j mE (by omega) (by decide) (fun b off y eA hy => ?_)
    refine gk_elem (enc := IE .u8) (L := D') j mE (by omega) (by decide) (fun b' off' y' eA' hy' => ?_)
    subst eA
    subst eA'
    (repeat (refine gG ?_; try intro _))
    refine gk_drawn_at [0, 1, 2, 3] rfl rfl (by kernel_rfl) ?_
    (repeat (first | refine ga_nil (by decide +kernel) ?_ | refine ga_take (by decide +kernel) rfl rfl (ys_ev (nw := true) hT rfl sI) sF ?_ | refine ga_skip (by decide +kernel) rfl rfl sF ?_ | refine ga_take (by decide +kernel) rfl rfl (ys_blk hT rfl rfl mE rfl rfl) sF ?_ | refine ga_take (by decide +kernel) rfl rfl (ys_row hT rfl rfl mE rfl rfl) sF ?_ | refine ga_take (by decide +kernel) rfl rfl (ys_row0 hT rfl rfl mE rfl rfl) sF ?_ | (refine ga_mv (by decide +kernel) rfl ?_; (first | (refine mv_box rfl rfl rfl rfl ?_; intro _) | (refine mv_alloc rfl hT rfl rfl ?_; intro _) | refine mv_store hT rfl rfl rfl rfl rfl rfl sO rfl ?_ | (refine mv_buildSlice rfl hT rfl rfl rfl rfl rfl rfl rfl rfl ?_; intro _)); refine ⟨sF, ?_⟩) | refine ga_take (by decide +kernel) rfl rfl (ys_eql rfl rfl rfl rfl rfl (by kernel_rfl)) sF ?_ | refine ga_take (by decide +kernel) rfl rfl (ys_neq rfl rfl rfl rfl rfl (by kernel_rfl)) sF ?_))
    (repeat (refine gG ?_; try intro _))
    refine gk_cond rfl rfl (tells_tB _) (fun h2 => ?_) (fun h2 => ?_)
    · (repeat (refine gG ?_; try intro _))
      refine gk_ret hT rfl rfl (.tmp rfl .nil) (fun w' hk => ?_)
      refine ⟨?_, hk.toBelow⟩
      rw [tB_false (fun h => list_ne hy hy' (fun e => h2 (by subst e; rfl)) h.2.2.2.2.2.2.1)]
      rfl
    · (repeat (refine gG ?_; try intro _))
      refine gk_again rfl (j + 1) ⟨by omega, fun i hi => ?_⟩ (by omega) ⟨rfl, rfl, rfl, trivial⟩ sL sS
      by_cases e : i = j
      · subst e
        rw [hy, hy', show y = y' from Classical.byContradiction h2]
      · exact hp i (by omega)
  · have hD : D = D' := list_eq (by omega) (fun i hi => hp i (by omega))
    (repeat (refine gG ?_; try intro _))
    refine gk_loop (fun j : Nat => j ≤ M.length ∧ ∀ i, i < j → M[i]? = M'[i]?) (fun j => [(2, .pointer (some ⟨g2, 0, none⟩)), (3, .pointer (some ⟨g3, 0, none⟩)), (6, .int .i64 j)])
      (fun _ => [blk g3 [.int .i64 k', .int .i64 v', .int .i64 i', .int .i64 bk', .int .i64 c', .int .u64 p', .slice A' n' ca', .slice B' m' cm'] 39, blk g2 [.int .i64 k, .int .i64 v, .int .i64 i, .int .i64 bk, .int .i64 c, .int .u64 p, .slice A n ca, .slice B m cm] 39]) (fun _ => [sl B 1 (IE .i64) M, sl A 1 (IE .u8) D, sl B' 1 (IE .i64) M', sl A' 1 (IE .u8) D'])
      (fun j => M.length - j) 0 rfl ⟨Nat.zero_le _, fun i hi => absurd hi (Nat.not_lt_zero _)⟩ ⟨rfl, rfl, rfl, trivial⟩ sL sS ?_
    rintro j2 ⟨hj2, hp2⟩
    (repeat (refine gG ?_; try intro _))
    refine gk_cond rfl rfl (tells_tB _) (fun h2 => ?_) (fun h2 => ?_)
    · refine gk_elem (enc := IE .i64) (L := M) j2 mE (by omega) (by decide) (fun b off y eA hy => ?_)
      refine gk_elem (enc := IE .i64) (L := M') j2 mE (by omega) (by decide) (fun b' off' y' eA' hy' => ?_)
      subst eA
      subst eA'
      (repeat (refine gG ?_; try intro _))
      refine gk_drawn_at [0, 1, 2, 3] rfl rfl (by kernel_rfl) ?_
      (repeat (first | refine ga_nil (by decide +kernel) ?_ | refine ga_take (by decide +kernel) rfl rfl (ys_ev (nw := true) hT rfl sI) sF ?_ | refine ga_skip (by decide +kernel) rfl rfl sF ?_ | refine ga_take (by decide +kernel) rfl rfl (ys_blk hT rfl rfl mE rfl rfl) sF ?_ | refine ga_take (by decide +kernel) rfl rfl (ys_row hT rfl rfl mE rfl rfl) sF ?_ | refine ga_take (by decide +kernel) rfl rfl (ys_row0 hT rfl rfl mE rfl rfl) sF ?_ | (refine ga_mv (by decide +kernel) rfl ?_; (first | (refine mv_box rfl rfl rfl rfl ?_; intro _) | (refine mv_alloc rfl hT rfl rfl ?_; intro _) | refine mv_store hT rfl rfl rfl rfl rfl rfl sO rfl ?_ | (refine mv_buildSlice rfl hT rfl rfl rfl rfl rfl rfl rfl rfl ?_; intro _)); refine ⟨sF, ?_⟩) | refine ga_take (by decide +kernel) rfl rfl (ys_eql rfl rfl rfl rfl rfl (by kernel_rfl)) sF ?_ | refine ga_take (by decide +kernel) rfl rfl (ys_neq rfl rfl rfl rfl rfl (by kernel_rfl)) sF ?_))
      (repeat (refine gG ?_; try intro _))
      refine gk_cond rfl rfl (tells_tB _) (fun h3 => ?_) (fun h3 => ?_)
      · (repeat (refine gG ?_; try intro _))
        refine gk_ret hT rfl rfl (.tmp rfl .nil) (fun w' hk => ?_)
        refine ⟨?_, hk.toBelow⟩
        rw [tB_false (fun h => list_ne hy hy' (fun e => h3 (by subst e; rfl)) h.2.2.2.2.2.2.2)]
        rfl
      · (repeat (refine gG ?_; try intro _))
        refine gk_again rfl (j2 + 1) ⟨by omega, fun i hi => ?_⟩ (by omega) ⟨rfl, rfl, rfl, trivial⟩ sL sS
        by_cases e : i = j2
        · subst e
          rw [hy, hy', show y = y' from Classical.byContradiction h3]
        · exact hp2 i (by omega)
    · have hM : M = M' := list_eq (by omega) (fun i hi => hp2 i (by omega))
      (repeat (refine gG ?_; try intro _))
      refine gk_ret hT rfl rfl (.tmp rfl .nil) (fun w' hk => ?_)
      refine ⟨?_, hk.toBelow⟩
      rw [tB_true (show sameP _ _ from ⟨z1, z2, z3, z4, z5, z6, hD, hM⟩)]
      rfl
/-- Both Rights are one. -/
theorem right_eq (o : OpD) : rightB o.k o.v o.i o.b o.c o.D.length (memB o.M) = rrightB o := by
  obtain ⟨k, v, i, b, c, p, a, D, m, M⟩ := o
  unfold rrightB looks mayB
  dsimp only
  by_cases h : 1 ≤ k ∧ k ≤ 19
  · rcases (show k = 1 ∨ k = 2 ∨ k = 3 ∨ k = 4 ∨ k = 5 ∨ k = 6 ∨ k = 7 ∨ k = 8 ∨ k = 9 ∨ k = 10 ∨ k = 11 ∨ k = 12 ∨ k = 13 ∨ k = 14 ∨ k = 15 ∨ k = 16 ∨ k = 17 ∨ k = 18 ∨ k = 19 by omega) with rfl | rfl | rfl | rfl | rfl | rfl | rfl | rfl | rfl | rfl | rfl | rfl | rfl | rfl | rfl | rfl | rfl | rfl | rfl
    all_goals simp [rightB, tB_eq, Bool.and_assoc]
  · rw [tB_false h, Bool.false_and]
    unfold rightB
    repeat' rw [if_neg (by omega)]
    exact tB_false (by omega)
end Go.Proofs.Yteajefmnbalofaa.OpA
