/- op: the reference's Right. -/
import Derived.Test.YteajefmnbalofaaOpB
namespace Go.Proofs.Yteajefmnbalofaa.OpA
open Go.RowKit Mem Gx
set_option linter.unusedVariables false
set_option linter.unusedSimpArgs false
set_option maxRecDepth 100000
set_option maxHeartbeats 2000000
theorem looks_len (k : Int) : (looks k).length ≤ 3 := by
  unfold looks
  repeat' split
  all_goals (simp only [List.length_cons, List.length_nil]; omega)
theorem rright_any (o : OpD) (w : World) (ho : o.Ok) (hi : o.In w) (h9 : o.M.length ≤ 9223372036854775807) : Calls Try.prog 11 [o.val].toArray w fun e w' => e = .returned (.bool (rrightB o)) ∧ Below w.heap.size w w' := by
  refine g_enter0 T [] [] [sl o.m.A 1 (IE .i64) o.M, sl o.a.A 1 (IE .u8) o.D] Try.func11 rfl Try.ntmps11 rfl (((Kn.start w).argR hi.a (by decide) (fun _ h => by cases h)).argR hi.m (by decide) (fun _ h => by cases h)) ?_
  (repeat' (first | (refine gG ?_; try intro _) | (refine g_mv rfl ?_; first | refine mv_call_bel (fun w hk => looks_any _ w) rfl rfl rfl rfl rfl (by kernel_rfl) ?_) | ((first | refine g_split rfl rfl tE (fun _ => ?_) (fun _ => ?_) | refine gk_cond rfl rfl tE (fun _ => ?_) (fun _ => ?_)) <;> (try first | (exfalso; omega; done) | (rename_i hx; exact absurd rfl hx) | (rename_i hx; cases hx; done)))))
  rename_i g
  have h3 : (looks o.k).length ≤ 3 := looks_len o.k
  refine gk_loop (fun s : Nat × Bool => s.1 ≤ (looks o.k).length ∧ s.2 = (tB (1 ≤ o.k ∧ o.k ≤ 19) && ((looks o.k).take s.1).all (fun c => mayB o c))) (fun s => [(1, .pointer (some ⟨g, 0, none⟩)), (3, .string (strOf (looks o.k))), (4, .bool s.2), (5, .int .i64 s.1)])
    (fun _ => [blk g [.int .i64 o.k, .int .i64 o.v, .int .i64 o.i, .int .i64 o.b, .int .i64 o.c, .int .u64 o.p, o.a.v, o.m.v] 39]) (fun _ => [sl o.m.A 1 (IE .i64) o.M, sl o.a.A 1 (IE .u8) o.D]) (fun s => (looks o.k).length - s.1) (0, tB (1 ≤ o.k ∧ o.k ≤ 19)) rfl ⟨Nat.zero_le _, by simp⟩ ⟨rfl, rfl, rfl, rfl, trivial⟩ sL sS ?_
  rintro ⟨i, ok⟩ ⟨hle, hok⟩
  dsimp only at hle hok
  (repeat (refine gG ?_; try intro _))
  refine gk_cond rfl rfl (tells_tB _) (fun h1 => ?_) (fun h1 => ?_)
  · rw [strOf_size] at h1
    have hil : i < (looks o.k).length := by omega
    obtain ⟨x, hx⟩ : ∃ x, (looks o.k)[i]? = some x := ⟨_, List.getElem?_eq_getElem hil⟩
    have hx9 : x < 256 := looks_lt _ x (List.mem_of_getElem? hx)
    refine gk_drawn_at [0, 1] rfl rfl (by kernel_rfl) ?_
    cases ok with
    | false =>
      (repeat (first | refine ga_nil (by decide +kernel) ?_ | refine ga_take (by decide +kernel) rfl rfl (ys_ev (nw := true) hT rfl sI) sF ?_ | refine ga_skip (by decide +kernel) rfl rfl sF ?_ | refine ga_take (by decide +kernel) rfl rfl (ys_blk hT rfl rfl mE rfl rfl) sF ?_ | refine ga_take (by decide +kernel) rfl rfl (ys_row hT rfl rfl mE rfl rfl) sF ?_ | refine ga_take (by decide +kernel) rfl rfl (ys_row0 hT rfl rfl mE rfl rfl) sF ?_ | (refine ga_mv (by decide +kernel) rfl ?_; (first | (refine mv_box rfl rfl rfl rfl ?_; intro _) | (refine mv_alloc rfl hT rfl rfl ?_; intro _) | refine mv_store hT rfl rfl rfl rfl rfl rfl sO rfl ?_ | (refine mv_buildSlice rfl hT rfl rfl rfl rfl rfl rfl rfl rfl ?_; intro _)); refine ⟨sF, ?_⟩) | refine ga_take (by decide +kernel) rfl rfl (ys_eql rfl rfl rfl rfl rfl (by kernel_rfl)) sF ?_ | refine ga_take (by decide +kernel) rfl rfl (ys_neq rfl rfl rfl rfl rfl (by kernel_rfl)) sF ?_))
      (repeat (refine gG ?_; try intro _))
      refine gk_again rfl (i + 1, false) ⟨by dsimp only; omega, ?_⟩ (by dsimp only; omega) ⟨rfl, rfl, rfl, rfl, trivial⟩ sL sS
      dsimp only
      rw [all_take hx, ← Bool.and_assoc, ← hok]
      rfl
    | true =>
      (repeat (first | refine ga_nil (by decide +kernel) ?_ | refine ga_take (by decide +kernel) rfl rfl (ys_ev (nw := true) hT rfl sI) sF ?_ | refine ga_skip (by decide +kernel) rfl rfl sF ?_ | refine ga_take (by decide +kernel) rfl rfl (ys_blk hT rfl rfl mE rfl rfl) sF ?_ | refine ga_take (by decide +kernel) rfl rfl (ys_row hT rfl rfl mE rfl rfl) sF ?_ | refine ga_take (by decide +kernel) rfl rfl (ys_row0 hT rfl rfl mE rfl rfl) sF ?_ | (refine ga_mv (by decide +kernel) rfl ?_; (first | (refine mv_box rfl rfl rfl rfl ?_; intro _) | (refine mv_alloc rfl hT rfl rfl ?_; intro _) | refine mv_store hT rfl rfl rfl rfl rfl rfl sO rfl ?_ | (refine mv_buildSlice rfl hT rfl rfl rfl rfl rfl rfl rfl rfl ?_; intro _)); refine ⟨sF, ?_⟩) | refine ga_take (by decide +kernel) rfl rfl (ys_eql rfl rfl rfl rfl rfl (by kernel_rfl)) sF ?_ | refine ga_take (by decide +kernel) rfl rfl (ys_neq rfl rfl rfl rfl rfl (by kernel_rfl)) sF ?_))
      refine ga_take (by decide +kernel) rfl rfl (ys_index (jj := (i : Int)) hT rfl rfl rfl (by omega) (idxV_str rfl (strOf_get hx))) sF ?_
      refine ga_mv (by decide +kernel) rfl ?_
      refine mv_call_bel (fun w hk => may_any o _ w ho ⟨hk.pR (sl o.a.A 1 (IE .u8) o.D) mE, hk.pR (sl o.m.A 1 (IE .i64) o.M) mE⟩ h9) rfl rfl rfl rfl rfl (by kernel_rfl) ?_
      refine ⟨sF, ?_⟩
      (repeat (first | refine ga_nil (by decide +kernel) ?_ | refine ga_take (by decide +kernel) rfl rfl (ys_ev (nw := true) hT rfl sI) sF ?_ | refine ga_skip (by decide +kernel) rfl rfl sF ?_ | refine ga_take (by decide +kernel) rfl rfl (ys_blk hT rfl rfl mE rfl rfl) sF ?_ | refine ga_take (by decide +kernel) rfl rfl (ys_row hT rfl rfl mE rfl rfl) sF ?_ | refine ga_take (by decide +kernel) rfl rfl (ys_row0 hT rfl rfl mE rfl rfl) sF ?_ | (refine ga_mv (by decide +kernel) rfl ?_; (first | (refine mv_box rfl rfl rfl rfl ?_; intro _) | (refine mv_alloc rfl hT rfl rfl ?_; intro _) | refine mv_store hT rfl rfl rfl rfl rfl rfl sO rfl ?_ | (refine mv_buildSlice rfl hT rfl rfl rfl rfl rfl rfl rfl rfl ?_; intro _)); refine ⟨sF, ?_⟩) | refine ga_take (by decide +kernel) rfl rfl (ys_eql rfl rfl rfl rfl rfl (by kernel_rfl)) sF ?_ | refine ga_take (by decide +kernel) rfl rfl (ys_neq rfl rfl rfl rfl rfl (by kernel_rfl)) sF ?_))
      (repeat (refine gG ?_; try intro _))
      refine gk_again rfl (i + 1, mayB o ((UInt8.ofNat x).toNat : Int)) ⟨by dsimp only; omega, ?_⟩ (by dsimp only; omega) ⟨rfl, rfl, rfl, rfl, trivial⟩ sL sS
      dsimp only
      rw [all_take hx, ← Bool.and_assoc, ← hok, ofNat_toNat hx9]
      rfl
  · rw [strOf_size] at h1
    have hil : i = (looks o.k).length := by omega
    (repeat (refine gG ?_; try intro _))
    refine gk_ret hT rfl rfl (.tmp rfl .nil) (fun w' hk => ?_)
    refine ⟨?_, hk.toBelow⟩
    rw [hok, hil, List.take_length]
    rfl
end Go.Proofs.Yteajefmnbalofaa.OpA
