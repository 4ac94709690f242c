/- The law's Step (layer 31). -/
import Derived.Test.YtahfjkibononfaaTh
import Derived.Test.YtahfjkibononfaaTt
import Derived.Test.YtahfjkibononfaaTo
namespace Go.Proofs.Ytahfjkibononfaa.Tw
open Go.RowKit Mem Nd Gx
open Tr hiding T row
set_option linter.unusedVariables false
set_option linter.unusedSimpArgs false
set_option maxRecDepth 100000
set_option maxHeartbeats 4000000
theorem oV_eq (x : Option EntD) : oV x = (x.getD default).val := by cases x <;> rfl
theorem HasO.asc : ∀ {a : Option AT} {L : List EntD}, HasO a L → AscK (keysOf L)
  | none, L, h => by
    obtain rfl : L = [] := h
    exact fun i j _ h2 => absurd h2 (by simp)
  | some a, L, h => Has.asc h
theorem new_mono {w : World} {RA RB : List Fact} {φ : Fact} (h : New w RA φ) (hs : RA ⊆ RB) : New w RB φ := fun b hb => (h b hb).imp id fun ⟨ψ, h1, h2⟩ => ⟨ψ, hs h1, h2⟩
theorem get_was {M : List EntD} {k : KeyD} {p : Nat} {had : Bool} {was : Int} (h1 : had = tB ((keysOf M)[p]? = some k)) (h2 : was = (if had = true then (M.getD p default).a else 0)) : was = ((getV M k p).getD default).a ∧ had = (getV M k p).isSome := by
  unfold getV
  by_cases hf : tB ((keysOf M)[p]? = some k) = true
  · have hlt := (List.getElem?_eq_some_iff.1 (tB_iff.1 hf)).1
    rw [List.length_map] at hlt
    rw [if_pos hf, h2, h1, if_pos hf]
    rw [List.getElem?_eq_getElem hlt, List.getD_eq_getElem?_getD, List.getElem?_eq_getElem hlt]
    exact ⟨rfl, hf⟩
  · rw [if_neg hf, h2, h1, if_neg hf]
    exact ⟨rfl, by cases hb : tB ((keysOf M)[p]? = some k) with | false => rfl | true => exact absurd hb hf⟩
/-- Behind a step. -/
structure StepO where
  a : Option AT
  M : List EntD
  s : SlV
structure StepI (a : Option AT) (M : List EntD) (o : OpD) (r : StepO) : Prop where
  has : HasO r.a r.M
  ok : r.s.Ok r.M.length
  p : ∃ p, PosK (keysOf M) o.e.k p ∧ r.M = (if o.del = true then delAt M o.e.k p else setAt M o.e p) ∧
    ((o.del = true → DelX a o.e.k (tB ((keysOf M)[p]? = some o.e.k)) r.a) ∧ (o.del = false → SetX a o.e r.a))
theorem step_any (a : Option AT) (M : List EntD) (s : SlV) (o : OpD) (tg : Nat) (w : World) (hh : HasO a M) (h9 : M.length ≤ 160) (hs : s.Ok M.length) (hB : w.heap[tg]? = some (.cells [rootV a, .int .i64 (M.length : Int)].toArray 63 (0, 0))) (hF : Rd1 w (stF a)) (hM : Rd1 w (sl s.A 4 EE M)) (hd1 : ¬ (stF a).S tg) (hd2 : ¬ (sl s.A 4 EE M).S tg) :
    Calls Try.prog 35 [.pointer (some ⟨tg, 0, none⟩), .slice s.A s.n s.c, o.val].toArray w (RetX tg 63 (StepI a M o) (fun r => .tuple #[r.s.v, .bool true]) (fun r => [rootV r.a, .int .i64 (r.M.length : Int)]) (fun r => [stF r.a, sl r.s.A 4 EE r.M]) [stF a, sl s.A 4 EE M] w) := by
  obtain ⟨xA, xn, xc⟩ := s
  obtain ⟨del, e⟩ := o
  have hsn : xn = M.length := hs.n
  have ha := hh.asc
  have hk0 : Kn [tg] w w [blk tg [rootV a, .int .i64 (M.length : Int)] 63] [stF a, sl xA 4 EE M] := ((Kn.startW hB).addR _ hM.1 hM.2 (fun φ hφ b hb hb' => by
    obtain rfl := List.mem_singleton.1 hφ
    have : b = tg := hb
    subst this
    exact hd2 hb')).addR _ hF.1 hF.2 (fun φ hφ b hb hb' => by
    obtain rfl := List.mem_singleton.1 hφ
    have : b = tg := hb
    subst this
    exact hd1 hb')
  refine g_enter0 T [tg] [blk tg [rootV a, .int .i64 (M.length : Int)] 63] [stF a, sl xA 4 EE M] Try.func35 rfl Try.ntmps35 rfl hk0 ?_
  (repeat (refine gG ?_; try intro _))
  rename_i g5
  refine g_mv rfl ?_; refine mv_call_rt (fun w hk => rget_any xA xn xc M e.k w hsn (by omega) ha (hk.rR mE)) rfl rfl rfl rfl rfl (by kernel_rfl) (fun _ => rfl) (fun p hp => ?_)
  rw [oV_eq]
  (repeat (refine gG ?_; try intro _))
  rename_i g8
  obtain ⟨z, hz⟩ : ∃ z, z = (getV M e.k p).getD default := ⟨_, rfl⟩
  obtain ⟨zb, hzb⟩ : ∃ zb, zb = (getV M e.k p).isSome := ⟨_, rfl⟩
  rw [← hz, ← hzb]
  cases del with
  | true =>
    (repeat (refine gG ?_; try intro _))
    refine g_mv rfl ?_; refine mv_call_rx (fun w hk => st_delete a M e.k tg w hh (by omega) (hk.pO (blk tg [rootV a, .int .i64 (M.length : Int)] 63) mE) (hk.rR mE) (fun h => hk.disR (blk tg [rootV a, .int .i64 (M.length : Int)] 63) mE (stF a) mE tg rfl h)) rfl rfl rfl rfl rfl (by kernel_rfl) (by intro _; first | ((repeat (first | with_reducible exact Upd.here _ | with_reducible apply Upd.there)); done) | ((repeat (first | exact Upd.here _ | apply Upd.there)); done) | fail) sS (fun _ => rfl) (fun r hr hnr => ?_)
    obtain ⟨p', hp', hrM, hrh, hrw⟩ := hr.p
    obtain rfl := pos_unique hp hp'
    obtain ⟨e1, e2⟩ := get_was hrh hrw
    rw [← hz] at e1
    rw [← hzb] at e2
    (repeat (refine gG ?_; try intro _))
    refine gk_any [0, 1] (Cut _ (fun q : { q : RowV // (q.s.Ok q.M.length ∧ ∃ p, PosK (keysOf M) e.k p ∧ q.M = delAt M e.k p) ∧ New w [sl xA 4 EE M] (sl q.s.A 4 EE q.M) } => [(6, q.1.s.v), (7, .bool true)]) (fun _ => [blk tg [rootV r.a, .int .i64 (r.M.length : Int)] 63]) (fun q => [sl q.1.s.A 4 EE q.1.M, stF r.a])) rfl rfl (by kernel_rfl) ?_ (cut_k fun q => ?_)
    · skip
      refine gb_take 0 rfl (by decide +kernel) rfl rfl (ys_ev (nw := true) hT rfl sI) sF ?_
      refine gb_take 1 rfl (by decide +kernel) rfl rfl (ys_ev (nw := true) hT rfl sI) sF ?_
      refine gb_take 2 rfl (by decide +kernel) rfl rfl (ys_ev (nw := true) hT rfl sI) sF ?_
      refine gb_take 3 rfl (by decide +kernel) rfl rfl (by first | exact ys_blk hT rfl rfl mE rfl rfl | exact ys_row hT rfl rfl mE rfl rfl | exact ys_row0 hT rfl rfl mE rfl rfl) sF ?_
      refine gb_take 5 rfl (by decide +kernel) rfl rfl (ys_ev (nw := true) hT rfl sI) sF ?_
      refine gb_take 6 rfl (by decide +kernel) rfl rfl (ys_ev (nw := true) hT rfl sI) sF ?_
      refine gb_take 7 rfl (by decide +kernel) rfl rfl (by first | exact ys_blk hT rfl rfl mE rfl rfl | exact ys_row hT rfl rfl mE rfl rfl | exact ys_row0 hT rfl rfl mE rfl rfl) sF ?_
      refine gb_take 8 rfl (by decide +kernel) rfl rfl (ys_ev (nw := true) hT rfl sI) sF ?_
      try (refine gb_say 40 (.bool true) rfl (congrArg Value.bool (tB_true e1)) ?_)
      refine gb_only 4 (by decide +kernel) rfl rfl ?_
      refine mv_call_rs (fun w hk => rwithout_any xA xn xc M e.k w hs (by omega) ha (hk.rR mE)) rfl rfl rfl rfl rfl (by kernel_rfl) sS (fun _ => rfl) (fun q hq hnq => ?_)
      refine ⟨sF, ?_⟩
      refine gb_take 9 rfl (by decide +kernel) rfl rfl (ys_ev (nw := true) hT rfl sI) sF ?_
      first | refine gb_take 10 rfl (by decide +kernel) rfl rfl (ys_ev (nw := true) hT rfl sI) sF ?_ | refine gb_skip 10 rfl (by decide +kernel) rfl rfl sF ?_
      first | refine gb_take 11 rfl (by decide +kernel) rfl rfl (ys_ev (nw := true) hT rfl sI) sF ?_ | refine gb_skip 11 rfl (by decide +kernel) rfl rfl sF ?_
      first | refine gb_take 12 rfl (by decide +kernel) rfl rfl (ys_ev (nw := true) hT rfl sI) sF ?_ | refine gb_skip 12 rfl (by decide +kernel) rfl rfl sF ?_
      try (refine gb_say 44 (.bool true) rfl (congrArg Value.bool (tB_true e2)) ?_)
      refine gb_take 13 rfl (by decide +kernel) rfl rfl (ys_ev (nw := true) hT rfl sI) sF ?_
      refine gb_take 14 rfl (by decide +kernel) rfl rfl (ys_ev (nw := true) hT rfl sI) sF ?_
      refine gb_take 15 rfl (by decide +kernel) rfl rfl (ys_ev (nw := true) hT rfl sI) sF ?_
      refine gb_nil (by decide +kernel) ?_
      exact ⟨⟨q, hq, hnq _ (.head _)⟩, (by repeat (first | exact trivial | refine ⟨rfl, ?_⟩)), sA, sS⟩
    · obtain ⟨q, ⟨hq1, p2, hq2, hq3⟩, hq4⟩ := q
      obtain rfl := pos_unique hq2 hp
      (repeat (refine gG ?_; try intro _))
      refine gk_ret hT rfl rfl (.tmp rfl (.tmp rfl .nil)) (fun w' hk => ?_)
      refine RetX.mk ⟨r.a, q.M, q.s⟩ ⟨by show HasO r.a q.M; rw [hq3, ← hrM]; exact hr.has, hq1, p2, hp, by rw [if_pos rfl]; exact hq3, fun _ => by rw [← hrh]; exact hr.x, fun h => by cases h⟩ rfl hk (by
        show SelAll [blk tg [rootV r.a, .int .i64 (q.M.length : Int)] 63] _
        rw [hq3, ← hrM]; exact sA) (.cons (RS1.rdE hk mE (new_mono (hnr _ (.head _)) sS)) (.cons (RS1.rdE hk mE (new_mono hq4 sS)) .nil))
  | false =>
    (repeat (refine gG ?_; try intro _))
    refine g_mv rfl ?_; refine mv_call_rx (fun w hk => st_set a M e tg w hh (by omega) (hk.pO (blk tg [rootV a, .int .i64 (M.length : Int)] 63) mE) (hk.rR mE) (fun h => hk.disR (blk tg [rootV a, .int .i64 (M.length : Int)] 63) mE (stF a) mE tg rfl h)) rfl rfl rfl rfl rfl (by kernel_rfl) (by intro _; first | ((repeat (first | with_reducible exact Upd.here _ | with_reducible apply Upd.there)); done) | ((repeat (first | exact Upd.here _ | apply Upd.there)); done) | fail) sS (fun _ => rfl) (fun r hr hnr => ?_)
    obtain ⟨p', hp', hrM, hrh, hrw⟩ := hr.p
    obtain rfl := pos_unique hp hp'
    obtain ⟨e1, e2⟩ := get_was hrh hrw
    rw [← hz] at e1
    rw [← hzb] at e2
    (repeat (refine gG ?_; try intro _))
    refine gk_any [0, 1] (Cut _ (fun q : { q : RowV // (q.s.Ok q.M.length ∧ ∃ p, PosK (keysOf M) e.k p ∧ q.M = setAt M e p) ∧ New w [sl xA 4 EE M] (sl q.s.A 4 EE q.M) } => [(6, q.1.s.v), (7, .bool true)]) (fun _ => [blk tg [rootV r.a, .int .i64 (r.M.length : Int)] 63]) (fun q => [sl q.1.s.A 4 EE q.1.M, stF r.a])) rfl rfl (by kernel_rfl) ?_ (cut_k fun q => ?_)
    · skip
      refine gb_take 0 rfl (by decide +kernel) rfl rfl (ys_ev (nw := true) hT rfl sI) sF ?_
      refine gb_take 1 rfl (by decide +kernel) rfl rfl (ys_ev (nw := true) hT rfl sI) sF ?_
      refine gb_take 2 rfl (by decide +kernel) rfl rfl (by first | exact ys_blk hT rfl rfl mE rfl rfl | exact ys_row hT rfl rfl mE rfl rfl | exact ys_row0 hT rfl rfl mE rfl rfl) sF ?_
      refine gb_take 4 rfl (by decide +kernel) rfl rfl (ys_ev (nw := true) hT rfl sI) sF ?_
      refine gb_take 5 rfl (by decide +kernel) rfl rfl (ys_ev (nw := true) hT rfl sI) sF ?_
      refine gb_take 6 rfl (by decide +kernel) rfl rfl (by first | exact ys_blk hT rfl rfl mE rfl rfl | exact ys_row hT rfl rfl mE rfl rfl | exact ys_row0 hT rfl rfl mE rfl rfl) sF ?_
      refine gb_take 7 rfl (by decide +kernel) rfl rfl (ys_ev (nw := true) hT rfl sI) sF ?_
      try (refine gb_say 60 (.bool true) rfl (congrArg Value.bool (tB_true e1)) ?_)
      refine gb_only 3 (by decide +kernel) rfl rfl ?_
      refine mv_call_rs (fun w hk => rset_any xA xn xc M e w hs (by omega) ha (hk.rR mE)) rfl rfl rfl rfl rfl (by kernel_rfl) sS (fun _ => rfl) (fun q hq hnq => ?_)
      refine ⟨sF, ?_⟩
      refine gb_take 8 rfl (by decide +kernel) rfl rfl (ys_ev (nw := true) hT rfl sI) sF ?_
      first | refine gb_take 9 rfl (by decide +kernel) rfl rfl (ys_ev (nw := true) hT rfl sI) sF ?_ | refine gb_skip 9 rfl (by decide +kernel) rfl rfl sF ?_
      first | refine gb_take 10 rfl (by decide +kernel) rfl rfl (ys_ev (nw := true) hT rfl sI) sF ?_ | refine gb_skip 10 rfl (by decide +kernel) rfl rfl sF ?_
      first | refine gb_take 11 rfl (by decide +kernel) rfl rfl (ys_ev (nw := true) hT rfl sI) sF ?_ | refine gb_skip 11 rfl (by decide +kernel) rfl rfl sF ?_
      try (refine gb_say 64 (.bool true) rfl (congrArg Value.bool (tB_true e2)) ?_)
      refine gb_take 12 rfl (by decide +kernel) rfl rfl (ys_ev (nw := true) hT rfl sI) sF ?_
      refine gb_take 13 rfl (by decide +kernel) rfl rfl (ys_ev (nw := true) hT rfl sI) sF ?_
      refine gb_take 14 rfl (by decide +kernel) rfl rfl (ys_ev (nw := true) hT rfl sI) sF ?_
      refine gb_nil (by decide +kernel) ?_
      exact ⟨⟨q, hq, hnq _ (.head _)⟩, (by repeat (first | exact trivial | refine ⟨rfl, ?_⟩)), sA, sS⟩
    · obtain ⟨q, ⟨hq1, p2, hq2, hq3⟩, hq4⟩ := q
      obtain rfl := pos_unique hq2 hp
      (repeat (refine gG ?_; try intro _))
      refine gk_ret hT rfl rfl (.tmp rfl (.tmp rfl .nil)) (fun w' hk => ?_)
      refine RetX.mk ⟨r.a, q.M, q.s⟩ ⟨by show HasO r.a q.M; rw [hq3, ← hrM]; exact hr.has, hq1, p2, hp, by rw [if_neg (fun h => by cases h)]; exact hq3, fun h => (by cases h), fun _ => hr.x⟩ rfl hk (by
        show SelAll [blk tg [rootV r.a, .int .i64 (q.M.length : Int)] 63] _
        rw [hq3, ← hrM]; exact sA) (.cons (RS1.rdE hk mE (new_mono (hnr _ (.head _)) sS)) (.cons (RS1.rdE hk mE (new_mono hq4 sS)) .nil))
end Go.Proofs.Ytahfjkibononfaa.Tw

