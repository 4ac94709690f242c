/- Law 58: until, the walk. -/
import Derived.Test.YtgpfedmfbkhhcaaSd6
namespace Go.Proofs.Ytgpfedmfbkhhcaa.Sd
open Go.RowKit Mem Gx Hp Du Dv OpA
set_option linter.unusedVariables false
set_option linter.unusedSimpArgs false
set_option maxRecDepth 100000
set_option maxHeartbeats 4000000
theorem first_nil (A : Option Addr) (c : Nat) (L : List LrD) (w : World) (hR : RelL L []) (h9 : L.length ≤ 1000) (hs : Rd1 w (sl A 12 LrE L)) :
    Calls Try.prog 14 [.slice A L.length c].toArray w fun e w' => e = .returned (.int .i64 (-1)) ∧ Below w.heap.size w w' :=
  (first_any A L.length c L w rfl h9 hs).mono fun e w' ⟨⟨b, he, hb⟩, h⟩ => ⟨by rw [he, hR.first_nil hb], h⟩
theorem first_cons (A : Option Addr) (c : Nat) (L : List LrD) (y : Tim) (S : List Tim) (w : World) (hR : RelL L (y :: S)) (h9 : L.length ≤ 1000) (hs : Rd1 w (sl A 12 LrE L)) :
    Calls Try.prog 14 [.slice A L.length c].toArray w fun e w' => e = .returned (.int .i64 y.i) ∧ Below w.heap.size w w' :=
  (first_any A L.length c L w rfl h9 hs).mono fun e w' ⟨⟨b, he, hb⟩, h⟩ => ⟨by rw [he, hR.first_cons hb], h⟩
theorem luntil_any (A : Option Addr) (n c : Nat) (L0 : List LrD) (S0 : List Tim) (now0 u most : Int) (w : World) (hok : (⟨A, n, c⟩ : SlV).Ok L0.length) (hR : RelL L0 S0) (h9 : L0.length ≤ 1000) (hm9 : most ≤ 1000) (hru : ∀ x, x ∈ L0 → LrOk x)
    (h : Rd1 w (sl A 12 LrE L0)) (ha : Rd1 w (allF L0 (fun x : LrD => faF x.r.o))) (hm : Rd1 w (allF L0 (fun x : LrD => fmF x.r.o))) :
    Calls Try.prog 7 [.slice A n c, .int .u64 now0, .int .u64 u, .int .i64 most].toArray w (RetS (LuI L0 u most.toNat S0 now0) (fun q : LuD => .tuple #[q.s.v, q.o.v, .int .u64 q.now]) (fun q => [sl q.s.A 12 LrE q.L, sl q.o.A 8 opC q.out, allF q.out faF, allF q.out fmF]) [sl A 12 LrE L0] w) := by
  have hn := hok.n
  dsimp only at hn
  subst hn
  refine g_enter0 T [] [] [sl A 12 LrE L0, allF L0 (fun x : LrD => faF x.r.o), allF L0 (fun x : LrD => fmF x.r.o)] Try.func7 rfl Try.ntmps7 rfl (Rds.cons h (.cons ha (.cons hm .nil))).kn ?_
  refine gk_derO [] [] (φ := allF ([] : List OpD) fmF) der_nil sA ?_
  refine gk_derO [] [allF ([] : List OpD) fmF] (φ := allF ([] : List OpD) faF) der_nil sA ?_
  (repeat (refine gG ?_; try intro _))
  refine gk_own 0 38 8 opC ?_
  refine gk_loop_sel (fun (q : (Option Addr) × Nat × (List LrD) × (List Tim) × Int × (Option Addr) × Nat × (List Nat) × (List OpD)) => match q with | (sA, sc, L, S, now, oA, oc, l, out) => (LuW w A L0 u most.toNat S0 now0 ⟨sA, L.length, sc⟩ L S now l out)) (fun (q : (Option Addr) × Nat × (List LrD) × (List Tim) × Int × (Option Addr) × Nat × (List Nat) × (List OpD)) => match q with | (sA, sc, L, S, now, oA, oc, l, out) => [(0, .slice sA L.length sc), (1, .int .u64 now), (2, .int .u64 u), (3, .int .i64 most), (11, .slice oA out.length oc)]) (fun (q : (Option Addr) × Nat × (List LrD) × (List Tim) × Int × (Option Addr) × Nat × (List Nat) × (List OpD)) => match q with | (sA, sc, L, S, now, oA, oc, l, out) => [own 0 38 8 (.slice oA out.length oc) opC out, allF out faF, allF out fmF]) (fun (q : (Option Addr) × Nat × (List LrD) × (List Tim) × Int × (Option Addr) × Nat × (List Nat) × (List OpD)) => match q with | (sA, sc, L, S, now, oA, oc, l, out) => [sl sA 12 LrE L, sl A 12 LrE L0, allF L0 (fun x : LrD => faF x.r.o), allF L0 (fun x : LrD => fmF x.r.o)]) (fun (q : (Option Addr) × Nat × (List LrD) × (List Tim) × Int × (Option Addr) × Nat × (List Nat) × (List OpD)) => match q with | (sA, sc, L, S, now, oA, oc, l, out) => most.toNat - out.length) (A, c, L0, S0, now0, none, 0, [], []) rfl ⟨hR, Nat.zero_le _, by simp, .nil, rfl, hru, hok, New.self (.head _)⟩ (by repeat (first | exact trivial | refine ⟨rfl, ?_⟩)) sA sS ?_
  rintro ⟨sA, sc, L, S, now, oA, oc, l, out⟩ hI
  replace hI : (LuW w A L0 u most.toNat S0 now0 ⟨sA, L.length, sc⟩ L S now l out) := hI
  change GK _ _ [(0, .slice sA L.length sc), (1, .int .u64 now), (2, .int .u64 u), (3, .int .i64 most), (11, .slice oA out.length oc)] [own 0 38 8 (.slice oA out.length oc) opC out, allF out faF, allF out fmF] [sl sA 12 LrE L, sl A 12 LrE L0, allF L0 (fun x : LrD => faF x.r.o), allF L0 (fun x : LrD => fmF x.r.o)]
  have hLl := hI.same.len
  have hlo := hI.out.len
  by_cases hlt : out.length < most.toNat
  · (repeat (refine gG ?_; try intro _))
    refine gk_cond_t rfl (congrArg some (congrArg Value.bool (tB_true (by omega)))) ?_
    (repeat (refine gG ?_; try intro _))
    rcases S with _ | ⟨y, S⟩
    · refine g_mv rfl ?_; refine mv_call_bel (fun w hk => first_nil sA sc L w hI.rel (by omega) (hk.rR (φ := sl sA 12 LrE L) mE)) rfl rfl rfl rfl rfl (by kernel_rfl) ?_
      have e1 := hI.stop0 hlt
      (repeat' (first | (refine gG ?_; try intro _) | ((first | refine g_split rfl rfl tE (fun _ => ?_) (fun _ => ?_) | refine gk_cond rfl rfl tE (fun _ => ?_) (fun _ => ?_)) <;> (try first | (exfalso; omega; done) | (rename_i hx; exact absurd rfl hx) | (rename_i hx; cases hx; done)))))
      refine gk_ret hT rfl rfl (.tmp rfl (.tmp rfl (.tmp rfl .nil))) (fun w' hk => ?_)
      have hk := hk.freeze (A := oA) (n := out.length) (c := oc) (L := out) rfl (by first | ((repeat (first | with_reducible exact Upd.here _ | with_reducible apply Upd.there)); done) | ((repeat (first | exact Upd.here _ | apply Upd.there)); done) | fail)
      exact RetS.mk (⟨⟨sA, L.length, sc⟩, L, u, ⟨oA, out.length, oc⟩, out⟩ : LuD) ⟨by rw [e1]; exact hI.rel, by rw [e1], by rw [e1]; exact hI.out, hI.same, hI.ok, hI.sok, rfl⟩ rfl hk (.cons (RS1.rd hk mE hI.new) (.cons (RS1.own hk mE) (.cons (RS1.own hk mE) (.cons (RS1.own hk mE) .nil))))
    · refine g_mv rfl ?_; refine mv_call_bel (fun w hk => first_cons sA sc L y S w hI.rel (by omega) (hk.rR (φ := sl sA 12 LrE L) mE)) rfl rfl rfl rfl rfl (by kernel_rfl) ?_
      obtain ⟨b1, b2, x, hx, b4, b5⟩ := hI.rel.b y (.head _)
      have hxo := hI.ok x (List.mem_of_getElem? hx)
      have hstep := fun (s' : SlV) (p : OpD) (hu : ¬ u < y.t) (hp : PlainAt x.r.o (looks x.r.o.k) p) hs hnew => hI.step (s' := s') (p := p) hlt hu hx hp hs hnew
      have hstop := fun hu => hI.stop hlt hu
      obtain ⟨yt, yk, yi⟩ := y
      dsimp only at b1 b2 hx b5 hstep hstop ⊢
      obtain ⟨i, rfl⟩ := Int.eq_ofNat_of_zero_le b2
      rw [Int.toNat_natCast] at hx
      rw [Int.toNat_natCast] at hstep
      subst b1
      subst b5
      have hiL := (List.getElem?_eq_some_iff.1 hx).1
      refine g_elem (A := sA) (enc := LrE) (L := L) i mE hiL (by decide) (fun sb so z eA hz => ?_)
      obtain rfl : x = z := by rw [hx] at hz; exact Option.some.inj hz
      subst eA
      by_cases hu : u < x.t
      · have e1 := hstop hu
        (repeat' (first | (refine gG ?_; try intro _) | ((first | refine g_split rfl rfl tE (fun _ => ?_) (fun _ => ?_) | refine gk_cond rfl rfl tE (fun _ => ?_) (fun _ => ?_)) <;> (try first | (exfalso; omega; done) | (rename_i hx; exact absurd rfl hx) | (rename_i hx; cases hx; done)))))
        refine gk_ret hT rfl rfl (.tmp rfl (.tmp rfl (.tmp rfl .nil))) (fun w' hk => ?_)
        have hk := hk.freeze (A := oA) (n := out.length) (c := oc) (L := out) rfl (by first | ((repeat (first | with_reducible exact Upd.here _ | with_reducible apply Upd.there)); done) | ((repeat (first | exact Upd.here _ | apply Upd.there)); done) | fail)
        exact RetS.mk (⟨⟨some ⟨sb, so, none⟩, L.length, sc⟩, L, u, ⟨oA, out.length, oc⟩, out⟩ : LuD) ⟨by rw [e1]; exact hI.rel, by rw [e1], by rw [e1]; exact hI.out, hI.same, hI.ok, hI.sok, rfl⟩ rfl hk (.cons (RS1.rd hk mE hI.new) (.cons (RS1.own hk mE) (.cons (RS1.own hk mE) (.cons (RS1.own hk mE) .nil))))
      · (repeat' (first | (refine gG ?_; try intro _) | ((first | refine g_split rfl rfl tE (fun _ => ?_) (fun _ => ?_) | refine gk_cond rfl rfl tE (fun _ => ?_) (fun _ => ?_)) <;> (try first | (exfalso; omega; done) | (rename_i hx; exact absurd rfl hx) | (rename_i hx; cases hx; done)))))
        rename_i g13
        obtain ⟨x0, hx0, hr0⟩ := hI.same.at hx
        have d1 : Der [allF L0 (fun x : LrD => faF x.r.o)] (faF x0.r.o) := Der.elem (L := L0) (F := fun x : LrD => faF x.r.o) (x := x0) (Der.mem (.head _)) (List.mem_of_getElem? hx0)
        have d2 : Der [allF L0 (fun x : LrD => fmF x.r.o)] (fmF x0.r.o) := Der.elem (L := L0) (F := fun x : LrD => fmF x.r.o) (x := x0) (Der.mem (.head _)) (List.mem_of_getElem? hx0)
        rw [hr0] at d1 d2
        refine g_der [allF L0 (fun x : LrD => faF x.r.o)] d1 sS ?_
        refine g_der [allF L0 (fun x : LrD => fmF x.r.o)] d2 sS ?_
        refine g_say 41 x.r.o.val rfl rfl ?_
        refine g_mv rfl ?_; refine mv_call_rt (fun w hk => rplain_any x.r.o w hxo.r.o ⟨hk.pR (faF x.r.o) mE, hk.pR (fmF x.r.o) mE⟩ (by have := hxo.r.d; omega) (by have := hxo.r.m; omega)) rfl rfl rfl rfl rfl (by kernel_rfl) (fun _ => rfl) (fun p hp => ?_)
        obtain ⟨pk, pv, pi, pb, pc, pp, ⟨A1, n1, c1⟩, D1, ⟨A2, n2, c2⟩, M1⟩ := p
        dsimp only [OpD.fs, OpD.val] at hp ⊢
        have hst := fun s' => hstep s' (⟨pk, pv, pi, pb, pc, pp, ⟨A1, n1, c1⟩, D1, ⟨A2, n2, c2⟩, M1⟩ : OpD) hu hp
        (repeat (refine gG ?_; try intro _))
        refine g_mv rfl (mv_append (L := out) rfl [(⟨pk, pv, pi, pb, pc, pp, ⟨A1, n1, c1⟩, D1, ⟨A2, n2, c2⟩, M1⟩ : OpD)] rfl rfl rfl rfl elt_Op (by intro _; first | ((repeat (first | with_reducible exact Upd.here _ | with_reducible apply Upd.there)); done) | ((repeat (first | exact Upd.here _ | apply Upd.there)); done) | fail) (src_blk mE rfl) rfl oneOp (by simp only [maxLen, List.length_append, List.length_cons, List.length_nil]; omega) (by simp only [List.length_append, List.length_cons, List.length_nil]; omega) (Nat.zero_le _) ?_)
        intro v2
        refine g_ownv v2 mE (fun A3 c3 hv3 _ _ _ => ?_)
        subst hv3
        have ht0 := hxo.t0
        have ht9 := hxo.t9
        have he0 := hxo.r.e0
        have he9 := hxo.r.e9
        have hsc : L.length ≤ sc := hI.sok.c
        have hlT : (L.take i).length = i := by rw [List.length_take]; omega
        have hlD : (L.drop (i + 1)).length = L.length - (i + 1) := by rw [List.length_drop]
        have hset : ∀ z : LrD, L.take i ++ [z] ++ L.drop (i + 1) = L.set i z := fun z => by rw [List.set_eq_take_append_cons_drop, if_pos hiL, List.append_assoc]; rfl
        by_cases hz : 0 < x.r.e
        · by_cases hov : x.r.e ≤ 18446744073709551615 - x.t
          · (repeat' (first | (refine gG ?_; try intro _) | ((first | refine g_split rfl rfl tE (fun _ => ?_) (fun _ => ?_) | refine gk_cond rfl rfl tE (fun _ => ?_) (fun _ => ?_)) <;> (try first | (exfalso; omega; done) | (rename_i hx; exact absurd rfl hx) | (rename_i hx; cases hx; done)))))
            have hnx : nextL x = (⟨x.r, (x.t + x.r.e), (tB (x.r.e ≤ 18446744073709551615 - x.t))⟩ : LrD) := by unfold nextL; have hb : tB (0 < x.r.e ∧ x.r.e ≤ 18446744073709551615 - x.t) = (tB (x.r.e ≤ 18446744073709551615 - x.t)) := (by rw [tB_true hov]; exact tB_true ⟨hz, hov⟩); rw [hb]; rw [show IntKind.u64.wrap (x.t + x.r.e) = (x.t + x.r.e) % 18446744073709551616 from rfl, show (x.t + x.r.e) % 18446744073709551616 = x.t + x.r.e by omega]
            rw [hnx] at hst
            refine gk_takeS (enc := LrE) (L := L) (A := (some ⟨sb, so, none⟩)) (sz := 12) i sc mE (by omega) ?_
            refine gk_dropS (enc := LrE) (L := L) (A := (some ⟨sb, so, none⟩)) (sz := 12) (i + 1) sc mE (by omega) ?_
            refine gk_derO [allF out faF, faF (⟨pk, pv, pi, pb, pc, pp, ⟨A1, n1, c1⟩, D1, ⟨A2, n2, c2⟩, M1⟩ : OpD)] [blk g13 [LrE (⟨x.r, (x.t + x.r.e), (tB (x.r.e ≤ 18446744073709551615 - x.t))⟩ : LrD) 0, LrE (⟨x.r, (x.t + x.r.e), (tB (x.r.e ≤ 18446744073709551615 - x.t))⟩ : LrD) 1, LrE (⟨x.r, (x.t + x.r.e), (tB (x.r.e ≤ 18446744073709551615 - x.t))⟩ : LrD) 2, LrE (⟨x.r, (x.t + x.r.e), (tB (x.r.e ≤ 18446744073709551615 - x.t))⟩ : LrD) 3, LrE (⟨x.r, (x.t + x.r.e), (tB (x.r.e ≤ 18446744073709551615 - x.t))⟩ : LrD) 4, LrE (⟨x.r, (x.t + x.r.e), (tB (x.r.e ≤ 18446744073709551615 - x.t))⟩ : LrD) 5, LrE (⟨x.r, (x.t + x.r.e), (tB (x.r.e ≤ 18446744073709551615 - x.t))⟩ : LrD) 6, LrE (⟨x.r, (x.t + x.r.e), (tB (x.r.e ≤ 18446744073709551615 - x.t))⟩ : LrD) 7, LrE (⟨x.r, (x.t + x.r.e), (tB (x.r.e ≤ 18446744073709551615 - x.t))⟩ : LrD) 8, LrE (⟨x.r, (x.t + x.r.e), (tB (x.r.e ≤ 18446744073709551615 - x.t))⟩ : LrD) 9, LrE (⟨x.r, (x.t + x.r.e), (tB (x.r.e ≤ 18446744073709551615 - x.t))⟩ : LrD) 10, LrE (⟨x.r, (x.t + x.r.e), (tB (x.r.e ≤ 18446744073709551615 - x.t))⟩ : LrD) 11] 50, own 0 38 8 (.slice A3 (out ++ [(⟨pk, pv, pi, pb, pc, pp, ⟨A1, n1, c1⟩, D1, ⟨A2, n2, c2⟩, M1⟩ : OpD)]).length c3) opC (out ++ [(⟨pk, pv, pi, pb, pc, pp, ⟨A1, n1, c1⟩, D1, ⟨A2, n2, c2⟩, M1⟩ : OpD)]), allF out fmF, fmF (⟨pk, pv, pi, pb, pc, pp, ⟨A1, n1, c1⟩, D1, ⟨A2, n2, c2⟩, M1⟩ : OpD)] (φ := allF (out ++ [(⟨pk, pv, pi, pb, pc, pp, ⟨A1, n1, c1⟩, D1, ⟨A2, n2, c2⟩, M1⟩ : OpD)]) faF) der_snoc sA ?_
            refine gk_derO [allF out fmF, fmF (⟨pk, pv, pi, pb, pc, pp, ⟨A1, n1, c1⟩, D1, ⟨A2, n2, c2⟩, M1⟩ : OpD)] [blk g13 [LrE (⟨x.r, (x.t + x.r.e), (tB (x.r.e ≤ 18446744073709551615 - x.t))⟩ : LrD) 0, LrE (⟨x.r, (x.t + x.r.e), (tB (x.r.e ≤ 18446744073709551615 - x.t))⟩ : LrD) 1, LrE (⟨x.r, (x.t + x.r.e), (tB (x.r.e ≤ 18446744073709551615 - x.t))⟩ : LrD) 2, LrE (⟨x.r, (x.t + x.r.e), (tB (x.r.e ≤ 18446744073709551615 - x.t))⟩ : LrD) 3, LrE (⟨x.r, (x.t + x.r.e), (tB (x.r.e ≤ 18446744073709551615 - x.t))⟩ : LrD) 4, LrE (⟨x.r, (x.t + x.r.e), (tB (x.r.e ≤ 18446744073709551615 - x.t))⟩ : LrD) 5, LrE (⟨x.r, (x.t + x.r.e), (tB (x.r.e ≤ 18446744073709551615 - x.t))⟩ : LrD) 6, LrE (⟨x.r, (x.t + x.r.e), (tB (x.r.e ≤ 18446744073709551615 - x.t))⟩ : LrD) 7, LrE (⟨x.r, (x.t + x.r.e), (tB (x.r.e ≤ 18446744073709551615 - x.t))⟩ : LrD) 8, LrE (⟨x.r, (x.t + x.r.e), (tB (x.r.e ≤ 18446744073709551615 - x.t))⟩ : LrD) 9, LrE (⟨x.r, (x.t + x.r.e), (tB (x.r.e ≤ 18446744073709551615 - x.t))⟩ : LrD) 10, LrE (⟨x.r, (x.t + x.r.e), (tB (x.r.e ≤ 18446744073709551615 - x.t))⟩ : LrD) 11] 50, own 0 38 8 (.slice A3 (out ++ [(⟨pk, pv, pi, pb, pc, pp, ⟨A1, n1, c1⟩, D1, ⟨A2, n2, c2⟩, M1⟩ : OpD)]).length c3) opC (out ++ [(⟨pk, pv, pi, pb, pc, pp, ⟨A1, n1, c1⟩, D1, ⟨A2, n2, c2⟩, M1⟩ : OpD)]), allF (out ++ [(⟨pk, pv, pi, pb, pc, pp, ⟨A1, n1, c1⟩, D1, ⟨A2, n2, c2⟩, M1⟩ : OpD)]) faF] (φ := allF (out ++ [(⟨pk, pv, pi, pb, pc, pp, ⟨A1, n1, c1⟩, D1, ⟨A2, n2, c2⟩, M1⟩ : OpD)]) fmF) der_snoc sA ?_
            refine gk_sel (f' := [(0, .slice (some ⟨sb, so, none⟩) L.length sc), (1, .int .u64 x.t), (2, .int .u64 u), (3, .int .i64 most), (11, .slice A3 (out ++ [(⟨pk, pv, pi, pb, pc, pp, ⟨A1, n1, c1⟩, D1, ⟨A2, n2, c2⟩, M1⟩ : OpD)]).length c3), (12, .int .i64 (i : Int)), (13, .pointer (some ⟨g13, 0, none⟩))]) (O' := [blk g13 [LrE (⟨x.r, (x.t + x.r.e), (tB (x.r.e ≤ 18446744073709551615 - x.t))⟩ : LrD) 0, LrE (⟨x.r, (x.t + x.r.e), (tB (x.r.e ≤ 18446744073709551615 - x.t))⟩ : LrD) 1, LrE (⟨x.r, (x.t + x.r.e), (tB (x.r.e ≤ 18446744073709551615 - x.t))⟩ : LrD) 2, LrE (⟨x.r, (x.t + x.r.e), (tB (x.r.e ≤ 18446744073709551615 - x.t))⟩ : LrD) 3, LrE (⟨x.r, (x.t + x.r.e), (tB (x.r.e ≤ 18446744073709551615 - x.t))⟩ : LrD) 4, LrE (⟨x.r, (x.t + x.r.e), (tB (x.r.e ≤ 18446744073709551615 - x.t))⟩ : LrD) 5, LrE (⟨x.r, (x.t + x.r.e), (tB (x.r.e ≤ 18446744073709551615 - x.t))⟩ : LrD) 6, LrE (⟨x.r, (x.t + x.r.e), (tB (x.r.e ≤ 18446744073709551615 - x.t))⟩ : LrD) 7, LrE (⟨x.r, (x.t + x.r.e), (tB (x.r.e ≤ 18446744073709551615 - x.t))⟩ : LrD) 8, LrE (⟨x.r, (x.t + x.r.e), (tB (x.r.e ≤ 18446744073709551615 - x.t))⟩ : LrD) 9, LrE (⟨x.r, (x.t + x.r.e), (tB (x.r.e ≤ 18446744073709551615 - x.t))⟩ : LrD) 10, LrE (⟨x.r, (x.t + x.r.e), (tB (x.r.e ≤ 18446744073709551615 - x.t))⟩ : LrD) 11] 50, own 0 38 8 (.slice A3 (out ++ [(⟨pk, pv, pi, pb, pc, pp, ⟨A1, n1, c1⟩, D1, ⟨A2, n2, c2⟩, M1⟩ : OpD)]).length c3) opC (out ++ [(⟨pk, pv, pi, pb, pc, pp, ⟨A1, n1, c1⟩, D1, ⟨A2, n2, c2⟩, M1⟩ : OpD)]), allF (out ++ [(⟨pk, pv, pi, pb, pc, pp, ⟨A1, n1, c1⟩, D1, ⟨A2, n2, c2⟩, M1⟩ : OpD)]) faF, allF (out ++ [(⟨pk, pv, pi, pb, pc, pp, ⟨A1, n1, c1⟩, D1, ⟨A2, n2, c2⟩, M1⟩ : OpD)]) fmF]) (R' := [sl (shA (some ⟨sb, so, none⟩) (i + 1) sc 12) 12 LrE (L.drop (i + 1)), sl (shA (some ⟨sb, so, none⟩) 0 sc 12) 12 LrE (L.take i), sl A 12 LrE L0, allF L0 (fun x : LrD => faF x.r.o), allF L0 (fun x : LrD => fmF x.r.o)]) (by repeat (first | exact trivial | refine ⟨rfl, ?_⟩)) sA sS ?_
            refine gk_any [0, 1, 2, 3, 4, 5, 6, 7, 8] (Cut _ (fun v : Value => [(0, v), (1, .int .u64 x.t), (2, .int .u64 u), (3, .int .i64 most), (11, .slice A3 (out ++ [(⟨pk, pv, pi, pb, pc, pp, ⟨A1, n1, c1⟩, D1, ⟨A2, n2, c2⟩, M1⟩ : OpD)]).length c3)]) (fun v => [own 0 50 12 v LrE (L.set i (⟨x.r, (x.t + x.r.e), (tB (x.r.e ≤ 18446744073709551615 - x.t))⟩ : LrD)), own 0 38 8 (.slice A3 (out ++ [(⟨pk, pv, pi, pb, pc, pp, ⟨A1, n1, c1⟩, D1, ⟨A2, n2, c2⟩, M1⟩ : OpD)]).length c3) opC (out ++ [(⟨pk, pv, pi, pb, pc, pp, ⟨A1, n1, c1⟩, D1, ⟨A2, n2, c2⟩, M1⟩ : OpD)]), allF (out ++ [(⟨pk, pv, pi, pb, pc, pp, ⟨A1, n1, c1⟩, D1, ⟨A2, n2, c2⟩, M1⟩ : OpD)]) faF, allF (out ++ [(⟨pk, pv, pi, pb, pc, pp, ⟨A1, n1, c1⟩, D1, ⟨A2, n2, c2⟩, M1⟩ : OpD)]) fmF]) (fun _ => [sl A 12 LrE L0, allF L0 (fun x : LrD => faF x.r.o), allF L0 (fun x : LrD => fmF x.r.o)])) rfl rfl (by kernel_rfl) ?_ (cut_k fun v => ?_)
            · skip
              refine gb_take 1 rfl (by decide +kernel) rfl rfl (ys_ev (nw := true) hT rfl sI) sF ?_
              refine gb_take 2 rfl (by decide +kernel) rfl rfl (ys_ev (nw := true) hT rfl sI) sF ?_
              refine gb_take 3 rfl (by decide +kernel) rfl rfl (ys_slice_h hT i rfl rfl rfl rfl rfl (by omega)) sF ?_
              refine gb_take 5 rfl (by decide +kernel) rfl rfl (by first | exact ys_blk hT rfl rfl mE rfl rfl | exact ys_row hT rfl rfl mE rfl rfl | exact ys_row0 hT rfl rfl mE rfl rfl) sF ?_
              refine gb_take 8 rfl (by decide +kernel) rfl rfl (ys_ev (nw := true) hT rfl sI) sF ?_
              refine gb_take 9 rfl (by decide +kernel) rfl rfl (ys_ev (nw := true) hT rfl sI) sF ?_
              refine gb_take 10 rfl (by decide +kernel) rfl rfl (ys_ev (nw := true) hT rfl sI) sF ?_
              refine gb_take 11 rfl (by decide +kernel) rfl rfl (ys_slice_l hT (i + 1) rfl rfl rfl rfl (by push_cast; rfl) (by omega)) sF ?_
              refine gb_all (by decide +kernel) ?_
              refine gball_yes rfl rfl ?_ ?_
              · (refine mv_empty 12 LrE rfl hT rfl rfl rfl rfl rfl ?_; intro g1)
                refine ⟨sF, ?_⟩
                refine gb_all (by decide +kernel) ?_
                refine gball_not (by decide +kernel) ?_
                refine gball_not (by decide +kernel) ?_
                refine gball_not (by decide +kernel) ?_
                refine gball_not (by decide +kernel) ?_
                refine gball_yes rfl rfl ?_ ?_
                · (refine mv_append (L := []) rfl (L.take i) rfl rfl rfl rfl elt_Lr (by intro _; first | ((repeat (first | with_reducible exact Upd.here _ | with_reducible apply Upd.there)); done) | ((repeat (first | exact Upd.here _ | apply Upd.there)); done) | fail) (src_R mE) (by omega) oneLr (by simp only [maxLen, List.length_append, List.length_cons, List.length_nil]; omega) (by simp only [List.length_append, List.length_cons, List.length_nil]; omega) (Nat.zero_le _) ?_; intro v1)
                  refine ⟨sF, ?_⟩
                  refine gb_only 6 (by decide +kernel) rfl rfl ?_
                  (refine mv_buildSlice (len := 1) rfl hT rfl rfl rfl rfl rfl rfl rfl rfl ?_; intro g6)
                  refine ⟨sF, ?_⟩
                  refine gb_only 7 (by decide +kernel) rfl rfl ?_
                  (refine mv_append (L := L.take i) rfl [(⟨x.r, (x.t + x.r.e), (tB (x.r.e ≤ 18446744073709551615 - x.t))⟩ : LrD)] rfl rfl rfl rfl elt_Lr (by intro _; first | ((repeat (first | with_reducible exact Upd.here _ | with_reducible apply Upd.there)); done) | ((repeat (first | exact Upd.here _ | apply Upd.there)); done) | fail) (src_blk mE rfl) rfl oneLr (by simp only [maxLen, List.length_append, List.length_cons, List.length_nil]; omega) (by simp only [List.length_append, List.length_cons, List.length_nil]; omega) (Nat.zero_le _) ?_; intro v2)
                  refine ⟨sF, ?_⟩
                  refine gb_only 12 (by decide +kernel) rfl rfl ?_
                  (refine mv_append (L := L.take i ++ [(⟨x.r, (x.t + x.r.e), (tB (x.r.e ≤ 18446744073709551615 - x.t))⟩ : LrD)]) rfl (L.drop (i + 1)) rfl rfl rfl rfl elt_Lr (by intro _; first | ((repeat (first | with_reducible exact Upd.here _ | with_reducible apply Upd.there)); done) | ((repeat (first | exact Upd.here _ | apply Upd.there)); done) | fail) (src_R mE) (by omega) oneLr (by simp only [maxLen, List.length_append, List.length_cons, List.length_nil]; omega) (by simp only [List.length_append, List.length_cons, List.length_nil]; omega) (Nat.zero_le _) ?_; intro v3)
                  refine ⟨sF, ?_⟩
                  rw [hset]
                  refine gb_take 13 rfl (by decide +kernel) rfl rfl (ys_ev (nw := true) hT rfl sI) sF ?_
                  refine gb_nil (by decide +kernel) ?_
                  exact ⟨_, (by repeat (first | exact trivial | refine ⟨rfl, ?_⟩)), sA, sS⟩
                refine gball_not (by decide +kernel) ?_
                refine gball_yes rfl rfl ?_ ?_
                · (refine mv_buildSlice (len := 1) rfl hT rfl rfl rfl rfl rfl rfl rfl rfl ?_; intro g6)
                  refine ⟨sF, ?_⟩
                  refine gb_only 4 (by decide +kernel) rfl rfl ?_
                  (refine mv_append (L := []) rfl (L.take i) rfl rfl rfl rfl elt_Lr (by intro _; first | ((repeat (first | with_reducible exact Upd.here _ | with_reducible apply Upd.there)); done) | ((repeat (first | exact Upd.here _ | apply Upd.there)); done) | fail) (src_R mE) (by omega) oneLr (by simp only [maxLen, List.length_append, List.length_cons, List.length_nil]; omega) (by simp only [List.length_append, List.length_cons, List.length_nil]; omega) (Nat.zero_le _) ?_; intro v1)
                  refine ⟨sF, ?_⟩
                  refine gb_only 7 (by decide +kernel) rfl rfl ?_
                  (refine mv_append (L := L.take i) rfl [(⟨x.r, (x.t + x.r.e), (tB (x.r.e ≤ 18446744073709551615 - x.t))⟩ : LrD)] rfl rfl rfl rfl elt_Lr (by intro _; first | ((repeat (first | with_reducible exact Upd.here _ | with_reducible apply Upd.there)); done) | ((repeat (first | exact Upd.here _ | apply Upd.there)); done) | fail) (src_blk mE rfl) rfl oneLr (by simp only [maxLen, List.length_append, List.length_cons, List.length_nil]; omega) (by simp only [List.length_append, List.length_cons, List.length_nil]; omega) (Nat.zero_le _) ?_; intro v2)
                  refine ⟨sF, ?_⟩
                  refine gb_only 12 (by decide +kernel) rfl rfl ?_
                  (refine mv_append (L := L.take i ++ [(⟨x.r, (x.t + x.r.e), (tB (x.r.e ≤ 18446744073709551615 - x.t))⟩ : LrD)]) rfl (L.drop (i + 1)) rfl rfl rfl rfl elt_Lr (by intro _; first | ((repeat (first | with_reducible exact Upd.here _ | with_reducible apply Upd.there)); done) | ((repeat (first | exact Upd.here _ | apply Upd.there)); done) | fail) (src_R mE) (by omega) oneLr (by simp only [maxLen, List.length_append, List.length_cons, List.length_nil]; omega) (by simp only [List.length_append, List.length_cons, List.length_nil]; omega) (Nat.zero_le _) ?_; intro v3)
                  refine ⟨sF, ?_⟩
                  rw [hset]
                  refine gb_take 13 rfl (by decide +kernel) rfl rfl (ys_ev (nw := true) hT rfl sI) sF ?_
                  refine gb_nil (by decide +kernel) ?_
                  exact ⟨_, (by repeat (first | exact trivial | refine ⟨rfl, ?_⟩)), sA, sS⟩
                refine gball_not (by decide +kernel) ?_
                refine gball_not (by decide +kernel) ?_
                refine gball_not (by decide +kernel) ?_
                refine gball_not (by decide +kernel) ?_
                refine gball_not (by decide +kernel) ?_
                refine gball_not (by decide +kernel) ?_
                refine gball_not (by decide +kernel) ?_
                exact gball_end (by decide +kernel)
              refine gball_not (by decide +kernel) ?_
              refine gball_not (by decide +kernel) ?_
              refine gball_not (by decide +kernel) ?_
              refine gball_not (by decide +kernel) ?_
              refine gball_not (by decide +kernel) ?_
              refine gball_yes rfl rfl ?_ ?_
              · (refine mv_buildSlice (len := 1) rfl hT rfl rfl rfl rfl rfl rfl rfl rfl ?_; intro g6)
                refine ⟨sF, ?_⟩
                refine gb_only 0 (by decide +kernel) rfl rfl ?_
                (refine mv_empty 12 LrE rfl hT rfl rfl rfl rfl rfl ?_; intro g1)
                refine ⟨sF, ?_⟩
                refine gb_only 4 (by decide +kernel) rfl rfl ?_
                (refine mv_append (L := []) rfl (L.take i) rfl rfl rfl rfl elt_Lr (by intro _; first | ((repeat (first | with_reducible exact Upd.here _ | with_reducible apply Upd.there)); done) | ((repeat (first | exact Upd.here _ | apply Upd.there)); done) | fail) (src_R mE) (by omega) oneLr (by simp only [maxLen, List.length_append, List.length_cons, List.length_nil]; omega) (by simp only [List.length_append, List.length_cons, List.length_nil]; omega) (Nat.zero_le _) ?_; intro v1)
                refine ⟨sF, ?_⟩
                refine gb_only 7 (by decide +kernel) rfl rfl ?_
                (refine mv_append (L := L.take i) rfl [(⟨x.r, (x.t + x.r.e), (tB (x.r.e ≤ 18446744073709551615 - x.t))⟩ : LrD)] rfl rfl rfl rfl elt_Lr (by intro _; first | ((repeat (first | with_reducible exact Upd.here _ | with_reducible apply Upd.there)); done) | ((repeat (first | exact Upd.here _ | apply Upd.there)); done) | fail) (src_blk mE rfl) rfl oneLr (by simp only [maxLen, List.length_append, List.length_cons, List.length_nil]; omega) (by simp only [List.length_append, List.length_cons, List.length_nil]; omega) (Nat.zero_le _) ?_; intro v2)
                refine ⟨sF, ?_⟩
                refine gb_only 12 (by decide +kernel) rfl rfl ?_
                (refine mv_append (L := L.take i ++ [(⟨x.r, (x.t + x.r.e), (tB (x.r.e ≤ 18446744073709551615 - x.t))⟩ : LrD)]) rfl (L.drop (i + 1)) rfl rfl rfl rfl elt_Lr (by intro _; first | ((repeat (first | with_reducible exact Upd.here _ | with_reducible apply Upd.there)); done) | ((repeat (first | exact Upd.here _ | apply Upd.there)); done) | fail) (src_R mE) (by omega) oneLr (by simp only [maxLen, List.length_append, List.length_cons, List.length_nil]; omega) (by simp only [List.length_append, List.length_cons, List.length_nil]; omega) (Nat.zero_le _) ?_; intro v3)
                refine ⟨sF, ?_⟩
                rw [hset]
                refine gb_take 13 rfl (by decide +kernel) rfl rfl (ys_ev (nw := true) hT rfl sI) sF ?_
                refine gb_nil (by decide +kernel) ?_
                exact ⟨_, (by repeat (first | exact trivial | refine ⟨rfl, ?_⟩)), sA, sS⟩
              refine gball_not (by decide +kernel) ?_
              refine gball_not (by decide +kernel) ?_
              refine gball_not (by decide +kernel) ?_
              refine gball_not (by decide +kernel) ?_
              refine gball_not (by decide +kernel) ?_
              refine gball_not (by decide +kernel) ?_
              refine gball_not (by decide +kernel) ?_
              exact gball_end (by decide +kernel)
            refine gk_freeze _ (by intro _; first | ((repeat (first | with_reducible exact Upd.here _ | with_reducible apply Upd.there)); done) | ((repeat (first | exact Upd.here _ | apply Upd.there)); done) | fail) (fun A4 c4 hA4 hA41 hA42 hA43 => ?_); subst hA4
            refine gk_shareN rfl (φ := sl A4 12 LrE (L.set i (⟨x.r, (x.t + x.r.e), (tB (x.r.e ≤ 18446744073709551615 - x.t))⟩ : LrD))) (by repeat (first | with_reducible exact Sel.here | with_reducible apply Sel.there)) (fun hnew => ?_)
            refine gk_again_sel rfl (A4, c4, L.set i (⟨x.r, (x.t + x.r.e), (tB (x.r.e ≤ 18446744073709551615 - x.t))⟩ : LrD), againP (L0.map fun x => x.r.e) ⟨x.t, 0, (i : Int)⟩ S, x.t, A3, c3, l ++ [i], out ++ [(⟨pk, pv, pi, pb, pc, pp, ⟨A1, n1, c1⟩, D1, ⟨A2, n2, c2⟩, M1⟩ : OpD)]) (hst ⟨A4, (L.set i (⟨x.r, (x.t + x.r.e), (tB (x.r.e ≤ 18446744073709551615 - x.t))⟩ : LrD)).length, c4⟩ ⟨by rw [List.length_set], hA41, hA42, hA43⟩ (fun b hb => .inl (hnew b hb))) (by dsimp only; simp only [List.length_append, List.length_cons, List.length_nil]; omega) (by repeat (first | exact trivial | refine ⟨rfl, ?_⟩)) sA sS
          · (repeat' (first | (refine gG ?_; try intro _) | ((first | refine g_split rfl rfl tE (fun _ => ?_) (fun _ => ?_) | refine gk_cond rfl rfl tE (fun _ => ?_) (fun _ => ?_)) <;> (try first | (exfalso; omega; done) | (rename_i hx; exact absurd rfl hx) | (rename_i hx; cases hx; done)))))
            refine g_yd rfl rfl (Ys.yd (ys_ev (nw := false) hT rfl trivial)) ?_
            (repeat (refine gG ?_; try intro _))
            have hnx : nextL x = (⟨x.r, (IntKind.u64.wrap (x.t + x.r.e)), (tB (x.r.e ≤ 18446744073709551615 - x.t))⟩ : LrD) := by unfold nextL; have hb : tB (0 < x.r.e ∧ x.r.e ≤ 18446744073709551615 - x.t) = (tB (x.r.e ≤ 18446744073709551615 - x.t)) := (by rw [tB_false hov]; exact tB_false (fun h => hov h.2)); rw [hb]
            rw [hnx] at hst
            refine gk_takeS (enc := LrE) (L := L) (A := (some ⟨sb, so, none⟩)) (sz := 12) i sc mE (by omega) ?_
            refine gk_dropS (enc := LrE) (L := L) (A := (some ⟨sb, so, none⟩)) (sz := 12) (i + 1) sc mE (by omega) ?_
            refine gk_derO [allF out faF, faF (⟨pk, pv, pi, pb, pc, pp, ⟨A1, n1, c1⟩, D1, ⟨A2, n2, c2⟩, M1⟩ : OpD)] [blk g13 [LrE (⟨x.r, (IntKind.u64.wrap (x.t + x.r.e)), (tB (x.r.e ≤ 18446744073709551615 - x.t))⟩ : LrD) 0, LrE (⟨x.r, (IntKind.u64.wrap (x.t + x.r.e)), (tB (x.r.e ≤ 18446744073709551615 - x.t))⟩ : LrD) 1, LrE (⟨x.r, (IntKind.u64.wrap (x.t + x.r.e)), (tB (x.r.e ≤ 18446744073709551615 - x.t))⟩ : LrD) 2, LrE (⟨x.r, (IntKind.u64.wrap (x.t + x.r.e)), (tB (x.r.e ≤ 18446744073709551615 - x.t))⟩ : LrD) 3, LrE (⟨x.r, (IntKind.u64.wrap (x.t + x.r.e)), (tB (x.r.e ≤ 18446744073709551615 - x.t))⟩ : LrD) 4, LrE (⟨x.r, (IntKind.u64.wrap (x.t + x.r.e)), (tB (x.r.e ≤ 18446744073709551615 - x.t))⟩ : LrD) 5, LrE (⟨x.r, (IntKind.u64.wrap (x.t + x.r.e)), (tB (x.r.e ≤ 18446744073709551615 - x.t))⟩ : LrD) 6, LrE (⟨x.r, (IntKind.u64.wrap (x.t + x.r.e)), (tB (x.r.e ≤ 18446744073709551615 - x.t))⟩ : LrD) 7, LrE (⟨x.r, (IntKind.u64.wrap (x.t + x.r.e)), (tB (x.r.e ≤ 18446744073709551615 - x.t))⟩ : LrD) 8, LrE (⟨x.r, (IntKind.u64.wrap (x.t + x.r.e)), (tB (x.r.e ≤ 18446744073709551615 - x.t))⟩ : LrD) 9, LrE (⟨x.r, (IntKind.u64.wrap (x.t + x.r.e)), (tB (x.r.e ≤ 18446744073709551615 - x.t))⟩ : LrD) 10, LrE (⟨x.r, (IntKind.u64.wrap (x.t + x.r.e)), (tB (x.r.e ≤ 18446744073709551615 - x.t))⟩ : LrD) 11] 50, own 0 38 8 (.slice A3 (out ++ [(⟨pk, pv, pi, pb, pc, pp, ⟨A1, n1, c1⟩, D1, ⟨A2, n2, c2⟩, M1⟩ : OpD)]).length c3) opC (out ++ [(⟨pk, pv, pi, pb, pc, pp, ⟨A1, n1, c1⟩, D1, ⟨A2, n2, c2⟩, M1⟩ : OpD)]), allF out fmF, fmF (⟨pk, pv, pi, pb, pc, pp, ⟨A1, n1, c1⟩, D1, ⟨A2, n2, c2⟩, M1⟩ : OpD)] (φ := allF (out ++ [(⟨pk, pv, pi, pb, pc, pp, ⟨A1, n1, c1⟩, D1, ⟨A2, n2, c2⟩, M1⟩ : OpD)]) faF) der_snoc sA ?_
            refine gk_derO [allF out fmF, fmF (⟨pk, pv, pi, pb, pc, pp, ⟨A1, n1, c1⟩, D1, ⟨A2, n2, c2⟩, M1⟩ : OpD)] [blk g13 [LrE (⟨x.r, (IntKind.u64.wrap (x.t + x.r.e)), (tB (x.r.e ≤ 18446744073709551615 - x.t))⟩ : LrD) 0, LrE (⟨x.r, (IntKind.u64.wrap (x.t + x.r.e)), (tB (x.r.e ≤ 18446744073709551615 - x.t))⟩ : LrD) 1, LrE (⟨x.r, (IntKind.u64.wrap (x.t + x.r.e)), (tB (x.r.e ≤ 18446744073709551615 - x.t))⟩ : LrD) 2, LrE (⟨x.r, (IntKind.u64.wrap (x.t + x.r.e)), (tB (x.r.e ≤ 18446744073709551615 - x.t))⟩ : LrD) 3, LrE (⟨x.r, (IntKind.u64.wrap (x.t + x.r.e)), (tB (x.r.e ≤ 18446744073709551615 - x.t))⟩ : LrD) 4, LrE (⟨x.r, (IntKind.u64.wrap (x.t + x.r.e)), (tB (x.r.e ≤ 18446744073709551615 - x.t))⟩ : LrD) 5, LrE (⟨x.r, (IntKind.u64.wrap (x.t + x.r.e)), (tB (x.r.e ≤ 18446744073709551615 - x.t))⟩ : LrD) 6, LrE (⟨x.r, (IntKind.u64.wrap (x.t + x.r.e)), (tB (x.r.e ≤ 18446744073709551615 - x.t))⟩ : LrD) 7, LrE (⟨x.r, (IntKind.u64.wrap (x.t + x.r.e)), (tB (x.r.e ≤ 18446744073709551615 - x.t))⟩ : LrD) 8, LrE (⟨x.r, (IntKind.u64.wrap (x.t + x.r.e)), (tB (x.r.e ≤ 18446744073709551615 - x.t))⟩ : LrD) 9, LrE (⟨x.r, (IntKind.u64.wrap (x.t + x.r.e)), (tB (x.r.e ≤ 18446744073709551615 - x.t))⟩ : LrD) 10, LrE (⟨x.r, (IntKind.u64.wrap (x.t + x.r.e)), (tB (x.r.e ≤ 18446744073709551615 - x.t))⟩ : LrD) 11] 50, own 0 38 8 (.slice A3 (out ++ [(⟨pk, pv, pi, pb, pc, pp, ⟨A1, n1, c1⟩, D1, ⟨A2, n2, c2⟩, M1⟩ : OpD)]).length c3) opC (out ++ [(⟨pk, pv, pi, pb, pc, pp, ⟨A1, n1, c1⟩, D1, ⟨A2, n2, c2⟩, M1⟩ : OpD)]), allF (out ++ [(⟨pk, pv, pi, pb, pc, pp, ⟨A1, n1, c1⟩, D1, ⟨A2, n2, c2⟩, M1⟩ : OpD)]) faF] (φ := allF (out ++ [(⟨pk, pv, pi, pb, pc, pp, ⟨A1, n1, c1⟩, D1, ⟨A2, n2, c2⟩, M1⟩ : OpD)]) fmF) der_snoc sA ?_
            refine gk_sel (f' := [(0, .slice (some ⟨sb, so, none⟩) L.length sc), (1, .int .u64 x.t), (2, .int .u64 u), (3, .int .i64 most), (11, .slice A3 (out ++ [(⟨pk, pv, pi, pb, pc, pp, ⟨A1, n1, c1⟩, D1, ⟨A2, n2, c2⟩, M1⟩ : OpD)]).length c3), (12, .int .i64 (i : Int)), (13, .pointer (some ⟨g13, 0, none⟩))]) (O' := [blk g13 [LrE (⟨x.r, (IntKind.u64.wrap (x.t + x.r.e)), (tB (x.r.e ≤ 18446744073709551615 - x.t))⟩ : LrD) 0, LrE (⟨x.r, (IntKind.u64.wrap (x.t + x.r.e)), (tB (x.r.e ≤ 18446744073709551615 - x.t))⟩ : LrD) 1, LrE (⟨x.r, (IntKind.u64.wrap (x.t + x.r.e)), (tB (x.r.e ≤ 18446744073709551615 - x.t))⟩ : LrD) 2, LrE (⟨x.r, (IntKind.u64.wrap (x.t + x.r.e)), (tB (x.r.e ≤ 18446744073709551615 - x.t))⟩ : LrD) 3, LrE (⟨x.r, (IntKind.u64.wrap (x.t + x.r.e)), (tB (x.r.e ≤ 18446744073709551615 - x.t))⟩ : LrD) 4, LrE (⟨x.r, (IntKind.u64.wrap (x.t + x.r.e)), (tB (x.r.e ≤ 18446744073709551615 - x.t))⟩ : LrD) 5, LrE (⟨x.r, (IntKind.u64.wrap (x.t + x.r.e)), (tB (x.r.e ≤ 18446744073709551615 - x.t))⟩ : LrD) 6, LrE (⟨x.r, (IntKind.u64.wrap (x.t + x.r.e)), (tB (x.r.e ≤ 18446744073709551615 - x.t))⟩ : LrD) 7, LrE (⟨x.r, (IntKind.u64.wrap (x.t + x.r.e)), (tB (x.r.e ≤ 18446744073709551615 - x.t))⟩ : LrD) 8, LrE (⟨x.r, (IntKind.u64.wrap (x.t + x.r.e)), (tB (x.r.e ≤ 18446744073709551615 - x.t))⟩ : LrD) 9, LrE (⟨x.r, (IntKind.u64.wrap (x.t + x.r.e)), (tB (x.r.e ≤ 18446744073709551615 - x.t))⟩ : LrD) 10, LrE (⟨x.r, (IntKind.u64.wrap (x.t + x.r.e)), (tB (x.r.e ≤ 18446744073709551615 - x.t))⟩ : LrD) 11] 50, own 0 38 8 (.slice A3 (out ++ [(⟨pk, pv, pi, pb, pc, pp, ⟨A1, n1, c1⟩, D1, ⟨A2, n2, c2⟩, M1⟩ : OpD)]).length c3) opC (out ++ [(⟨pk, pv, pi, pb, pc, pp, ⟨A1, n1, c1⟩, D1, ⟨A2, n2, c2⟩, M1⟩ : OpD)]), allF (out ++ [(⟨pk, pv, pi, pb, pc, pp, ⟨A1, n1, c1⟩, D1, ⟨A2, n2, c2⟩, M1⟩ : OpD)]) faF, allF (out ++ [(⟨pk, pv, pi, pb, pc, pp, ⟨A1, n1, c1⟩, D1, ⟨A2, n2, c2⟩, M1⟩ : OpD)]) fmF]) (R' := [sl (shA (some ⟨sb, so, none⟩) (i + 1) sc 12) 12 LrE (L.drop (i + 1)), sl (shA (some ⟨sb, so, none⟩) 0 sc 12) 12 LrE (L.take i), sl A 12 LrE L0, allF L0 (fun x : LrD => faF x.r.o), allF L0 (fun x : LrD => fmF x.r.o)]) (by repeat (first | exact trivial | refine ⟨rfl, ?_⟩)) sA sS ?_
            refine gk_any [0, 1, 2, 3, 4, 5, 6, 7, 8] (Cut _ (fun v : Value => [(0, v), (1, .int .u64 x.t), (2, .int .u64 u), (3, .int .i64 most), (11, .slice A3 (out ++ [(⟨pk, pv, pi, pb, pc, pp, ⟨A1, n1, c1⟩, D1, ⟨A2, n2, c2⟩, M1⟩ : OpD)]).length c3)]) (fun v => [own 0 50 12 v LrE (L.set i (⟨x.r, (IntKind.u64.wrap (x.t + x.r.e)), (tB (x.r.e ≤ 18446744073709551615 - x.t))⟩ : LrD)), own 0 38 8 (.slice A3 (out ++ [(⟨pk, pv, pi, pb, pc, pp, ⟨A1, n1, c1⟩, D1, ⟨A2, n2, c2⟩, M1⟩ : OpD)]).length c3) opC (out ++ [(⟨pk, pv, pi, pb, pc, pp, ⟨A1, n1, c1⟩, D1, ⟨A2, n2, c2⟩, M1⟩ : OpD)]), allF (out ++ [(⟨pk, pv, pi, pb, pc, pp, ⟨A1, n1, c1⟩, D1, ⟨A2, n2, c2⟩, M1⟩ : OpD)]) faF, allF (out ++ [(⟨pk, pv, pi, pb, pc, pp, ⟨A1, n1, c1⟩, D1, ⟨A2, n2, c2⟩, M1⟩ : OpD)]) fmF]) (fun _ => [sl A 12 LrE L0, allF L0 (fun x : LrD => faF x.r.o), allF L0 (fun x : LrD => fmF x.r.o)])) rfl rfl (by kernel_rfl) ?_ (cut_k fun v => ?_)
            · skip
              refine gb_take 1 rfl (by decide +kernel) rfl rfl (ys_ev (nw := true) hT rfl sI) sF ?_
              refine gb_take 2 rfl (by decide +kernel) rfl rfl (ys_ev (nw := true) hT rfl sI) sF ?_
              refine gb_take 3 rfl (by decide +kernel) rfl rfl (ys_slice_h hT i rfl rfl rfl rfl rfl (by omega)) sF ?_
              refine gb_take 5 rfl (by decide +kernel) rfl rfl (by first | exact ys_blk hT rfl rfl mE rfl rfl | exact ys_row hT rfl rfl mE rfl rfl | exact ys_row0 hT rfl rfl mE rfl rfl) sF ?_
              refine gb_take 8 rfl (by decide +kernel) rfl rfl (ys_ev (nw := true) hT rfl sI) sF ?_
              refine gb_take 9 rfl (by decide +kernel) rfl rfl (ys_ev (nw := true) hT rfl sI) sF ?_
              refine gb_take 10 rfl (by decide +kernel) rfl rfl (ys_ev (nw := true) hT rfl sI) sF ?_
              refine gb_take 11 rfl (by decide +kernel) rfl rfl (ys_slice_l hT (i + 1) rfl rfl rfl rfl (by push_cast; rfl) (by omega)) sF ?_
              refine gb_all (by decide +kernel) ?_
              refine gball_yes rfl rfl ?_ ?_
              · (refine mv_empty 12 LrE rfl hT rfl rfl rfl rfl rfl ?_; intro g1)
                refine ⟨sF, ?_⟩
                refine gb_all (by decide +kernel) ?_
                refine gball_not (by decide +kernel) ?_
                refine gball_not (by decide +kernel) ?_
                refine gball_not (by decide +kernel) ?_
                refine gball_not (by decide +kernel) ?_
                refine gball_yes rfl rfl ?_ ?_
                · (refine mv_append (L := []) rfl (L.take i) rfl rfl rfl rfl elt_Lr (by intro _; first | ((repeat (first | with_reducible exact Upd.here _ | with_reducible apply Upd.there)); done) | ((repeat (first | exact Upd.here _ | apply Upd.there)); done) | fail) (src_R mE) (by omega) oneLr (by simp only [maxLen, List.length_append, List.length_cons, List.length_nil]; omega) (by simp only [List.length_append, List.length_cons, List.length_nil]; omega) (Nat.zero_le _) ?_; intro v1)
                  refine ⟨sF, ?_⟩
                  refine gb_only 6 (by decide +kernel) rfl rfl ?_
                  (refine mv_buildSlice (len := 1) rfl hT rfl rfl rfl rfl rfl rfl rfl rfl ?_; intro g6)
                  refine ⟨sF, ?_⟩
                  refine gb_only 7 (by decide +kernel) rfl rfl ?_
                  (refine mv_append (L := L.take i) rfl [(⟨x.r, (IntKind.u64.wrap (x.t + x.r.e)), (tB (x.r.e ≤ 18446744073709551615 - x.t))⟩ : LrD)] rfl rfl rfl rfl elt_Lr (by intro _; first | ((repeat (first | with_reducible exact Upd.here _ | with_reducible apply Upd.there)); done) | ((repeat (first | exact Upd.here _ | apply Upd.there)); done) | fail) (src_blk mE rfl) rfl oneLr (by simp only [maxLen, List.length_append, List.length_cons, List.length_nil]; omega) (by simp only [List.length_append, List.length_cons, List.length_nil]; omega) (Nat.zero_le _) ?_; intro v2)
                  refine ⟨sF, ?_⟩
                  refine gb_only 12 (by decide +kernel) rfl rfl ?_
                  (refine mv_append (L := L.take i ++ [(⟨x.r, (IntKind.u64.wrap (x.t + x.r.e)), (tB (x.r.e ≤ 18446744073709551615 - x.t))⟩ : LrD)]) rfl (L.drop (i + 1)) rfl rfl rfl rfl elt_Lr (by intro _; first | ((repeat (first | with_reducible exact Upd.here _ | with_reducible apply Upd.there)); done) | ((repeat (first | exact Upd.here _ | apply Upd.there)); done) | fail) (src_R mE) (by omega) oneLr (by simp only [maxLen, List.length_append, List.length_cons, List.length_nil]; omega) (by simp only [List.length_append, List.length_cons, List.length_nil]; omega) (Nat.zero_le _) ?_; intro v3)
                  refine ⟨sF, ?_⟩
                  rw [hset]
                  refine gb_take 13 rfl (by decide +kernel) rfl rfl (ys_ev (nw := true) hT rfl sI) sF ?_
                  refine gb_nil (by decide +kernel) ?_
                  exact ⟨_, (by repeat (first | exact trivial | refine ⟨rfl, ?_⟩)), sA, sS⟩
                refine gball_not (by decide +kernel) ?_
                refine gball_yes rfl rfl ?_ ?_
                · (refine mv_buildSlice (len := 1) rfl hT rfl rfl rfl rfl rfl rfl rfl rfl ?_; intro g6)
                  refine ⟨sF, ?_⟩
                  refine gb_only 4 (by decide +kernel) rfl rfl ?_
                  (refine mv_append (L := []) rfl (L.take i) rfl rfl rfl rfl elt_Lr (by intro _; first | ((repeat (first | with_reducible exact Upd.here _ | with_reducible apply Upd.there)); done) | ((repeat (first | exact Upd.here _ | apply Upd.there)); done) | fail) (src_R mE) (by omega) oneLr (by simp only [maxLen, List.length_append, List.length_cons, List.length_nil]; omega) (by simp only [List.length_append, List.length_cons, List.length_nil]; omega) (Nat.zero_le _) ?_; intro v1)
                  refine ⟨sF, ?_⟩
                  refine gb_only 7 (by decide +kernel) rfl rfl ?_
                  (refine mv_append (L := L.take i) rfl [(⟨x.r, (IntKind.u64.wrap (x.t + x.r.e)), (tB (x.r.e ≤ 18446744073709551615 - x.t))⟩ : LrD)] rfl rfl rfl rfl elt_Lr (by intro _; first | ((repeat (first | with_reducible exact Upd.here _ | with_reducible apply Upd.there)); done) | ((repeat (first | exact Upd.here _ | apply Upd.there)); done) | fail) (src_blk mE rfl) rfl oneLr (by simp only [maxLen, List.length_append, List.length_cons, List.length_nil]; omega) (by simp only [List.length_append, List.length_cons, List.length_nil]; omega) (Nat.zero_le _) ?_; intro v2)
                  refine ⟨sF, ?_⟩
                  refine gb_only 12 (by decide +kernel) rfl rfl ?_
                  (refine mv_append (L := L.take i ++ [(⟨x.r, (IntKind.u64.wrap (x.t + x.r.e)), (tB (x.r.e ≤ 18446744073709551615 - x.t))⟩ : LrD)]) rfl (L.drop (i + 1)) rfl rfl rfl rfl elt_Lr (by intro _; first | ((repeat (first | with_reducible exact Upd.here _ | with_reducible apply Upd.there)); done) | ((repeat (first | exact Upd.here _ | apply Upd.there)); done) | fail) (src_R mE) (by omega) oneLr (by simp only [maxLen, List.length_append, List.length_cons, List.length_nil]; omega) (by simp only [List.length_append, List.length_cons, List.length_nil]; omega) (Nat.zero_le _) ?_; intro v3)
                  refine ⟨sF, ?_⟩
                  rw [hset]
                  refine gb_take 13 rfl (by decide +kernel) rfl rfl (ys_ev (nw := true) hT rfl sI) sF ?_
                  refine gb_nil (by decide +kernel) ?_
                  exact ⟨_, (by repeat (first | exact trivial | refine ⟨rfl, ?_⟩)), sA, sS⟩
                refine gball_not (by decide +kernel) ?_
                refine gball_not (by decide +kernel) ?_
                refine gball_not (by decide +kernel) ?_
                refine gball_not (by decide +kernel) ?_
                refine gball_not (by decide +kernel) ?_
                refine gball_not (by decide +kernel) ?_
                refine gball_not (by decide +kernel) ?_
                exact gball_end (by decide +kernel)
              refine gball_not (by decide +kernel) ?_
              refine gball_not (by decide +kernel) ?_
              refine gball_not (by decide +kernel) ?_
              refine gball_not (by decide +kernel) ?_
              refine gball_not (by decide +kernel) ?_
              refine gball_yes rfl rfl ?_ ?_
              · (refine mv_buildSlice (len := 1) rfl hT rfl rfl rfl rfl rfl rfl rfl rfl ?_; intro g6)
                refine ⟨sF, ?_⟩
                refine gb_only 0 (by decide +kernel) rfl rfl ?_
                (refine mv_empty 12 LrE rfl hT rfl rfl rfl rfl rfl ?_; intro g1)
                refine ⟨sF, ?_⟩
                refine gb_only 4 (by decide +kernel) rfl rfl ?_
                (refine mv_append (L := []) rfl (L.take i) rfl rfl rfl rfl elt_Lr (by intro _; first | ((repeat (first | with_reducible exact Upd.here _ | with_reducible apply Upd.there)); done) | ((repeat (first | exact Upd.here _ | apply Upd.there)); done) | fail) (src_R mE) (by omega) oneLr (by simp only [maxLen, List.length_append, List.length_cons, List.length_nil]; omega) (by simp only [List.length_append, List.length_cons, List.length_nil]; omega) (Nat.zero_le _) ?_; intro v1)
                refine ⟨sF, ?_⟩
                refine gb_only 7 (by decide +kernel) rfl rfl ?_
                (refine mv_append (L := L.take i) rfl [(⟨x.r, (IntKind.u64.wrap (x.t + x.r.e)), (tB (x.r.e ≤ 18446744073709551615 - x.t))⟩ : LrD)] rfl rfl rfl rfl elt_Lr (by intro _; first | ((repeat (first | with_reducible exact Upd.here _ | with_reducible apply Upd.there)); done) | ((repeat (first | exact Upd.here _ | apply Upd.there)); done) | fail) (src_blk mE rfl) rfl oneLr (by simp only [maxLen, List.length_append, List.length_cons, List.length_nil]; omega) (by simp only [List.length_append, List.length_cons, List.length_nil]; omega) (Nat.zero_le _) ?_; intro v2)
                refine ⟨sF, ?_⟩
                refine gb_only 12 (by decide +kernel) rfl rfl ?_
                (refine mv_append (L := L.take i ++ [(⟨x.r, (IntKind.u64.wrap (x.t + x.r.e)), (tB (x.r.e ≤ 18446744073709551615 - x.t))⟩ : LrD)]) rfl (L.drop (i + 1)) rfl rfl rfl rfl elt_Lr (by intro _; first | ((repeat (first | with_reducible exact Upd.here _ | with_reducible apply Upd.there)); done) | ((repeat (first | exact Upd.here _ | apply Upd.there)); done) | fail) (src_R mE) (by omega) oneLr (by simp only [maxLen, List.length_append, List.length_cons, List.length_nil]; omega) (by simp only [List.length_append, List.length_cons, List.length_nil]; omega) (Nat.zero_le _) ?_; intro v3)
                refine ⟨sF, ?_⟩
                rw [hset]
                refine gb_take 13 rfl (by decide +kernel) rfl rfl (ys_ev (nw := true) hT rfl sI) sF ?_
                refine gb_nil (by decide +kernel) ?_
                exact ⟨_, (by repeat (first | exact trivial | refine ⟨rfl, ?_⟩)), sA, sS⟩
              refine gball_not (by decide +kernel) ?_
              refine gball_not (by decide +kernel) ?_
              refine gball_not (by decide +kernel) ?_
              refine gball_not (by decide +kernel) ?_
              refine gball_not (by decide +kernel) ?_
              refine gball_not (by decide +kernel) ?_
              refine gball_not (by decide +kernel) ?_
              exact gball_end (by decide +kernel)
            refine gk_freeze _ (by intro _; first | ((repeat (first | with_reducible exact Upd.here _ | with_reducible apply Upd.there)); done) | ((repeat (first | exact Upd.here _ | apply Upd.there)); done) | fail) (fun A4 c4 hA4 hA41 hA42 hA43 => ?_); subst hA4
            refine gk_shareN rfl (φ := sl A4 12 LrE (L.set i (⟨x.r, (IntKind.u64.wrap (x.t + x.r.e)), (tB (x.r.e ≤ 18446744073709551615 - x.t))⟩ : LrD))) (by repeat (first | with_reducible exact Sel.here | with_reducible apply Sel.there)) (fun hnew => ?_)
            refine gk_again_sel rfl (A4, c4, L.set i (⟨x.r, (IntKind.u64.wrap (x.t + x.r.e)), (tB (x.r.e ≤ 18446744073709551615 - x.t))⟩ : LrD), againP (L0.map fun x => x.r.e) ⟨x.t, 0, (i : Int)⟩ S, x.t, A3, c3, l ++ [i], out ++ [(⟨pk, pv, pi, pb, pc, pp, ⟨A1, n1, c1⟩, D1, ⟨A2, n2, c2⟩, M1⟩ : OpD)]) (hst ⟨A4, (L.set i (⟨x.r, (IntKind.u64.wrap (x.t + x.r.e)), (tB (x.r.e ≤ 18446744073709551615 - x.t))⟩ : LrD)).length, c4⟩ ⟨by rw [List.length_set], hA41, hA42, hA43⟩ (fun b hb => .inl (hnew b hb))) (by dsimp only; simp only [List.length_append, List.length_cons, List.length_nil]; omega) (by repeat (first | exact trivial | refine ⟨rfl, ?_⟩)) sA sS
        · (repeat' (first | (refine gG ?_; try intro _) | ((first | refine g_split rfl rfl tE (fun _ => ?_) (fun _ => ?_) | refine gk_cond rfl rfl tE (fun _ => ?_) (fun _ => ?_)) <;> (try first | (exfalso; omega; done) | (rename_i hx; exact absurd rfl hx) | (rename_i hx; cases hx; done)))))
          have hnx : nextL x = (⟨x.r, (x.t + x.r.e), false⟩ : LrD) := by unfold nextL; have hb : tB (0 < x.r.e ∧ x.r.e ≤ 18446744073709551615 - x.t) = false := tB_false (fun h => hz h.1); rw [hb]; rw [show IntKind.u64.wrap (x.t + x.r.e) = (x.t + x.r.e) % 18446744073709551616 from rfl, show (x.t + x.r.e) % 18446744073709551616 = x.t + x.r.e by omega]
          rw [hnx] at hst
          refine gk_takeS (enc := LrE) (L := L) (A := (some ⟨sb, so, none⟩)) (sz := 12) i sc mE (by omega) ?_
          refine gk_dropS (enc := LrE) (L := L) (A := (some ⟨sb, so, none⟩)) (sz := 12) (i + 1) sc mE (by omega) ?_
          refine gk_derO [allF out faF, faF (⟨pk, pv, pi, pb, pc, pp, ⟨A1, n1, c1⟩, D1, ⟨A2, n2, c2⟩, M1⟩ : OpD)] [blk g13 [LrE (⟨x.r, (x.t + x.r.e), false⟩ : LrD) 0, LrE (⟨x.r, (x.t + x.r.e), false⟩ : LrD) 1, LrE (⟨x.r, (x.t + x.r.e), false⟩ : LrD) 2, LrE (⟨x.r, (x.t + x.r.e), false⟩ : LrD) 3, LrE (⟨x.r, (x.t + x.r.e), false⟩ : LrD) 4, LrE (⟨x.r, (x.t + x.r.e), false⟩ : LrD) 5, LrE (⟨x.r, (x.t + x.r.e), false⟩ : LrD) 6, LrE (⟨x.r, (x.t + x.r.e), false⟩ : LrD) 7, LrE (⟨x.r, (x.t + x.r.e), false⟩ : LrD) 8, LrE (⟨x.r, (x.t + x.r.e), false⟩ : LrD) 9, LrE (⟨x.r, (x.t + x.r.e), false⟩ : LrD) 10, LrE (⟨x.r, (x.t + x.r.e), false⟩ : LrD) 11] 50, own 0 38 8 (.slice A3 (out ++ [(⟨pk, pv, pi, pb, pc, pp, ⟨A1, n1, c1⟩, D1, ⟨A2, n2, c2⟩, M1⟩ : OpD)]).length c3) opC (out ++ [(⟨pk, pv, pi, pb, pc, pp, ⟨A1, n1, c1⟩, D1, ⟨A2, n2, c2⟩, M1⟩ : OpD)]), allF out fmF, fmF (⟨pk, pv, pi, pb, pc, pp, ⟨A1, n1, c1⟩, D1, ⟨A2, n2, c2⟩, M1⟩ : OpD)] (φ := allF (out ++ [(⟨pk, pv, pi, pb, pc, pp, ⟨A1, n1, c1⟩, D1, ⟨A2, n2, c2⟩, M1⟩ : OpD)]) faF) der_snoc sA ?_
          refine gk_derO [allF out fmF, fmF (⟨pk, pv, pi, pb, pc, pp, ⟨A1, n1, c1⟩, D1, ⟨A2, n2, c2⟩, M1⟩ : OpD)] [blk g13 [LrE (⟨x.r, (x.t + x.r.e), false⟩ : LrD) 0, LrE (⟨x.r, (x.t + x.r.e), false⟩ : LrD) 1, LrE (⟨x.r, (x.t + x.r.e), false⟩ : LrD) 2, LrE (⟨x.r, (x.t + x.r.e), false⟩ : LrD) 3, LrE (⟨x.r, (x.t + x.r.e), false⟩ : LrD) 4, LrE (⟨x.r, (x.t + x.r.e), false⟩ : LrD) 5, LrE (⟨x.r, (x.t + x.r.e), false⟩ : LrD) 6, LrE (⟨x.r, (x.t + x.r.e), false⟩ : LrD) 7, LrE (⟨x.r, (x.t + x.r.e), false⟩ : LrD) 8, LrE (⟨x.r, (x.t + x.r.e), false⟩ : LrD) 9, LrE (⟨x.r, (x.t + x.r.e), false⟩ : LrD) 10, LrE (⟨x.r, (x.t + x.r.e), false⟩ : LrD) 11] 50, own 0 38 8 (.slice A3 (out ++ [(⟨pk, pv, pi, pb, pc, pp, ⟨A1, n1, c1⟩, D1, ⟨A2, n2, c2⟩, M1⟩ : OpD)]).length c3) opC (out ++ [(⟨pk, pv, pi, pb, pc, pp, ⟨A1, n1, c1⟩, D1, ⟨A2, n2, c2⟩, M1⟩ : OpD)]), allF (out ++ [(⟨pk, pv, pi, pb, pc, pp, ⟨A1, n1, c1⟩, D1, ⟨A2, n2, c2⟩, M1⟩ : OpD)]) faF] (φ := allF (out ++ [(⟨pk, pv, pi, pb, pc, pp, ⟨A1, n1, c1⟩, D1, ⟨A2, n2, c2⟩, M1⟩ : OpD)]) fmF) der_snoc sA ?_
          refine gk_sel (f' := [(0, .slice (some ⟨sb, so, none⟩) L.length sc), (1, .int .u64 x.t), (2, .int .u64 u), (3, .int .i64 most), (11, .slice A3 (out ++ [(⟨pk, pv, pi, pb, pc, pp, ⟨A1, n1, c1⟩, D1, ⟨A2, n2, c2⟩, M1⟩ : OpD)]).length c3), (12, .int .i64 (i : Int)), (13, .pointer (some ⟨g13, 0, none⟩))]) (O' := [blk g13 [LrE (⟨x.r, (x.t + x.r.e), false⟩ : LrD) 0, LrE (⟨x.r, (x.t + x.r.e), false⟩ : LrD) 1, LrE (⟨x.r, (x.t + x.r.e), false⟩ : LrD) 2, LrE (⟨x.r, (x.t + x.r.e), false⟩ : LrD) 3, LrE (⟨x.r, (x.t + x.r.e), false⟩ : LrD) 4, LrE (⟨x.r, (x.t + x.r.e), false⟩ : LrD) 5, LrE (⟨x.r, (x.t + x.r.e), false⟩ : LrD) 6, LrE (⟨x.r, (x.t + x.r.e), false⟩ : LrD) 7, LrE (⟨x.r, (x.t + x.r.e), false⟩ : LrD) 8, LrE (⟨x.r, (x.t + x.r.e), false⟩ : LrD) 9, LrE (⟨x.r, (x.t + x.r.e), false⟩ : LrD) 10, LrE (⟨x.r, (x.t + x.r.e), false⟩ : LrD) 11] 50, own 0 38 8 (.slice A3 (out ++ [(⟨pk, pv, pi, pb, pc, pp, ⟨A1, n1, c1⟩, D1, ⟨A2, n2, c2⟩, M1⟩ : OpD)]).length c3) opC (out ++ [(⟨pk, pv, pi, pb, pc, pp, ⟨A1, n1, c1⟩, D1, ⟨A2, n2, c2⟩, M1⟩ : OpD)]), allF (out ++ [(⟨pk, pv, pi, pb, pc, pp, ⟨A1, n1, c1⟩, D1, ⟨A2, n2, c2⟩, M1⟩ : OpD)]) faF, allF (out ++ [(⟨pk, pv, pi, pb, pc, pp, ⟨A1, n1, c1⟩, D1, ⟨A2, n2, c2⟩, M1⟩ : OpD)]) fmF]) (R' := [sl (shA (some ⟨sb, so, none⟩) (i + 1) sc 12) 12 LrE (L.drop (i + 1)), sl (shA (some ⟨sb, so, none⟩) 0 sc 12) 12 LrE (L.take i), sl A 12 LrE L0, allF L0 (fun x : LrD => faF x.r.o), allF L0 (fun x : LrD => fmF x.r.o)]) (by repeat (first | exact trivial | refine ⟨rfl, ?_⟩)) sA sS ?_
          refine gk_any [0, 1, 2, 3, 4, 5, 6, 7, 8] (Cut _ (fun v : Value => [(0, v), (1, .int .u64 x.t), (2, .int .u64 u), (3, .int .i64 most), (11, .slice A3 (out ++ [(⟨pk, pv, pi, pb, pc, pp, ⟨A1, n1, c1⟩, D1, ⟨A2, n2, c2⟩, M1⟩ : OpD)]).length c3)]) (fun v => [own 0 50 12 v LrE (L.set i (⟨x.r, (x.t + x.r.e), false⟩ : LrD)), own 0 38 8 (.slice A3 (out ++ [(⟨pk, pv, pi, pb, pc, pp, ⟨A1, n1, c1⟩, D1, ⟨A2, n2, c2⟩, M1⟩ : OpD)]).length c3) opC (out ++ [(⟨pk, pv, pi, pb, pc, pp, ⟨A1, n1, c1⟩, D1, ⟨A2, n2, c2⟩, M1⟩ : OpD)]), allF (out ++ [(⟨pk, pv, pi, pb, pc, pp, ⟨A1, n1, c1⟩, D1, ⟨A2, n2, c2⟩, M1⟩ : OpD)]) faF, allF (out ++ [(⟨pk, pv, pi, pb, pc, pp, ⟨A1, n1, c1⟩, D1, ⟨A2, n2, c2⟩, M1⟩ : OpD)]) fmF]) (fun _ => [sl A 12 LrE L0, allF L0 (fun x : LrD => faF x.r.o), allF L0 (fun x : LrD => fmF x.r.o)])) rfl rfl (by kernel_rfl) ?_ (cut_k fun v => ?_)
          · skip
            refine gb_take 1 rfl (by decide +kernel) rfl rfl (ys_ev (nw := true) hT rfl sI) sF ?_
            refine gb_take 2 rfl (by decide +kernel) rfl rfl (ys_ev (nw := true) hT rfl sI) sF ?_
            refine gb_take 3 rfl (by decide +kernel) rfl rfl (ys_slice_h hT i rfl rfl rfl rfl rfl (by omega)) sF ?_
            refine gb_take 5 rfl (by decide +kernel) rfl rfl (by first | exact ys_blk hT rfl rfl mE rfl rfl | exact ys_row hT rfl rfl mE rfl rfl | exact ys_row0 hT rfl rfl mE rfl rfl) sF ?_
            refine gb_take 8 rfl (by decide +kernel) rfl rfl (ys_ev (nw := true) hT rfl sI) sF ?_
            refine gb_take 9 rfl (by decide +kernel) rfl rfl (ys_ev (nw := true) hT rfl sI) sF ?_
            refine gb_take 10 rfl (by decide +kernel) rfl rfl (ys_ev (nw := true) hT rfl sI) sF ?_
            refine gb_take 11 rfl (by decide +kernel) rfl rfl (ys_slice_l hT (i + 1) rfl rfl rfl rfl (by push_cast; rfl) (by omega)) sF ?_
            refine gb_all (by decide +kernel) ?_
            refine gball_yes rfl rfl ?_ ?_
            · (refine mv_empty 12 LrE rfl hT rfl rfl rfl rfl rfl ?_; intro g1)
              refine ⟨sF, ?_⟩
              refine gb_all (by decide +kernel) ?_
              refine gball_not (by decide +kernel) ?_
              refine gball_not (by decide +kernel) ?_
              refine gball_not (by decide +kernel) ?_
              refine gball_not (by decide +kernel) ?_
              refine gball_yes rfl rfl ?_ ?_
              · (refine mv_append (L := []) rfl (L.take i) rfl rfl rfl rfl elt_Lr (by intro _; first | ((repeat (first | with_reducible exact Upd.here _ | with_reducible apply Upd.there)); done) | ((repeat (first | exact Upd.here _ | apply Upd.there)); done) | fail) (src_R mE) (by omega) oneLr (by simp only [maxLen, List.length_append, List.length_cons, List.length_nil]; omega) (by simp only [List.length_append, List.length_cons, List.length_nil]; omega) (Nat.zero_le _) ?_; intro v1)
                refine ⟨sF, ?_⟩
                refine gb_only 6 (by decide +kernel) rfl rfl ?_
                (refine mv_buildSlice (len := 1) rfl hT rfl rfl rfl rfl rfl rfl rfl rfl ?_; intro g6)
                refine ⟨sF, ?_⟩
                refine gb_only 7 (by decide +kernel) rfl rfl ?_
                (refine mv_append (L := L.take i) rfl [(⟨x.r, (x.t + x.r.e), false⟩ : LrD)] rfl rfl rfl rfl elt_Lr (by intro _; first | ((repeat (first | with_reducible exact Upd.here _ | with_reducible apply Upd.there)); done) | ((repeat (first | exact Upd.here _ | apply Upd.there)); done) | fail) (src_blk mE rfl) rfl oneLr (by simp only [maxLen, List.length_append, List.length_cons, List.length_nil]; omega) (by simp only [List.length_append, List.length_cons, List.length_nil]; omega) (Nat.zero_le _) ?_; intro v2)
                refine ⟨sF, ?_⟩
                refine gb_only 12 (by decide +kernel) rfl rfl ?_
                (refine mv_append (L := L.take i ++ [(⟨x.r, (x.t + x.r.e), false⟩ : LrD)]) rfl (L.drop (i + 1)) rfl rfl rfl rfl elt_Lr (by intro _; first | ((repeat (first | with_reducible exact Upd.here _ | with_reducible apply Upd.there)); done) | ((repeat (first | exact Upd.here _ | apply Upd.there)); done) | fail) (src_R mE) (by omega) oneLr (by simp only [maxLen, List.length_append, List.length_cons, List.length_nil]; omega) (by simp only [List.length_append, List.length_cons, List.length_nil]; omega) (Nat.zero_le _) ?_; intro v3)
                refine ⟨sF, ?_⟩
                rw [hset]
                refine gb_take 13 rfl (by decide +kernel) rfl rfl (ys_ev (nw := true) hT rfl sI) sF ?_
                refine gb_nil (by decide +kernel) ?_
                exact ⟨_, (by repeat (first | exact trivial | refine ⟨rfl, ?_⟩)), sA, sS⟩
              refine gball_not (by decide +kernel) ?_
              refine gball_yes rfl rfl ?_ ?_
              · (refine mv_buildSlice (len := 1) rfl hT rfl rfl rfl rfl rfl rfl rfl rfl ?_; intro g6)
                refine ⟨sF, ?_⟩
                refine gb_only 4 (by decide +kernel) rfl rfl ?_
                (refine mv_append (L := []) rfl (L.take i) rfl rfl rfl rfl elt_Lr (by intro _; first | ((repeat (first | with_reducible exact Upd.here _ | with_reducible apply Upd.there)); done) | ((repeat (first | exact Upd.here _ | apply Upd.there)); done) | fail) (src_R mE) (by omega) oneLr (by simp only [maxLen, List.length_append, List.length_cons, List.length_nil]; omega) (by simp only [List.length_append, List.length_cons, List.length_nil]; omega) (Nat.zero_le _) ?_; intro v1)
                refine ⟨sF, ?_⟩
                refine gb_only 7 (by decide +kernel) rfl rfl ?_
                (refine mv_append (L := L.take i) rfl [(⟨x.r, (x.t + x.r.e), false⟩ : LrD)] rfl rfl rfl rfl elt_Lr (by intro _; first | ((repeat (first | with_reducible exact Upd.here _ | with_reducible apply Upd.there)); done) | ((repeat (first | exact Upd.here _ | apply Upd.there)); done) | fail) (src_blk mE rfl) rfl oneLr (by simp only [maxLen, List.length_append, List.length_cons, List.length_nil]; omega) (by simp only [List.length_append, List.length_cons, List.length_nil]; omega) (Nat.zero_le _) ?_; intro v2)
                refine ⟨sF, ?_⟩
                refine gb_only 12 (by decide +kernel) rfl rfl ?_
                (refine mv_append (L := L.take i ++ [(⟨x.r, (x.t + x.r.e), false⟩ : LrD)]) rfl (L.drop (i + 1)) rfl rfl rfl rfl elt_Lr (by intro _; first | ((repeat (first | with_reducible exact Upd.here _ | with_reducible apply Upd.there)); done) | ((repeat (first | exact Upd.here _ | apply Upd.there)); done) | fail) (src_R mE) (by omega) oneLr (by simp only [maxLen, List.length_append, List.length_cons, List.length_nil]; omega) (by simp only [List.length_append, List.length_cons, List.length_nil]; omega) (Nat.zero_le _) ?_; intro v3)
                refine ⟨sF, ?_⟩
                rw [hset]
                refine gb_take 13 rfl (by decide +kernel) rfl rfl (ys_ev (nw := true) hT rfl sI) sF ?_
                refine gb_nil (by decide +kernel) ?_
                exact ⟨_, (by repeat (first | exact trivial | refine ⟨rfl, ?_⟩)), sA, sS⟩
              refine gball_not (by decide +kernel) ?_
              refine gball_not (by decide +kernel) ?_
              refine gball_not (by decide +kernel) ?_
              refine gball_not (by decide +kernel) ?_
              refine gball_not (by decide +kernel) ?_
              refine gball_not (by decide +kernel) ?_
              refine gball_not (by decide +kernel) ?_
              exact gball_end (by decide +kernel)
            refine gball_not (by decide +kernel) ?_
            refine gball_not (by decide +kernel) ?_
            refine gball_not (by decide +kernel) ?_
            refine gball_not (by decide +kernel) ?_
            refine gball_not (by decide +kernel) ?_
            refine gball_yes rfl rfl ?_ ?_
            · (refine mv_buildSlice (len := 1) rfl hT rfl rfl rfl rfl rfl rfl rfl rfl ?_; intro g6)
              refine ⟨sF, ?_⟩
              refine gb_only 0 (by decide +kernel) rfl rfl ?_
              (refine mv_empty 12 LrE rfl hT rfl rfl rfl rfl rfl ?_; intro g1)
              refine ⟨sF, ?_⟩
              refine gb_only 4 (by decide +kernel) rfl rfl ?_
              (refine mv_append (L := []) rfl (L.take i) rfl rfl rfl rfl elt_Lr (by intro _; first | ((repeat (first | with_reducible exact Upd.here _ | with_reducible apply Upd.there)); done) | ((repeat (first | exact Upd.here _ | apply Upd.there)); done) | fail) (src_R mE) (by omega) oneLr (by simp only [maxLen, List.length_append, List.length_cons, List.length_nil]; omega) (by simp only [List.length_append, List.length_cons, List.length_nil]; omega) (Nat.zero_le _) ?_; intro v1)
              refine ⟨sF, ?_⟩
              refine gb_only 7 (by decide +kernel) rfl rfl ?_
              (refine mv_append (L := L.take i) rfl [(⟨x.r, (x.t + x.r.e), false⟩ : LrD)] rfl rfl rfl rfl elt_Lr (by intro _; first | ((repeat (first | with_reducible exact Upd.here _ | with_reducible apply Upd.there)); done) | ((repeat (first | exact Upd.here _ | apply Upd.there)); done) | fail) (src_blk mE rfl) rfl oneLr (by simp only [maxLen, List.length_append, List.length_cons, List.length_nil]; omega) (by simp only [List.length_append, List.length_cons, List.length_nil]; omega) (Nat.zero_le _) ?_; intro v2)
              refine ⟨sF, ?_⟩
              refine gb_only 12 (by decide +kernel) rfl rfl ?_
              (refine mv_append (L := L.take i ++ [(⟨x.r, (x.t + x.r.e), false⟩ : LrD)]) rfl (L.drop (i + 1)) rfl rfl rfl rfl elt_Lr (by intro _; first | ((repeat (first | with_reducible exact Upd.here _ | with_reducible apply Upd.there)); done) | ((repeat (first | exact Upd.here _ | apply Upd.there)); done) | fail) (src_R mE) (by omega) oneLr (by simp only [maxLen, List.length_append, List.length_cons, List.length_nil]; omega) (by simp only [List.length_append, List.length_cons, List.length_nil]; omega) (Nat.zero_le _) ?_; intro v3)
              refine ⟨sF, ?_⟩
              rw [hset]
              refine gb_take 13 rfl (by decide +kernel) rfl rfl (ys_ev (nw := true) hT rfl sI) sF ?_
              refine gb_nil (by decide +kernel) ?_
              exact ⟨_, (by repeat (first | exact trivial | refine ⟨rfl, ?_⟩)), sA, sS⟩
            refine gball_not (by decide +kernel) ?_
            refine gball_not (by decide +kernel) ?_
            refine gball_not (by decide +kernel) ?_
            refine gball_not (by decide +kernel) ?_
            refine gball_not (by decide +kernel) ?_
            refine gball_not (by decide +kernel) ?_
            refine gball_not (by decide +kernel) ?_
            exact gball_end (by decide +kernel)
          refine gk_freeze _ (by intro _; first | ((repeat (first | with_reducible exact Upd.here _ | with_reducible apply Upd.there)); done) | ((repeat (first | exact Upd.here _ | apply Upd.there)); done) | fail) (fun A4 c4 hA4 hA41 hA42 hA43 => ?_); subst hA4
          refine gk_shareN rfl (φ := sl A4 12 LrE (L.set i (⟨x.r, (x.t + x.r.e), false⟩ : LrD))) (by repeat (first | with_reducible exact Sel.here | with_reducible apply Sel.there)) (fun hnew => ?_)
          refine gk_again_sel rfl (A4, c4, L.set i (⟨x.r, (x.t + x.r.e), false⟩ : LrD), againP (L0.map fun x => x.r.e) ⟨x.t, 0, (i : Int)⟩ S, x.t, A3, c3, l ++ [i], out ++ [(⟨pk, pv, pi, pb, pc, pp, ⟨A1, n1, c1⟩, D1, ⟨A2, n2, c2⟩, M1⟩ : OpD)]) (hst ⟨A4, (L.set i (⟨x.r, (x.t + x.r.e), false⟩ : LrD)).length, c4⟩ ⟨by rw [List.length_set], hA41, hA42, hA43⟩ (fun b hb => .inl (hnew b hb))) (by dsimp only; simp only [List.length_append, List.length_cons, List.length_nil]; omega) (by repeat (first | exact trivial | refine ⟨rfl, ?_⟩)) sA sS
  · have e1 := hI.full hlt
    (repeat (refine gG ?_; try intro _))
    refine gk_cond_f rfl (congrArg some (congrArg Value.bool (tB_false (by omega)))) ?_
    (repeat (refine gG ?_; try intro _))
    refine gk_ret hT rfl rfl (.tmp rfl (.tmp rfl (.tmp rfl .nil))) (fun w' hk => ?_)
    have hk := hk.freeze (A := oA) (n := out.length) (c := oc) (L := out) rfl (by first | ((repeat (first | with_reducible exact Upd.here _ | with_reducible apply Upd.there)); done) | ((repeat (first | exact Upd.here _ | apply Upd.there)); done) | fail)
    exact RetS.mk (⟨⟨sA, L.length, sc⟩, L, now, ⟨oA, out.length, oc⟩, out⟩ : LuD) ⟨by rw [e1]; exact hI.rel, by rw [e1], by rw [e1]; exact hI.out, hI.same, hI.ok, hI.sok, rfl⟩ rfl hk (.cons (RS1.rd hk mE hI.new) (.cons (RS1.own hk mE) (.cons (RS1.own hk mE) (.cons (RS1.own hk mE) .nil))))
end Go.Proofs.Ytgpfedmfbkhhcaa.Sd

