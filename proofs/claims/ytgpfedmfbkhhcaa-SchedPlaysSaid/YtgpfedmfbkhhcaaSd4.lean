/- sched.Plan: Add. -/
import Derived.Test.YtgpfedmfbkhhcaaSd3
import Derived.Test.YtgpfedmfbkhhcaaOpD
namespace Go.Proofs.Ytgpfedmfbkhhcaa.Sd
open Go.RowKit Mem Gx Hp Du Dv OpA
set_option linter.unusedVariables false
set_option linter.unusedSimpArgs false
set_option maxRecDepth 100000
set_option maxHeartbeats 4000000
theorem oright' (o : OpD) (w : World) (ho : o.Ok) (hs : Sl w o.m.A 1 (IE .i64) o.M) (h9 : o.M.length ≤ 100000) : Calls Try.prog 37 [o.val].toArray w fun e w' => e = .returned (.bool (rrightB o)) ∧ Below w.heap.size w w' := by
  rw [← right_eq o, ← ho.a.n]; exact right_any _ _ _ _ _ _ _ _ _ _ _ _ _ w ho.m.n (by have := ho.m.n; omega) hs
theorem elt_Ru : Elt Try.prog 24 40 10 112 := Elt.mk' (z := .agg #[.int .u64 0, .int .u64 0, .int .i64 0, .int .i64 0, .int .i64 0, .int .i64 0, .int .i64 0, .int .u64 0, .slice none 0 0, .slice none 0 0]) Try.underlying24 (by kernel_rfl) rfl (by decide)
theorem oneRu : ∀ (x : RuD) (j : Nat), (RuE x j).oneCell' = true := by
  intro x j
  rcases j with _ | _ | _ | _ | _ | _ | _ | _ | _ | j <;> rfl
/-- A plan. -/
structure PlD where
  ru : Value
  s : QuS
  now : Int
  L : List RuD
abbrev plL (g : Nat) (P : PlD) : List Fact := [quF g P.ru (.int .u64 P.now) P.s, own 0 40 10 P.ru RuE P.L]
abbrev plF (g : Nat) (P : PlD) : Fact := packF (plL g P)
theorem padd_bad (g : Nat) (P : PlD) (r : RuD) (w : World) (ho : r.o.Ok) (hi : Rd1 w (fmF r.o)) (h9 : r.o.M.length ≤ 100000) (hbad : rrightB r.o = false ∨ r.f < P.now) (h : Rd1 w (plF g P)) :
    Calls Try.prog 11 [.pointer (some ⟨g, 0, none⟩), .agg #[.int .u64 r.f, .int .u64 r.e, .int .i64 r.o.k, .int .i64 r.o.v, .int .i64 r.o.i, .int .i64 r.o.b, .int .i64 r.o.c, .int .u64 r.o.p, r.o.a.v, r.o.m.v]].toArray w fun e w' => e = .returned (.tuple #[.int .i64 0, .int .i64 10]) ∧ Below w.heap.size w w' := by
  obtain ⟨rf, re, ⟨xk, xv, xi, xb, xc, xp, ⟨xA, xn, xa⟩, xD, ⟨xB, xm, xe⟩, xM⟩⟩ := r
  dsimp only [OpD.val, opV, SlV.v] at *
  obtain ⟨ru, s, now, L⟩ := P
  have hb := qu_blk (h.unpack (.head _))
  have hc : ∀ {b : Bool}, rrightB (⟨xk, xv, xi, xb, xc, xp, ⟨xA, xn, xa⟩, xD, ⟨xB, xm, xe⟩, xM⟩ : OpD) = b → ∀ w, Rd1 w (sl xB 1 (IE .i64) xM) → Calls Try.prog 37 [((⟨xk, xv, xi, xb, xc, xp, ⟨xA, xn, xa⟩, xD, ⟨xB, xm, xe⟩, xM⟩ : OpD)).val].toArray w fun e w' => e = .returned (.bool b) ∧ Below w.heap.size w w' := fun {b} hb w h => by
    have h2 := oright' (⟨xk, xv, xi, xb, xc, xp, ⟨xA, xn, xa⟩, xD, ⟨xB, xm, xe⟩, xM⟩ : OpD) w ho h.1 h9
    rwa [hb] at h2
  refine g_enter0 T [] [] [blk g [ru, s.v, .map s.mo, .int .u64 now] 33, sl xB 1 (IE .i64) xM] Try.func11 rfl Try.ntmps11 rfl (Rds.cons hb (.cons hi .nil)).kn ?_
  refine gk_rowR (g := g) mE ?_
  (repeat (refine gG ?_; try intro _))
  rename_i g3
  refine gk_any [0, 1, 2, 3] (Cut _ (fun _ : Unit => [(19, .bool true)]) (fun _ => []) (fun _ => [])) rfl rfl (by kernel_rfl) ?_ (cut_k fun _ => ?_)
  · cases hr : rrightB (⟨xk, xv, xi, xb, xc, xp, ⟨xA, xn, xa⟩, xD, ⟨xB, xm, xe⟩, xM⟩ : OpD) with
    | false =>
      refine gb_take 0 rfl (by decide +kernel) rfl rfl (ys_ev (nw := true) hT rfl sI) sF ?_
      refine gb_take 1 rfl (by decide +kernel) rfl rfl (by first | exact ys_blk hT rfl rfl mE rfl rfl | exact ys_row hT rfl rfl mE rfl rfl | exact ys_row0 hT rfl rfl mE rfl rfl) sF ?_
      refine gb_only 2 (by decide +kernel) rfl rfl ?_
      refine mv_call_bel (fun w hk => hc hr w (hk.rR (φ := sl xB 1 (IE .i64) xM) mE)) rfl rfl rfl rfl rfl (by kernel_rfl) ?_
      refine ⟨sF, ?_⟩
      refine gb_take 3 rfl (by decide +kernel) rfl rfl (ys_ev (nw := true) hT rfl sI) sF ?_
      refine gb_take 4 rfl (by decide +kernel) rfl rfl (ys_ev (nw := true) hT rfl sI) sF ?_
      first | refine gb_take 5 rfl (by decide +kernel) rfl rfl (ys_ev (nw := true) hT rfl sI) sF ?_ | refine gb_skip 5 rfl (by decide +kernel) rfl rfl sF ?_
      first | refine gb_take 6 rfl (by decide +kernel) rfl rfl (by first | exact ys_blk hT rfl rfl mE rfl rfl | exact ys_row hT rfl rfl mE rfl rfl | exact ys_row0 hT rfl rfl mE rfl rfl) sF ?_ | refine gb_skip 6 rfl (by decide +kernel) rfl rfl sF ?_
      first | refine gb_take 7 rfl (by decide +kernel) rfl rfl (ys_ev (nw := true) hT rfl sI) sF ?_ | refine gb_skip 7 rfl (by decide +kernel) rfl rfl sF ?_
      first | refine gb_take 8 rfl (by decide +kernel) rfl rfl (ys_ev (nw := true) hT rfl sI) sF ?_ | refine gb_skip 8 rfl (by decide +kernel) rfl rfl sF ?_
      first | refine gb_take 9 rfl (by decide +kernel) rfl rfl (ys_ev (nw := true) hT rfl sI) sF ?_ | refine gb_skip 9 rfl (by decide +kernel) rfl rfl sF ?_
      first | refine gb_take 10 rfl (by decide +kernel) rfl rfl (by first | exact ys_blk hT rfl rfl mE rfl rfl | exact ys_row hT rfl rfl mE rfl rfl | exact ys_row0 hT rfl rfl mE rfl rfl) sF ?_ | refine gb_skip 10 rfl (by decide +kernel) rfl rfl sF ?_
      first | refine gb_take 11 rfl (by decide +kernel) rfl rfl (ys_ev (nw := true) hT rfl sI) sF ?_ | refine gb_skip 11 rfl (by decide +kernel) rfl rfl sF ?_
      refine gb_take 12 rfl (by decide +kernel) rfl rfl (ys_ev (nw := true) hT rfl sI) sF ?_
      refine gb_nil (by decide +kernel) ?_
      exact ⟨(), (by repeat (first | exact trivial | refine ⟨rfl, ?_⟩)), sA, sS⟩
    | true =>
      have hl : rf < now := hbad.resolve_left (by rw [hr]; decide)
      refine gb_take 0 rfl (by decide +kernel) rfl rfl (ys_ev (nw := true) hT rfl sI) sF ?_
      refine gb_take 1 rfl (by decide +kernel) rfl rfl (by first | exact ys_blk hT rfl rfl mE rfl rfl | exact ys_row hT rfl rfl mE rfl rfl | exact ys_row0 hT rfl rfl mE rfl rfl) sF ?_
      refine gb_only 2 (by decide +kernel) rfl rfl ?_
      refine mv_call_bel (fun w hk => hc hr w (hk.rR (φ := sl xB 1 (IE .i64) xM) mE)) rfl rfl rfl rfl rfl (by kernel_rfl) ?_
      refine ⟨sF, ?_⟩
      refine gb_take 3 rfl (by decide +kernel) rfl rfl (ys_ev (nw := true) hT rfl sI) sF ?_
      refine gb_take 4 rfl (by decide +kernel) rfl rfl (ys_ev (nw := true) hT rfl sI) sF ?_
      first | refine gb_take 5 rfl (by decide +kernel) rfl rfl (ys_ev (nw := true) hT rfl sI) sF ?_ | refine gb_skip 5 rfl (by decide +kernel) rfl rfl sF ?_
      first | refine gb_take 6 rfl (by decide +kernel) rfl rfl (by first | exact ys_blk hT rfl rfl mE rfl rfl | exact ys_row hT rfl rfl mE rfl rfl | exact ys_row0 hT rfl rfl mE rfl rfl) sF ?_ | refine gb_skip 6 rfl (by decide +kernel) rfl rfl sF ?_
      first | refine gb_take 7 rfl (by decide +kernel) rfl rfl (ys_ev (nw := true) hT rfl sI) sF ?_ | refine gb_skip 7 rfl (by decide +kernel) rfl rfl sF ?_
      first | refine gb_take 8 rfl (by decide +kernel) rfl rfl (ys_ev (nw := true) hT rfl sI) sF ?_ | refine gb_skip 8 rfl (by decide +kernel) rfl rfl sF ?_
      first | refine gb_take 9 rfl (by decide +kernel) rfl rfl (ys_ev (nw := true) hT rfl sI) sF ?_ | refine gb_skip 9 rfl (by decide +kernel) rfl rfl sF ?_
      first | refine gb_take 10 rfl (by decide +kernel) rfl rfl (by first | exact ys_blk hT rfl rfl mE rfl rfl | exact ys_row hT rfl rfl mE rfl rfl | exact ys_row0 hT rfl rfl mE rfl rfl) sF ?_ | refine gb_skip 10 rfl (by decide +kernel) rfl rfl sF ?_
      first | refine gb_take 11 rfl (by decide +kernel) rfl rfl (ys_ev (nw := true) hT rfl sI) sF ?_ | refine gb_skip 11 rfl (by decide +kernel) rfl rfl sF ?_
      try (refine gb_say 18 (.bool true) rfl (congrArg Value.bool (tB_true hl)) ?_)
      refine gb_take 12 rfl (by decide +kernel) rfl rfl (ys_ev (nw := true) hT rfl sI) sF ?_
      refine gb_nil (by decide +kernel) ?_
      exact ⟨(), (by repeat (first | exact trivial | refine ⟨rfl, ?_⟩)), sA, sS⟩
  · (repeat (refine gG ?_; try intro _))
    refine gk_ret hT rfl rfl (.tmp rfl (.tmp rfl .nil)) (fun w' hk => ?_)
    exact ⟨rfl, hk.toBelow⟩
theorem padd_ok (g : Nat) (P : PlD) (S : List Tim) (r : RuD) (w : World) (ho : r.o.Ok) (ha : Rd1 w (faF r.o)) (hm : Rd1 w (fmF r.o)) (h9D : r.o.D.length ≤ 100000) (h9 : r.o.M.length ≤ 100000) (hL9 : P.L.length ≤ 1000) (hS9 : S.length < 10000) (hs : QuOk P.s.mo P.s.L S)
    (hdis : ∀ b, (plF g P).S b → ¬ (faF r.o).S b ∧ ¬ (fmF r.o).S b) (hr : rrightB r.o = true) (hf : P.now ≤ r.f) (h : Rd1 w (plF g P)) :
    Calls Try.prog 11 [.pointer (some ⟨g, 0, none⟩), .agg #[.int .u64 r.f, .int .u64 r.e, .int .i64 r.o.k, .int .i64 r.o.v, .int .i64 r.o.i, .int .i64 r.o.b, .int .i64 r.o.c, .int .u64 r.o.p, r.o.a.v, r.o.m.v]].toArray w (RetM (plF g P) (fun q : PlD × OpD => QuOk q.1.s.mo q.1.s.L (setP ⟨r.f, 0, (P.L.length : Int)⟩ S) ∧ q.1.now = P.now ∧ q.1.L = P.L ++ [⟨r.f, r.e, q.2⟩] ∧ PlainAt r.o (looks r.o.k) q.2) (fun _ => .tuple #[.int .i64 (P.L.length : Int), .int .i64 0]) (fun q => packF [quF g q.1.ru (.int .u64 q.1.now) q.1.s, own 0 40 10 q.1.ru RuE q.1.L, faF q.2, fmF q.2]) w) := by
  obtain ⟨rf, re, ⟨xk, xv, xi, xb, xc, xp, ⟨xA, xn, xa⟩, xD, ⟨xB, xm, xe⟩, xM⟩⟩ := r
  dsimp only [OpD.val, opV, SlV.v] at *
  obtain ⟨ru, ⟨mo, v, Lq⟩, now, L⟩ := P
  dsimp only at hL9 hs hf
  obtain ⟨A, c, hru, _⟩ := own_rdv (h.unpack (.tail _ (.head _)))
  replace hru : ru = .slice A L.length c := hru
  subst hru
  have hc : ∀ w, Rd1 w (sl xB 1 (IE .i64) xM) → Calls Try.prog 37 [((⟨xk, xv, xi, xb, xc, xp, ⟨xA, xn, xa⟩, xD, ⟨xB, xm, xe⟩, xM⟩ : OpD)).val].toArray w fun e w' => e = .returned (.bool true) ∧ Below w.heap.size w w' := fun w h => by
    have h2 := oright' (⟨xk, xv, xi, xb, xc, xp, ⟨xA, xn, xa⟩, xD, ⟨xB, xm, xe⟩, xM⟩ : OpD) w ho h.1 h9
    rwa [hr] at h2
  cases mo with
  | none =>
    refine g_enter0 T (finE (plF g ⟨.slice A L.length c, ⟨none, v, Lq⟩, now, L⟩) w) [quF g (.slice A L.length c) (.int .u64 now) ⟨none, v, Lq⟩, own 0 40 10 (.slice A L.length c) RuE L] [sl xA 1 (IE .u8) xD, sl xB 1 (IE .i64) xM] Try.func11 rfl Try.ntmps11 rfl (Kn.startP h (fun b hb => (finE_mem h.2 b).2 hb) (fun ψ hψ => by rcases List.mem_cons.1 hψ with rfl | hψ; exact ⟨ha, fun b hb => (hdis b hb).1⟩; obtain rfl := List.mem_singleton.1 hψ; exact ⟨hm, fun b hb => (hdis b hb).2⟩)) ?_
    rw [show quF g (.slice A L.length c) (.int .u64 now) ⟨none, v, Lq⟩ = packF [blk g [.slice A L.length c, v, .map none, .int .u64 now] 33, own 0 87 3 v TE Lq] from rfl]
    refine gk_unpack (l := [blk g [.slice A L.length c, v, .map none, .int .u64 now] 33, own 0 87 3 v TE Lq]) (by repeat (first | with_reducible exact Sel.here | with_reducible apply Sel.there)) ?_
    (repeat (refine gG ?_; try intro _))
    rename_i g3
    refine gk_sel (f' := [(0, .pointer (some ⟨g, 0, none⟩)), (3, .pointer (some ⟨g3, 0, none⟩))]) (O' := [blk g [.slice A L.length c, v, .map none, .int .u64 now] 33, own 0 40 10 (.slice A L.length c) RuE L, blk g3 [.int .u64 rf, .int .u64 re, .int .i64 xk, .int .i64 xv, .int .i64 xi, .int .i64 xb, .int .i64 xc, .int .u64 xp, .slice xA xn xa, .slice xB xm xe] 40, own 0 87 3 v TE Lq]) (R' := [sl xA 1 (IE .u8) xD, sl xB 1 (IE .i64) xM]) (by repeat (first | exact trivial | refine ⟨rfl, ?_⟩)) sA sS ?_
    refine gk_any [0, 1, 2, 3, 4, 5] (Cut _ (fun _ : Unit => [(0, .pointer (some ⟨g, 0, none⟩)), (3, .pointer (some ⟨g3, 0, none⟩)), (19, .bool false)]) (fun _ => [blk g [.slice A L.length c, v, .map none, .int .u64 now] 33, own 0 40 10 (.slice A L.length c) RuE L, blk g3 [.int .u64 rf, .int .u64 re, .int .i64 xk, .int .i64 xv, .int .i64 xi, .int .i64 xb, .int .i64 xc, .int .u64 xp, .slice xA xn xa, .slice xB xm xe] 40, own 0 87 3 v TE Lq]) (fun _ => [sl xA 1 (IE .u8) xD, sl xB 1 (IE .i64) xM])) rfl rfl (by kernel_rfl) ?_ (cut_k fun _ => ?_)
    · skip
      refine gb_take 0 rfl (by decide +kernel) rfl rfl (ys_ev (nw := true) hT rfl sI) sF ?_
      refine gb_take 1 rfl (by decide +kernel) rfl rfl (by first | exact ys_blk hT rfl rfl mE rfl rfl | exact ys_row hT rfl rfl mE rfl rfl | exact ys_row0 hT rfl rfl mE rfl rfl) sF ?_
      refine gb_only 2 (by decide +kernel) rfl rfl ?_
      refine mv_call_bel (fun w hk => hc w (hk.rR (φ := sl xB 1 (IE .i64) xM) mE)) rfl rfl rfl rfl rfl (by kernel_rfl) ?_
      refine ⟨sF, ?_⟩
      refine gb_take 3 rfl (by decide +kernel) rfl rfl (ys_ev (nw := true) hT rfl sI) sF ?_
      refine gb_take 4 rfl (by decide +kernel) rfl rfl (ys_ev (nw := true) hT rfl sI) sF ?_
      first | refine gb_take 5 rfl (by decide +kernel) rfl rfl (ys_ev (nw := true) hT rfl sI) sF ?_ | refine gb_skip 5 rfl (by decide +kernel) rfl rfl sF ?_
      first | refine gb_take 6 rfl (by decide +kernel) rfl rfl (by first | exact ys_blk hT rfl rfl mE rfl rfl | exact ys_row hT rfl rfl mE rfl rfl | exact ys_row0 hT rfl rfl mE rfl rfl) sF ?_ | refine gb_skip 6 rfl (by decide +kernel) rfl rfl sF ?_
      first | refine gb_take 7 rfl (by decide +kernel) rfl rfl (ys_ev (nw := true) hT rfl sI) sF ?_ | refine gb_skip 7 rfl (by decide +kernel) rfl rfl sF ?_
      first | refine gb_take 8 rfl (by decide +kernel) rfl rfl (ys_ev (nw := true) hT rfl sI) sF ?_ | refine gb_skip 8 rfl (by decide +kernel) rfl rfl sF ?_
      first | refine gb_take 9 rfl (by decide +kernel) rfl rfl (ys_ev (nw := true) hT rfl sI) sF ?_ | refine gb_skip 9 rfl (by decide +kernel) rfl rfl sF ?_
      first | refine gb_take 10 rfl (by decide +kernel) rfl rfl (by first | exact ys_blk hT rfl rfl mE rfl rfl | exact ys_row hT rfl rfl mE rfl rfl | exact ys_row0 hT rfl rfl mE rfl rfl) sF ?_ | refine gb_skip 10 rfl (by decide +kernel) rfl rfl sF ?_
      first | refine gb_take 11 rfl (by decide +kernel) rfl rfl (ys_ev (nw := true) hT rfl sI) sF ?_ | refine gb_skip 11 rfl (by decide +kernel) rfl rfl sF ?_
      try (refine gb_say 18 (.bool false) rfl (congrArg Value.bool (tB_false (by omega))) ?_)
      refine gb_take 12 rfl (by decide +kernel) rfl rfl (ys_ev (nw := true) hT rfl sI) sF ?_
      refine gb_nil (by decide +kernel) ?_
      exact ⟨(), (by repeat (first | exact trivial | refine ⟨rfl, ?_⟩)), sA, sS⟩
    (repeat (refine gG ?_; try intro _))
    refine g_mv rfl ?_; refine mv_call_rt (fun w hk => plain_any (⟨xk, xv, xi, xb, xc, xp, ⟨xA, xn, xa⟩, xD, ⟨xB, xm, xe⟩, xM⟩ : OpD) w ho ⟨hk.pR (sl xA 1 (IE .u8) xD) mE, hk.pR (sl xB 1 (IE .i64) xM) mE⟩ h9D h9) rfl rfl rfl rfl rfl (by kernel_rfl) (fun _ => rfl) (fun p hp => ?_)
    obtain ⟨pk, pv, pi, pb, pc, pp, ⟨A1, n1, c1⟩, D1, ⟨A2, n2, c2⟩, M1⟩ := p
    dsimp only [OpD.fs, OpD.val] at hp ⊢
    (repeat (refine gG ?_; try intro _))
    refine gk_sel (f' := [(0, .pointer (some ⟨g, 0, none⟩)), (3, .pointer (some ⟨g3, 0, none⟩)), (6, .int .i64 (L.length : Int))]) (O' := [blk g [.slice A L.length c, v, .map none, .int .u64 now] 33, own 0 40 10 (.slice A L.length c) RuE L, blk g3 [.int .u64 rf, .int .u64 re, .int .i64 pk, .int .i64 pv, .int .i64 pi, .int .i64 pb, .int .i64 pc, .int .u64 pp, .slice A1 n1 c1, .slice A2 n2 c2] 40, own 0 87 3 v TE Lq, sl A1 1 (IE .u8) D1, sl A2 1 (IE .i64) M1]) (R' := [sl xA 1 (IE .u8) xD, sl xB 1 (IE .i64) xM]) (by repeat (first | exact trivial | refine ⟨rfl, ?_⟩)) sA sS ?_
    refine gk_any [2, 3, 4, 5, 6, 7] (Cut _ (fun q : Option Addr × Nat => [(0, .pointer (some ⟨g, 0, none⟩)), (3, .pointer (some ⟨g3, 0, none⟩)), (6, .int .i64 (L.length : Int))]) (fun q => [blk g [.slice q.1 (L ++ [(⟨rf, re, (⟨pk, pv, pi, pb, pc, pp, ⟨A1, n1, c1⟩, D1, ⟨A2, n2, c2⟩, M1⟩ : OpD)⟩ : RuD)]).length q.2, v, .map none, .int .u64 now] 33, own 0 40 10 (.slice q.1 (L ++ [(⟨rf, re, (⟨pk, pv, pi, pb, pc, pp, ⟨A1, n1, c1⟩, D1, ⟨A2, n2, c2⟩, M1⟩ : OpD)⟩ : RuD)]).length q.2) RuE (L ++ [(⟨rf, re, (⟨pk, pv, pi, pb, pc, pp, ⟨A1, n1, c1⟩, D1, ⟨A2, n2, c2⟩, M1⟩ : OpD)⟩ : RuD)]), blk g3 [.int .u64 rf, .int .u64 re, .int .i64 pk, .int .i64 pv, .int .i64 pi, .int .i64 pb, .int .i64 pc, .int .u64 pp, .slice A1 n1 c1, .slice A2 n2 c2] 40, own 0 87 3 v TE Lq, sl A1 1 (IE .u8) D1, sl A2 1 (IE .i64) M1]) (fun _ => [sl xA 1 (IE .u8) xD, sl xB 1 (IE .i64) xM])) rfl rfl (by kernel_rfl) ?_ (cut_k fun q => ?_)
    · skip
      refine gb_take 0 rfl (by decide +kernel) rfl rfl (ys_ev (nw := true) hT rfl sI) sF ?_
      refine gb_take 1 rfl (by decide +kernel) rfl rfl (ys_ev (nw := true) hT rfl sI) sF ?_
      refine gb_take 2 rfl (by decide +kernel) rfl rfl (ys_ev (nw := true) hT rfl sI) sF ?_
      refine gb_take 3 rfl (by decide +kernel) rfl rfl (ys_ev (nw := true) hT rfl sI) sF ?_
      refine gb_take 5 rfl (by decide +kernel) rfl rfl (by first | exact ys_blk hT rfl rfl mE rfl rfl | exact ys_row hT rfl rfl mE rfl rfl | exact ys_row0 hT rfl rfl mE rfl rfl) sF ?_
      refine gb_all (by decide +kernel) ?_
      refine gball_not (by decide +kernel) ?_
      refine gball_not (by decide +kernel) ?_
      refine gball_not (by decide +kernel) ?_
      refine gball_not (by decide +kernel) ?_
      refine gball_yes rfl rfl ?_ ?_
      · refine mv_yd rfl (yd_load_blk hT rfl rfl mE rfl rfl) ?_
        refine ⟨sF, ?_⟩
        refine gb_only 6 (by decide +kernel) rfl rfl ?_
        (refine mv_buildSlice (len := 1) rfl hT rfl rfl rfl rfl rfl rfl rfl rfl ?_; intro g6)
        refine ⟨sF, ?_⟩
        refine gb_only 7 (by decide +kernel) rfl rfl ?_
        (refine mv_append (L := L) rfl [(⟨rf, re, (⟨pk, pv, pi, pb, pc, pp, ⟨A1, n1, c1⟩, D1, ⟨A2, n2, c2⟩, M1⟩ : OpD)⟩ : RuD)] rfl rfl rfl rfl elt_Ru (by intro _; first | ((repeat (first | with_reducible exact Upd.here _ | with_reducible apply Upd.there)); done) | ((repeat (first | exact Upd.here _ | apply Upd.there)); done) | fail) (src_blk mE rfl) rfl oneRu (by simp only [maxLen, List.length_append, List.length_cons, List.length_nil]; omega) (by simp only [List.length_append, List.length_cons, List.length_nil]; omega) (Nat.zero_le _) ?_; intro v2)
        refine ⟨sF, ?_⟩
        (refine gb_ownv v2 mE (fun A3 c3 hv3 _ _ _ => ?_); subst hv3)
        refine gb_take 8 rfl (by decide +kernel) rfl rfl (ys_ev (nw := true) hT rfl sI) sF ?_
        refine gb_take 9 rfl (by decide +kernel) rfl rfl (ys_ev (nw := true) hT rfl sI) sF ?_
        refine gb_only 10 (by decide +kernel) rfl rfl ?_
        first | (refine mv_box rfl rfl rfl rfl ?_; intro _) | (refine mv_alloc rfl hT rfl rfl ?_; intro _) | refine mv_store hT rfl rfl rfl rfl rfl rfl sO rfl ?_ | (refine mv_buildSlice rfl hT rfl rfl rfl rfl rfl rfl rfl rfl ?_; intro _)
        refine ⟨sF, ?_⟩
        refine gb_nil (by decide +kernel) ?_
        exact ⟨(A3, c3), (by repeat (first | exact trivial | refine ⟨rfl, ?_⟩)), sA, sS⟩
      refine gball_not (by decide +kernel) ?_
      refine gball_yes rfl rfl ?_ ?_
      · (refine mv_buildSlice (len := 1) rfl hT rfl rfl rfl rfl rfl rfl rfl rfl ?_; intro g6)
        refine ⟨sF, ?_⟩
        refine gb_only 4 (by decide +kernel) rfl rfl ?_
        refine mv_yd rfl (yd_load_blk hT rfl rfl mE rfl rfl) ?_
        refine ⟨sF, ?_⟩
        refine gb_only 7 (by decide +kernel) rfl rfl ?_
        (refine mv_append (L := L) rfl [(⟨rf, re, (⟨pk, pv, pi, pb, pc, pp, ⟨A1, n1, c1⟩, D1, ⟨A2, n2, c2⟩, M1⟩ : OpD)⟩ : RuD)] rfl rfl rfl rfl elt_Ru (by intro _; first | ((repeat (first | with_reducible exact Upd.here _ | with_reducible apply Upd.there)); done) | ((repeat (first | exact Upd.here _ | apply Upd.there)); done) | fail) (src_blk mE rfl) rfl oneRu (by simp only [maxLen, List.length_append, List.length_cons, List.length_nil]; omega) (by simp only [List.length_append, List.length_cons, List.length_nil]; omega) (Nat.zero_le _) ?_; intro v2)
        refine ⟨sF, ?_⟩
        (refine gb_ownv v2 mE (fun A3 c3 hv3 _ _ _ => ?_); subst hv3)
        refine gb_take 8 rfl (by decide +kernel) rfl rfl (ys_ev (nw := true) hT rfl sI) sF ?_
        refine gb_take 9 rfl (by decide +kernel) rfl rfl (ys_ev (nw := true) hT rfl sI) sF ?_
        refine gb_only 10 (by decide +kernel) rfl rfl ?_
        first | (refine mv_box rfl rfl rfl rfl ?_; intro _) | (refine mv_alloc rfl hT rfl rfl ?_; intro _) | refine mv_store hT rfl rfl rfl rfl rfl rfl sO rfl ?_ | (refine mv_buildSlice rfl hT rfl rfl rfl rfl rfl rfl rfl rfl ?_; intro _)
        refine ⟨sF, ?_⟩
        refine gb_nil (by decide +kernel) ?_
        exact ⟨(A3, c3), (by repeat (first | exact trivial | refine ⟨rfl, ?_⟩)), sA, sS⟩
      refine gball_not (by decide +kernel) ?_
      refine gball_not (by decide +kernel) ?_
      refine gball_not (by decide +kernel) ?_
      refine gball_not (by decide +kernel) ?_
      exact gball_end (by decide +kernel)
    obtain ⟨A3, c3⟩ := q
    dsimp only
    (repeat (refine gG ?_; try intro _))
    refine gk_pack (quL g (.slice A3 (L ++ [(⟨rf, re, (⟨pk, pv, pi, pb, pc, pp, ⟨A1, n1, c1⟩, D1, ⟨A2, n2, c2⟩, M1⟩ : OpD)⟩ : RuD)]).length c3) (.int .u64 now) ⟨none, v, Lq⟩) [own 0 40 10 (.slice A3 (L ++ [(⟨rf, re, (⟨pk, pv, pi, pb, pc, pp, ⟨A1, n1, c1⟩, D1, ⟨A2, n2, c2⟩, M1⟩ : OpD)⟩ : RuD)]).length c3) RuE (L ++ [(⟨rf, re, (⟨pk, pv, pi, pb, pc, pp, ⟨A1, n1, c1⟩, D1, ⟨A2, n2, c2⟩, M1⟩ : OpD)⟩ : RuD)]), blk g3 [.int .u64 rf, .int .u64 re, .int .i64 pk, .int .i64 pv, .int .i64 pi, .int .i64 pb, .int .i64 pc, .int .u64 pp, .slice A1 n1 c1, .slice A2 n2 c2] 40, sl A1 1 (IE .u8) D1, sl A2 1 (IE .i64) M1] sA ?_
    refine gk_any [1, 2, 3, 4, 5, 6] (Cut _ (fun q : { s' : QuS // QuOk s'.mo s'.L (setP ⟨rf, 0, (L.length : Int)⟩ S) } => [(6, .int .i64 (L.length : Int))]) (fun q => [quF g (.slice A3 (L ++ [(⟨rf, re, (⟨pk, pv, pi, pb, pc, pp, ⟨A1, n1, c1⟩, D1, ⟨A2, n2, c2⟩, M1⟩ : OpD)⟩ : RuD)]).length c3) (.int .u64 now) q.1, own 0 40 10 (.slice A3 (L ++ [(⟨rf, re, (⟨pk, pv, pi, pb, pc, pp, ⟨A1, n1, c1⟩, D1, ⟨A2, n2, c2⟩, M1⟩ : OpD)⟩ : RuD)]).length c3) RuE (L ++ [(⟨rf, re, (⟨pk, pv, pi, pb, pc, pp, ⟨A1, n1, c1⟩, D1, ⟨A2, n2, c2⟩, M1⟩ : OpD)⟩ : RuD)]), sl A1 1 (IE .u8) D1, sl A2 1 (IE .i64) M1]) (fun _ => [])) rfl rfl (by kernel_rfl) ?_ (cut_k fun q => ?_)
    · skip
      refine gb_take 0 rfl (by decide +kernel) rfl rfl (ys_ev (nw := true) hT rfl sI) sF ?_
      refine gb_take 1 rfl (by decide +kernel) rfl rfl (ys_ev (nw := true) hT rfl sI) sF ?_
      refine gb_take 2 rfl (by decide +kernel) rfl rfl (ys_ev (nw := true) hT rfl sI) sF ?_
      refine gb_take 3 rfl (by decide +kernel) rfl rfl (ys_ev (nw := true) hT rfl sI) sF ?_
      refine gb_take 4 rfl (by decide +kernel) rfl rfl (by first | exact ys_blk hT rfl rfl mE rfl rfl | exact ys_row hT rfl rfl mE rfl rfl | exact ys_row0 hT rfl rfl mE rfl rfl) sF ?_
      refine gb_take 5 rfl (by decide +kernel) rfl rfl (ys_ev (nw := true) hT rfl sI) sF ?_
      refine gb_take 6 rfl (by decide +kernel) rfl rfl (ys_ev (nw := true) hT rfl sI) sF ?_
      refine gb_only 7 (by decide +kernel) rfl rfl ?_
      refine mv_call_mod (φ := quF g (.slice A3 (L ++ [(⟨rf, re, (⟨pk, pv, pi, pb, pc, pp, ⟨A1, n1, c1⟩, D1, ⟨A2, n2, c2⟩, M1⟩ : OpD)⟩ : RuD)]).length c3) (.int .u64 now) ⟨none, v, Lq⟩) (ψ := fun s' : QuS => quF g (.slice A3 (L ++ [(⟨rf, re, (⟨pk, pv, pi, pb, pc, pp, ⟨A1, n1, c1⟩, D1, ⟨A2, n2, c2⟩, M1⟩ : OpD)⟩ : RuD)]).length c3) (.int .u64 now) s') (fun w1 hk => by exact qset_any g (.slice A3 (L ++ [(⟨rf, re, (⟨pk, pv, pi, pb, pc, pp, ⟨A1, n1, c1⟩, D1, ⟨A2, n2, c2⟩, M1⟩ : OpD)⟩ : RuD)]).length c3) (.int .u64 now) ⟨none, v, Lq⟩ S ⟨rf, 0, (L.length : Int)⟩ w1 hs hS9 (hk.rO (φ := quF g (.slice A3 (L ++ [(⟨rf, re, (⟨pk, pv, pi, pb, pc, pp, ⟨A1, n1, c1⟩, D1, ⟨A2, n2, c2⟩, M1⟩ : OpD)⟩ : RuD)]).length c3) (.int .u64 now) ⟨none, v, Lq⟩) mE)) rfl rfl rfl rfl rfl (by kernel_rfl) (by intro _; first | ((repeat (first | with_reducible exact Upd.here _ | with_reducible apply Upd.there)); done) | ((repeat (first | exact Upd.here _ | apply Upd.there)); done) | fail) (fun s' hs' => ?_)
      refine ⟨sF, ?_⟩
      refine gb_nil (by decide +kernel) ?_
      exact ⟨⟨s', hs'⟩, (by repeat (first | exact trivial | refine ⟨rfl, ?_⟩)), sA, sS⟩
    (repeat (refine gG ?_; try intro _))
    refine gk_ret hT rfl rfl (.tmp rfl (.tmp rfl .nil)) (fun w' hk => ?_)
    exact RetM.mkP (ll := fun q : PlD × OpD => [quF g q.1.ru (.int .u64 q.1.now) q.1.s, own 0 40 10 q.1.ru RuE q.1.L, faF q.2, fmF q.2]) ((⟨.slice A3 (L ++ [(⟨rf, re, (⟨pk, pv, pi, pb, pc, pp, ⟨A1, n1, c1⟩, D1, ⟨A2, n2, c2⟩, M1⟩ : OpD)⟩ : RuD)]).length c3, q.1, now, (L ++ [(⟨rf, re, (⟨pk, pv, pi, pb, pc, pp, ⟨A1, n1, c1⟩, D1, ⟨A2, n2, c2⟩, M1⟩ : OpD)⟩ : RuD)])⟩, (⟨pk, pv, pi, pb, pc, pp, ⟨A1, n1, c1⟩, D1, ⟨A2, n2, c2⟩, M1⟩ : OpD)) : PlD × OpD) ⟨q.2, rfl, rfl, hp⟩ rfl hk (fun b hb => (finE_mem h.2 b).1 hb) sA
  | some rq =>
    refine g_enter0 T (finE (plF g ⟨.slice A L.length c, ⟨some rq, v, Lq⟩, now, L⟩) w) [quF g (.slice A L.length c) (.int .u64 now) ⟨some rq, v, Lq⟩, own 0 40 10 (.slice A L.length c) RuE L] [sl xA 1 (IE .u8) xD, sl xB 1 (IE .i64) xM] Try.func11 rfl Try.ntmps11 rfl (Kn.startP h (fun b hb => (finE_mem h.2 b).2 hb) (fun ψ hψ => by rcases List.mem_cons.1 hψ with rfl | hψ; exact ⟨ha, fun b hb => (hdis b hb).1⟩; obtain rfl := List.mem_singleton.1 hψ; exact ⟨hm, fun b hb => (hdis b hb).2⟩)) ?_
    rw [show quF g (.slice A L.length c) (.int .u64 now) ⟨some rq, v, Lq⟩ = packF [blk g [.slice A L.length c, v, .map (some rq), .int .u64 now] 33, own 0 87 3 v TE Lq, mpx rq Lq] from rfl]
    refine gk_unpack (l := [blk g [.slice A L.length c, v, .map (some rq), .int .u64 now] 33, own 0 87 3 v TE Lq, mpx rq Lq]) (by repeat (first | with_reducible exact Sel.here | with_reducible apply Sel.there)) ?_
    (repeat (refine gG ?_; try intro _))
    rename_i g3
    refine gk_sel (f' := [(0, .pointer (some ⟨g, 0, none⟩)), (3, .pointer (some ⟨g3, 0, none⟩))]) (O' := [blk g [.slice A L.length c, v, .map (some rq), .int .u64 now] 33, own 0 40 10 (.slice A L.length c) RuE L, blk g3 [.int .u64 rf, .int .u64 re, .int .i64 xk, .int .i64 xv, .int .i64 xi, .int .i64 xb, .int .i64 xc, .int .u64 xp, .slice xA xn xa, .slice xB xm xe] 40, own 0 87 3 v TE Lq, mpx rq Lq]) (R' := [sl xA 1 (IE .u8) xD, sl xB 1 (IE .i64) xM]) (by repeat (first | exact trivial | refine ⟨rfl, ?_⟩)) sA sS ?_
    refine gk_any [0, 1, 2, 3, 4, 5, 6] (Cut _ (fun _ : Unit => [(0, .pointer (some ⟨g, 0, none⟩)), (3, .pointer (some ⟨g3, 0, none⟩)), (19, .bool false)]) (fun _ => [blk g [.slice A L.length c, v, .map (some rq), .int .u64 now] 33, own 0 40 10 (.slice A L.length c) RuE L, blk g3 [.int .u64 rf, .int .u64 re, .int .i64 xk, .int .i64 xv, .int .i64 xi, .int .i64 xb, .int .i64 xc, .int .u64 xp, .slice xA xn xa, .slice xB xm xe] 40, own 0 87 3 v TE Lq, mpx rq Lq]) (fun _ => [sl xA 1 (IE .u8) xD, sl xB 1 (IE .i64) xM])) rfl rfl (by kernel_rfl) ?_ (cut_k fun _ => ?_)
    · skip
      refine gb_take 0 rfl (by decide +kernel) rfl rfl (ys_ev (nw := true) hT rfl sI) sF ?_
      refine gb_take 1 rfl (by decide +kernel) rfl rfl (by first | exact ys_blk hT rfl rfl mE rfl rfl | exact ys_row hT rfl rfl mE rfl rfl | exact ys_row0 hT rfl rfl mE rfl rfl) sF ?_
      refine gb_only 2 (by decide +kernel) rfl rfl ?_
      refine mv_call_bel (fun w hk => hc w (hk.rR (φ := sl xB 1 (IE .i64) xM) mE)) rfl rfl rfl rfl rfl (by kernel_rfl) ?_
      refine ⟨sF, ?_⟩
      refine gb_take 3 rfl (by decide +kernel) rfl rfl (ys_ev (nw := true) hT rfl sI) sF ?_
      refine gb_take 4 rfl (by decide +kernel) rfl rfl (ys_ev (nw := true) hT rfl sI) sF ?_
      first | refine gb_take 5 rfl (by decide +kernel) rfl rfl (ys_ev (nw := true) hT rfl sI) sF ?_ | refine gb_skip 5 rfl (by decide +kernel) rfl rfl sF ?_
      first | refine gb_take 6 rfl (by decide +kernel) rfl rfl (by first | exact ys_blk hT rfl rfl mE rfl rfl | exact ys_row hT rfl rfl mE rfl rfl | exact ys_row0 hT rfl rfl mE rfl rfl) sF ?_ | refine gb_skip 6 rfl (by decide +kernel) rfl rfl sF ?_
      first | refine gb_take 7 rfl (by decide +kernel) rfl rfl (ys_ev (nw := true) hT rfl sI) sF ?_ | refine gb_skip 7 rfl (by decide +kernel) rfl rfl sF ?_
      first | refine gb_take 8 rfl (by decide +kernel) rfl rfl (ys_ev (nw := true) hT rfl sI) sF ?_ | refine gb_skip 8 rfl (by decide +kernel) rfl rfl sF ?_
      first | refine gb_take 9 rfl (by decide +kernel) rfl rfl (ys_ev (nw := true) hT rfl sI) sF ?_ | refine gb_skip 9 rfl (by decide +kernel) rfl rfl sF ?_
      first | refine gb_take 10 rfl (by decide +kernel) rfl rfl (by first | exact ys_blk hT rfl rfl mE rfl rfl | exact ys_row hT rfl rfl mE rfl rfl | exact ys_row0 hT rfl rfl mE rfl rfl) sF ?_ | refine gb_skip 10 rfl (by decide +kernel) rfl rfl sF ?_
      first | refine gb_take 11 rfl (by decide +kernel) rfl rfl (ys_ev (nw := true) hT rfl sI) sF ?_ | refine gb_skip 11 rfl (by decide +kernel) rfl rfl sF ?_
      try (refine gb_say 18 (.bool false) rfl (congrArg Value.bool (tB_false (by omega))) ?_)
      refine gb_take 12 rfl (by decide +kernel) rfl rfl (ys_ev (nw := true) hT rfl sI) sF ?_
      refine gb_nil (by decide +kernel) ?_
      exact ⟨(), (by repeat (first | exact trivial | refine ⟨rfl, ?_⟩)), sA, sS⟩
    (repeat (refine gG ?_; try intro _))
    refine g_mv rfl ?_; refine mv_call_rt (fun w hk => plain_any (⟨xk, xv, xi, xb, xc, xp, ⟨xA, xn, xa⟩, xD, ⟨xB, xm, xe⟩, xM⟩ : OpD) w ho ⟨hk.pR (sl xA 1 (IE .u8) xD) mE, hk.pR (sl xB 1 (IE .i64) xM) mE⟩ h9D h9) rfl rfl rfl rfl rfl (by kernel_rfl) (fun _ => rfl) (fun p hp => ?_)
    obtain ⟨pk, pv, pi, pb, pc, pp, ⟨A1, n1, c1⟩, D1, ⟨A2, n2, c2⟩, M1⟩ := p
    dsimp only [OpD.fs, OpD.val] at hp ⊢
    (repeat (refine gG ?_; try intro _))
    refine gk_sel (f' := [(0, .pointer (some ⟨g, 0, none⟩)), (3, .pointer (some ⟨g3, 0, none⟩)), (6, .int .i64 (L.length : Int))]) (O' := [blk g [.slice A L.length c, v, .map (some rq), .int .u64 now] 33, own 0 40 10 (.slice A L.length c) RuE L, blk g3 [.int .u64 rf, .int .u64 re, .int .i64 pk, .int .i64 pv, .int .i64 pi, .int .i64 pb, .int .i64 pc, .int .u64 pp, .slice A1 n1 c1, .slice A2 n2 c2] 40, own 0 87 3 v TE Lq, mpx rq Lq, sl A1 1 (IE .u8) D1, sl A2 1 (IE .i64) M1]) (R' := [sl xA 1 (IE .u8) xD, sl xB 1 (IE .i64) xM]) (by repeat (first | exact trivial | refine ⟨rfl, ?_⟩)) sA sS ?_
    refine gk_any [2, 3, 4, 5, 6, 7, 8] (Cut _ (fun q : Option Addr × Nat => [(0, .pointer (some ⟨g, 0, none⟩)), (3, .pointer (some ⟨g3, 0, none⟩)), (6, .int .i64 (L.length : Int))]) (fun q => [blk g [.slice q.1 (L ++ [(⟨rf, re, (⟨pk, pv, pi, pb, pc, pp, ⟨A1, n1, c1⟩, D1, ⟨A2, n2, c2⟩, M1⟩ : OpD)⟩ : RuD)]).length q.2, v, .map (some rq), .int .u64 now] 33, own 0 40 10 (.slice q.1 (L ++ [(⟨rf, re, (⟨pk, pv, pi, pb, pc, pp, ⟨A1, n1, c1⟩, D1, ⟨A2, n2, c2⟩, M1⟩ : OpD)⟩ : RuD)]).length q.2) RuE (L ++ [(⟨rf, re, (⟨pk, pv, pi, pb, pc, pp, ⟨A1, n1, c1⟩, D1, ⟨A2, n2, c2⟩, M1⟩ : OpD)⟩ : RuD)]), blk g3 [.int .u64 rf, .int .u64 re, .int .i64 pk, .int .i64 pv, .int .i64 pi, .int .i64 pb, .int .i64 pc, .int .u64 pp, .slice A1 n1 c1, .slice A2 n2 c2] 40, own 0 87 3 v TE Lq, mpx rq Lq, sl A1 1 (IE .u8) D1, sl A2 1 (IE .i64) M1]) (fun _ => [sl xA 1 (IE .u8) xD, sl xB 1 (IE .i64) xM])) rfl rfl (by kernel_rfl) ?_ (cut_k fun q => ?_)
    · skip
      refine gb_take 0 rfl (by decide +kernel) rfl rfl (ys_ev (nw := true) hT rfl sI) sF ?_
      refine gb_take 1 rfl (by decide +kernel) rfl rfl (ys_ev (nw := true) hT rfl sI) sF ?_
      refine gb_take 2 rfl (by decide +kernel) rfl rfl (ys_ev (nw := true) hT rfl sI) sF ?_
      refine gb_take 3 rfl (by decide +kernel) rfl rfl (ys_ev (nw := true) hT rfl sI) sF ?_
      refine gb_take 5 rfl (by decide +kernel) rfl rfl (by first | exact ys_blk hT rfl rfl mE rfl rfl | exact ys_row hT rfl rfl mE rfl rfl | exact ys_row0 hT rfl rfl mE rfl rfl) sF ?_
      refine gb_all (by decide +kernel) ?_
      refine gball_not (by decide +kernel) ?_
      refine gball_not (by decide +kernel) ?_
      refine gball_not (by decide +kernel) ?_
      refine gball_not (by decide +kernel) ?_
      refine gball_yes rfl rfl ?_ ?_
      · refine mv_yd rfl (yd_load_blk hT rfl rfl mE rfl rfl) ?_
        refine ⟨sF, ?_⟩
        refine gb_only 6 (by decide +kernel) rfl rfl ?_
        (refine mv_buildSlice (len := 1) rfl hT rfl rfl rfl rfl rfl rfl rfl rfl ?_; intro g6)
        refine ⟨sF, ?_⟩
        refine gb_only 7 (by decide +kernel) rfl rfl ?_
        (refine mv_append (L := L) rfl [(⟨rf, re, (⟨pk, pv, pi, pb, pc, pp, ⟨A1, n1, c1⟩, D1, ⟨A2, n2, c2⟩, M1⟩ : OpD)⟩ : RuD)] rfl rfl rfl rfl elt_Ru (by intro _; first | ((repeat (first | with_reducible exact Upd.here _ | with_reducible apply Upd.there)); done) | ((repeat (first | exact Upd.here _ | apply Upd.there)); done) | fail) (src_blk mE rfl) rfl oneRu (by simp only [maxLen, List.length_append, List.length_cons, List.length_nil]; omega) (by simp only [List.length_append, List.length_cons, List.length_nil]; omega) (Nat.zero_le _) ?_; intro v2)
        refine ⟨sF, ?_⟩
        (refine gb_ownv v2 mE (fun A3 c3 hv3 _ _ _ => ?_); subst hv3)
        refine gb_take 8 rfl (by decide +kernel) rfl rfl (ys_ev (nw := true) hT rfl sI) sF ?_
        refine gb_take 9 rfl (by decide +kernel) rfl rfl (ys_ev (nw := true) hT rfl sI) sF ?_
        refine gb_only 10 (by decide +kernel) rfl rfl ?_
        first | (refine mv_box rfl rfl rfl rfl ?_; intro _) | (refine mv_alloc rfl hT rfl rfl ?_; intro _) | refine mv_store hT rfl rfl rfl rfl rfl rfl sO rfl ?_ | (refine mv_buildSlice rfl hT rfl rfl rfl rfl rfl rfl rfl rfl ?_; intro _)
        refine ⟨sF, ?_⟩
        refine gb_nil (by decide +kernel) ?_
        exact ⟨(A3, c3), (by repeat (first | exact trivial | refine ⟨rfl, ?_⟩)), sA, sS⟩
      refine gball_not (by decide +kernel) ?_
      refine gball_yes rfl rfl ?_ ?_
      · (refine mv_buildSlice (len := 1) rfl hT rfl rfl rfl rfl rfl rfl rfl rfl ?_; intro g6)
        refine ⟨sF, ?_⟩
        refine gb_only 4 (by decide +kernel) rfl rfl ?_
        refine mv_yd rfl (yd_load_blk hT rfl rfl mE rfl rfl) ?_
        refine ⟨sF, ?_⟩
        refine gb_only 7 (by decide +kernel) rfl rfl ?_
        (refine mv_append (L := L) rfl [(⟨rf, re, (⟨pk, pv, pi, pb, pc, pp, ⟨A1, n1, c1⟩, D1, ⟨A2, n2, c2⟩, M1⟩ : OpD)⟩ : RuD)] rfl rfl rfl rfl elt_Ru (by intro _; first | ((repeat (first | with_reducible exact Upd.here _ | with_reducible apply Upd.there)); done) | ((repeat (first | exact Upd.here _ | apply Upd.there)); done) | fail) (src_blk mE rfl) rfl oneRu (by simp only [maxLen, List.length_append, List.length_cons, List.length_nil]; omega) (by simp only [List.length_append, List.length_cons, List.length_nil]; omega) (Nat.zero_le _) ?_; intro v2)
        refine ⟨sF, ?_⟩
        (refine gb_ownv v2 mE (fun A3 c3 hv3 _ _ _ => ?_); subst hv3)
        refine gb_take 8 rfl (by decide +kernel) rfl rfl (ys_ev (nw := true) hT rfl sI) sF ?_
        refine gb_take 9 rfl (by decide +kernel) rfl rfl (ys_ev (nw := true) hT rfl sI) sF ?_
        refine gb_only 10 (by decide +kernel) rfl rfl ?_
        first | (refine mv_box rfl rfl rfl rfl ?_; intro _) | (refine mv_alloc rfl hT rfl rfl ?_; intro _) | refine mv_store hT rfl rfl rfl rfl rfl rfl sO rfl ?_ | (refine mv_buildSlice rfl hT rfl rfl rfl rfl rfl rfl rfl rfl ?_; intro _)
        refine ⟨sF, ?_⟩
        refine gb_nil (by decide +kernel) ?_
        exact ⟨(A3, c3), (by repeat (first | exact trivial | refine ⟨rfl, ?_⟩)), sA, sS⟩
      refine gball_not (by decide +kernel) ?_
      refine gball_not (by decide +kernel) ?_
      refine gball_not (by decide +kernel) ?_
      refine gball_not (by decide +kernel) ?_
      exact gball_end (by decide +kernel)
    obtain ⟨A3, c3⟩ := q
    dsimp only
    (repeat (refine gG ?_; try intro _))
    refine gk_pack (quL g (.slice A3 (L ++ [(⟨rf, re, (⟨pk, pv, pi, pb, pc, pp, ⟨A1, n1, c1⟩, D1, ⟨A2, n2, c2⟩, M1⟩ : OpD)⟩ : RuD)]).length c3) (.int .u64 now) ⟨some rq, v, Lq⟩) [own 0 40 10 (.slice A3 (L ++ [(⟨rf, re, (⟨pk, pv, pi, pb, pc, pp, ⟨A1, n1, c1⟩, D1, ⟨A2, n2, c2⟩, M1⟩ : OpD)⟩ : RuD)]).length c3) RuE (L ++ [(⟨rf, re, (⟨pk, pv, pi, pb, pc, pp, ⟨A1, n1, c1⟩, D1, ⟨A2, n2, c2⟩, M1⟩ : OpD)⟩ : RuD)]), blk g3 [.int .u64 rf, .int .u64 re, .int .i64 pk, .int .i64 pv, .int .i64 pi, .int .i64 pb, .int .i64 pc, .int .u64 pp, .slice A1 n1 c1, .slice A2 n2 c2] 40, sl A1 1 (IE .u8) D1, sl A2 1 (IE .i64) M1] sA ?_
    refine gk_any [1, 2, 3, 4, 5, 6] (Cut _ (fun q : { s' : QuS // QuOk s'.mo s'.L (setP ⟨rf, 0, (L.length : Int)⟩ S) } => [(6, .int .i64 (L.length : Int))]) (fun q => [quF g (.slice A3 (L ++ [(⟨rf, re, (⟨pk, pv, pi, pb, pc, pp, ⟨A1, n1, c1⟩, D1, ⟨A2, n2, c2⟩, M1⟩ : OpD)⟩ : RuD)]).length c3) (.int .u64 now) q.1, own 0 40 10 (.slice A3 (L ++ [(⟨rf, re, (⟨pk, pv, pi, pb, pc, pp, ⟨A1, n1, c1⟩, D1, ⟨A2, n2, c2⟩, M1⟩ : OpD)⟩ : RuD)]).length c3) RuE (L ++ [(⟨rf, re, (⟨pk, pv, pi, pb, pc, pp, ⟨A1, n1, c1⟩, D1, ⟨A2, n2, c2⟩, M1⟩ : OpD)⟩ : RuD)]), sl A1 1 (IE .u8) D1, sl A2 1 (IE .i64) M1]) (fun _ => [])) rfl rfl (by kernel_rfl) ?_ (cut_k fun q => ?_)
    · skip
      refine gb_take 0 rfl (by decide +kernel) rfl rfl (ys_ev (nw := true) hT rfl sI) sF ?_
      refine gb_take 1 rfl (by decide +kernel) rfl rfl (ys_ev (nw := true) hT rfl sI) sF ?_
      refine gb_take 2 rfl (by decide +kernel) rfl rfl (ys_ev (nw := true) hT rfl sI) sF ?_
      refine gb_take 3 rfl (by decide +kernel) rfl rfl (ys_ev (nw := true) hT rfl sI) sF ?_
      refine gb_take 4 rfl (by decide +kernel) rfl rfl (by first | exact ys_blk hT rfl rfl mE rfl rfl | exact ys_row hT rfl rfl mE rfl rfl | exact ys_row0 hT rfl rfl mE rfl rfl) sF ?_
      refine gb_take 5 rfl (by decide +kernel) rfl rfl (ys_ev (nw := true) hT rfl sI) sF ?_
      refine gb_take 6 rfl (by decide +kernel) rfl rfl (ys_ev (nw := true) hT rfl sI) sF ?_
      refine gb_only 7 (by decide +kernel) rfl rfl ?_
      refine mv_call_mod (φ := quF g (.slice A3 (L ++ [(⟨rf, re, (⟨pk, pv, pi, pb, pc, pp, ⟨A1, n1, c1⟩, D1, ⟨A2, n2, c2⟩, M1⟩ : OpD)⟩ : RuD)]).length c3) (.int .u64 now) ⟨some rq, v, Lq⟩) (ψ := fun s' : QuS => quF g (.slice A3 (L ++ [(⟨rf, re, (⟨pk, pv, pi, pb, pc, pp, ⟨A1, n1, c1⟩, D1, ⟨A2, n2, c2⟩, M1⟩ : OpD)⟩ : RuD)]).length c3) (.int .u64 now) s') (fun w1 hk => by exact qset_any g (.slice A3 (L ++ [(⟨rf, re, (⟨pk, pv, pi, pb, pc, pp, ⟨A1, n1, c1⟩, D1, ⟨A2, n2, c2⟩, M1⟩ : OpD)⟩ : RuD)]).length c3) (.int .u64 now) ⟨some rq, v, Lq⟩ S ⟨rf, 0, (L.length : Int)⟩ w1 hs hS9 (hk.rO (φ := quF g (.slice A3 (L ++ [(⟨rf, re, (⟨pk, pv, pi, pb, pc, pp, ⟨A1, n1, c1⟩, D1, ⟨A2, n2, c2⟩, M1⟩ : OpD)⟩ : RuD)]).length c3) (.int .u64 now) ⟨some rq, v, Lq⟩) mE)) rfl rfl rfl rfl rfl (by kernel_rfl) (by intro _; first | ((repeat (first | with_reducible exact Upd.here _ | with_reducible apply Upd.there)); done) | ((repeat (first | exact Upd.here _ | apply Upd.there)); done) | fail) (fun s' hs' => ?_)
      refine ⟨sF, ?_⟩
      refine gb_nil (by decide +kernel) ?_
      exact ⟨⟨s', hs'⟩, (by repeat (first | exact trivial | refine ⟨rfl, ?_⟩)), sA, sS⟩
    (repeat (refine gG ?_; try intro _))
    refine gk_ret hT rfl rfl (.tmp rfl (.tmp rfl .nil)) (fun w' hk => ?_)
    exact RetM.mkP (ll := fun q : PlD × OpD => [quF g q.1.ru (.int .u64 q.1.now) q.1.s, own 0 40 10 q.1.ru RuE q.1.L, faF q.2, fmF q.2]) ((⟨.slice A3 (L ++ [(⟨rf, re, (⟨pk, pv, pi, pb, pc, pp, ⟨A1, n1, c1⟩, D1, ⟨A2, n2, c2⟩, M1⟩ : OpD)⟩ : RuD)]).length c3, q.1, now, (L ++ [(⟨rf, re, (⟨pk, pv, pi, pb, pc, pp, ⟨A1, n1, c1⟩, D1, ⟨A2, n2, c2⟩, M1⟩ : OpD)⟩ : RuD)])⟩, (⟨pk, pv, pi, pb, pc, pp, ⟨A1, n1, c1⟩, D1, ⟨A2, n2, c2⟩, M1⟩ : OpD)) : PlD × OpD) ⟨q.2, rfl, rfl, hp⟩ rfl hk (fun b hb => (finE_mem h.2 b).1 hb) sA
end Go.Proofs.Ytgpfedmfbkhhcaa.Sd

