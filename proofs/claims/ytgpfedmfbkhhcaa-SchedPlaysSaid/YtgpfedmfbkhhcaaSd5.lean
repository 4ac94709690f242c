/- sched.Plan: Until. -/
import Derived.Test.YtgpfedmfbkhhcaaSdP
import Derived.Test.YtgpfedmfbkhhcaaOv
import Derived.Test.YtgpfedmfbkhhcaaGxY
namespace Go.Proofs.Ytgpfedmfbkhhcaa.Sd
open Go.RowKit Mem Gx Hp Du Dv OpA
set_option linter.unusedVariables false
set_option linter.unusedSimpArgs false
set_option maxRecDepth 100000
set_option maxHeartbeats 4000000
theorem elt_Op : Elt Try.prog 44 38 8 96 := Elt.mk' (z := .agg #[.int .i64 0, .int .i64 0, .int .i64 0, .int .i64 0, .int .i64 0, .int .u64 0, .slice none 0 0, .slice none 0 0]) Try.underlying44 (by kernel_rfl) rfl (by decide)
theorem oneOp : ∀ (x : OpD) (j : Nat), (opC x j).oneCell' = true := by
  intro x j
  rcases j with _ | _ | _ | _ | _ | _ | _ | j <;> rfl
theorem der_nil {F : OpD → Fact} {l : List Fact} : Der l (allF ([] : List OpD) F) := .all fun x hx => by cases hx
theorem der_snoc {F : OpD → Fact} {L : List OpD} {p : OpD} : Der [allF L F, F p] (allF (L ++ [p]) F) := .all fun x hx => by
  rcases List.mem_append.1 hx with h | h
  · exact Der.elem (L := L) (.mem (.head _)) h
  · obtain rfl := List.mem_singleton.1 h
    exact .mem (.tail _ (.head _))
/-- A rule that may be. -/
structure RuOk (r : RuD) : Prop where
  e0 : 0 ≤ r.e
  e9 : r.e ≤ 18446744073709551615
  o : r.o.Ok
  d : r.o.D.length ≤ 300
  m : r.o.M.length ≤ 100
/-- What the plan tells: of the rule. -/
def ToldR (L : List RuD) (i : Nat) (p : OpD) : Prop := ∃ r, L[i]? = some r ∧ PlainAt r.o (looks r.o.k) p
/-- Until, plain. -/
def unP (E : List Int) (u most : Int) (S : List Tim) (now : Int) : List Tim × List Nat × Int := if u < now then (S, [], now) else untP E u most.toNat S now
/-- What Until leaves and hands back. -/
structure UnD where
  s : QuS
  now : Int
  A : Option Addr
  c : Nat
  out : List OpD
def unL (g : Nat) (ru : Value) (L : List RuD) (q : UnD) : List Fact := [quF g ru (.int .u64 q.now) q.s, own 0 40 10 ru RuE L, sl q.A 8 opC q.out, allF q.out faF, allF q.out fmF]
structure UnI (L : List RuD) (u most : Int) (S : List Tim) (now : Int) (q : UnD) : Prop where
  sq : QuOk q.s.mo q.s.L (unP (L.map RuD.e) u most S now).1
  nw : q.now = (unP (L.map RuD.e) u most S now).2.2
  out : OutP (ToldR L) (unP (L.map RuD.e) u most S now).2.1 q.out
/-- Within the loop. -/
structure UnW (L : List RuD) (u : Int) (n : Nat) (S0 : List Tim) (now0 : Int) (s : QuS) (S : List Tim) (now : Int) (l : List Nat) (out : List OpD) : Prop where
  q : QuOk s.mo s.L S
  t : TOk S L.length
  ln : S.length ≤ L.length
  le : l.length ≤ n
  eq : untP (L.map RuD.e) u n S0 now0 = ((untP (L.map RuD.e) u (n - l.length) S now).1, l ++ (untP (L.map RuD.e) u (n - l.length) S now).2.1, (untP (L.map RuD.e) u (n - l.length) S now).2.2)
  out : OutP (ToldR L) l out
theorem getE {L : List RuD} {i : Nat} {r : RuD} (h : L[i]? = some r) : (L.map RuD.e).getD i 0 = r.e := by
  rw [List.getD_eq_getElem?_getD, List.getElem?_map, h]; rfl
theorem UnW.full {L : List RuD} {u : Int} {n : Nat} {S0 S : List Tim} {now0 now : Int} {s : QuS} {l : List Nat} {out : List OpD} (h : UnW L u n S0 now0 s S now l out) (hn : ¬ out.length < n) : untP (L.map RuD.e) u n S0 now0 = (S, l, now) := by
  have h1 := h.out.len
  have h2 := h.le
  rw [h.eq, show n - l.length = 0 by omega]
  simp [untP]
theorem UnW.stop0 {L : List RuD} {u : Int} {n : Nat} {S0 : List Tim} {now0 now : Int} {s : QuS} {l : List Nat} {out : List OpD} (h : UnW L u n S0 now0 s [] now l out) (hn : out.length < n) : untP (L.map RuD.e) u n S0 now0 = ([], l, u) := by
  have h1 := h.out.len
  obtain ⟨m, hm⟩ : ∃ m, n - l.length = m + 1 := ⟨n - l.length - 1, by omega⟩
  rw [h.eq, hm]
  simp [untP]
theorem UnW.stop {L : List RuD} {u : Int} {n : Nat} {S0 S : List Tim} {x : Tim} {now0 now : Int} {s : QuS} {l : List Nat} {out : List OpD} (h : UnW L u n S0 now0 s (x :: S) now l out) (hn : out.length < n) (hx : u < x.t) : untP (L.map RuD.e) u n S0 now0 = (x :: S, l, u) := by
  have h1 := h.out.len
  obtain ⟨m, hm⟩ : ∃ m, n - l.length = m + 1 := ⟨n - l.length - 1, by omega⟩
  rw [h.eq, hm, untP_stop _ _ _ _ _ _ hx]
  simp
theorem UnW.step {L : List RuD} {u : Int} {n : Nat} {S0 S : List Tim} {x : Tim} {now0 now : Int} {s s' : QuS} {l : List Nat} {out : List OpD} {p : OpD} (h : UnW L u n S0 now0 s (x :: S) now l out) (hn : out.length < n) (hx : ¬ u < x.t) (hp : ToldR L x.i.toNat p) (hs : QuOk s'.mo s'.L (againP (L.map RuD.e) x S)) : UnW L u n S0 now0 s' (againP (L.map RuD.e) x S) x.t (l ++ [x.i.toNat]) (out ++ [p]) := by
  have h1 := h.out.len
  obtain ⟨m, hm⟩ : ∃ m, n - l.length = m + 1 := ⟨n - l.length - 1, by omega⟩
  refine ⟨hs, h.t.again, Nat.le_trans againP_len h.ln, by rw [List.length_append]; simp; omega, ?_, h.out.snoc hp⟩
  rw [h.eq, hm, untP_go _ _ _ _ _ _ hx, show n - (l ++ [x.i.toNat]).length = m by simp; omega]
  simp
theorem puntil_any (g : Nat) (rA : Option Addr) (rc : Nat) (L : List RuD) (s0 : QuS) (S0 : List Tim) (now0 u most : Int) (w : World) (hs : QuOk s0.mo s0.L S0) (hTk : TOk S0 L.length) (hl : S0.length ≤ L.length) (hL9 : L.length ≤ 1000) (hm9 : most ≤ 1000) (hu : 0 ≤ u) (hru : ∀ r, r ∈ L → RuOk r)
    (hdis : ∀ b, (plF g ⟨.slice rA L.length rc, s0, now0, L⟩).S b → ¬ (allF L (fun r : RuD => faF r.o)).S b ∧ ¬ (allF L (fun r : RuD => fmF r.o)).S b) (h : Rd1 w (plF g ⟨.slice rA L.length rc, s0, now0, L⟩)) (ha : Rd1 w (allF L (fun r : RuD => faF r.o))) (hm : Rd1 w (allF L (fun r : RuD => fmF r.o))) :
    Calls Try.prog 9 [.pointer (some ⟨g, 0, none⟩), .int .u64 u, .int .i64 most].toArray w (RetM (plF g ⟨.slice rA L.length rc, s0, now0, L⟩) (UnI L u most S0 now0) (fun q => .slice q.A q.out.length q.c) (fun q => packF (unL g (.slice rA L.length rc) L q)) w) := by
  refine g_enter0 T (finE (plF g ⟨.slice rA L.length rc, s0, now0, L⟩) w) [quF g (.slice rA L.length rc) (.int .u64 now0) s0, own 0 40 10 (.slice rA L.length rc) RuE L] [allF L (fun r : RuD => faF r.o), allF L (fun r : RuD => fmF r.o)] Try.func9 rfl Try.ntmps9 rfl (Kn.startP h (fun b hb => (finE_mem h.2 b).2 hb) (fun ψ hψ => by rcases List.mem_cons.1 hψ with rfl | hψ; exact ⟨ha, fun b hb => (hdis b hb).1⟩; obtain rfl := List.mem_singleton.1 hψ; exact ⟨hm, fun b hb => (hdis b hb).2⟩)) ?_
  refine gk_quB [own 0 40 10 (.slice rA L.length rc) RuE L] sA ?_
  refine gk_derO [] [blk g [.slice rA L.length rc, s0.v, .map s0.mo, .int .u64 now0] 33, qrF s0, own 0 40 10 (.slice rA L.length rc) RuE L] (φ := allF ([] : List OpD) fmF) der_nil sA ?_
  refine gk_derO [] [allF ([] : List OpD) fmF, blk g [.slice rA L.length rc, s0.v, .map s0.mo, .int .u64 now0] 33, qrF s0, own 0 40 10 (.slice rA L.length rc) RuE L] (φ := allF ([] : List OpD) faF) der_nil sA ?_
  by_cases hun : u < now0
  · have e0 : unP (L.map RuD.e) u most S0 now0 = (S0, [], now0) := if_pos hun
    refine gk_nilsl none 8 opC ?_
    (repeat' (first | (refine gG ?_; try intro _) | ((first | refine g_split rfl rfl tE (fun _ => ?_) (fun _ => ?_) | refine gk_cond rfl rfl tE (fun _ => ?_) (fun _ => ?_)) <;> (try first | (exfalso; omega; done) | (rename_i hx; exact absurd rfl hx) | (rename_i hx; cases hx; done)))))
    refine gk_ret hT rfl rfl (.tmp rfl .nil) (fun w' hk => ?_)
    have hk := Kn.quI [own 0 40 10 (.slice rA L.length rc) RuE L, sl none 8 opC [], allF [] faF, allF [] fmF] hk sA
    exact RetM.mkP (ll := unL g (.slice rA L.length rc) L) (⟨s0, now0, none, 0, []⟩ : UnD) ⟨by rw [e0]; exact hs, by rw [e0], by rw [e0]; exact .nil⟩ rfl hk (fun b hb => (finE_mem h.2 b).1 hb) sA
  · have e0 : unP (L.map RuD.e) u most S0 now0 = untP (L.map RuD.e) u most.toNat S0 now0 := if_neg hun
    (repeat (refine gG ?_; try intro _))
    refine gk_cond_f rfl (congrArg some (congrArg Value.bool (tB_false hun))) ?_
    (repeat (refine gG ?_; try intro _))
    refine gk_quI [allF [] faF, allF [] fmF, own 0 40 10 (.slice rA L.length rc) RuE L] sA ?_
    refine gk_own 0 38 8 opC ?_
    refine gk_loop_sel (fun (q : QuS × (List Tim) × Int × (Option Addr) × Nat × (List Nat) × (List OpD)) => match q with | (s, S, now, A, c, l, out) => (UnW L u most.toNat S0 now0 s S now l out)) (fun (q : QuS × (List Tim) × Int × (Option Addr) × Nat × (List Nat) × (List OpD)) => match q with | (s, S, now, A, c, l, out) => [(0, .pointer (some ⟨g, 0, none⟩)), (1, .int .u64 u), (2, .int .i64 most), (7, .slice A out.length c)]) (fun (q : QuS × (List Tim) × Int × (Option Addr) × Nat × (List Nat) × (List OpD)) => match q with | (s, S, now, A, c, l, out) => [quF g (.slice rA L.length rc) (.int .u64 now) s, own 0 40 10 (.slice rA L.length rc) RuE L, own 0 38 8 (.slice A out.length c) opC out, allF out faF, allF out fmF]) (fun (q : QuS × (List Tim) × Int × (Option Addr) × Nat × (List Nat) × (List OpD)) => match q with | (s, S, now, A, c, l, out) => [allF L (fun r : RuD => faF r.o), allF L (fun r : RuD => fmF r.o)]) (fun (q : QuS × (List Tim) × Int × (Option Addr) × Nat × (List Nat) × (List OpD)) => match q with | (s, S, now, A, c, l, out) => most.toNat - out.length) (s0, S0, now0, none, 0, [], []) rfl ⟨hs, hTk, hl, Nat.zero_le _, by simp, .nil⟩ (by repeat (first | exact trivial | refine ⟨rfl, ?_⟩)) sA sS ?_
    rintro ⟨s, S, now, A, c, l, out⟩ hI
    replace hI : (UnW L u most.toNat S0 now0 s S now l out) := hI
    change GK _ _ [(0, .pointer (some ⟨g, 0, none⟩)), (1, .int .u64 u), (2, .int .i64 most), (7, .slice A out.length c)] [quF g (.slice rA L.length rc) (.int .u64 now) s, own 0 40 10 (.slice rA L.length rc) RuE L, own 0 38 8 (.slice A out.length c) opC out, allF out faF, allF out fmF] [allF L (fun r : RuD => faF r.o), allF L (fun r : RuD => fmF r.o)]
    by_cases hlt : out.length < most.toNat
    · (repeat (refine gG ?_; try intro _))
      refine gk_cond_t rfl (congrArg some (congrArg Value.bool (tB_true (by omega)))) ?_
      (repeat (refine gG ?_; try intro _))
      refine g_mv rfl (mv_call_mod (φ := quF g (.slice rA L.length rc) (.int .u64 now) s) (ψ := fun q : QuS × Tim × Bool => quF g (.slice rA L.length rc) (.int .u64 now) q.1) (fun w1 hk => by exact qpop_any g (.slice rA L.length rc) (.int .u64 now) s S u w1 hI.q (hk.rO (φ := quF g (.slice rA L.length rc) (.int .u64 now) s) mE)) rfl rfl rfl rfl rfl (by kernel_rfl) (by intro _; first | ((repeat (first | with_reducible exact Upd.here _ | with_reducible apply Upd.there)); done) | ((repeat (first | exact Upd.here _ | apply Upd.there)); done) | fail) (fun q hq => ?_))
      obtain ⟨s1, x, b⟩ := q
      obtain ⟨hs1, hb⟩ := hq
      dsimp only at hs1 hb ⊢
      refine g_quB [own 0 40 10 (.slice rA L.length rc) RuE L, own 0 38 8 (.slice A out.length c) opC out, allF out faF, allF out fmF] sA ?_
      have hlo := hI.out.len
      --@H
      rcases S with _ | ⟨y, S⟩
      · have hp : popP u [] = ([], ⟨0, 0, 0⟩, false) := rfl
        rw [hp] at hs1 hb
        injection hb with h1 h2
        subst h1
        subst h2
        have e1 := hI.stop0 hlt
        rw [show (⟨0, 0, 0⟩ : Tim).val = .agg #[.int .u64 0, .int .i64 0, .int .i64 0] from rfl]
        (repeat (refine gG ?_; try intro _))
        refine gk_ret hT rfl rfl (.tmp rfl .nil) (fun w' hk => ?_)
        have hk := hk.freeze (A := A) (n := out.length) (c := c) (L := out) rfl (by first | ((repeat (first | with_reducible exact Upd.here _ | with_reducible apply Upd.there)); done) | ((repeat (first | exact Upd.here _ | apply Upd.there)); done) | fail)
        have hk := Kn.quI [own 0 40 10 (.slice rA L.length rc) RuE L, sl A 8 opC out, allF out faF, allF out fmF] hk sA
        exact RetM.mkP (ll := unL g (.slice rA L.length rc) L) (⟨s1, u, A, c, out⟩ : UnD) ⟨by rw [e0, e1]; exact hs1, by rw [e0, e1], by rw [e0, e1]; exact hI.out⟩ rfl hk (fun b hb => (finE_mem h.2 b).1 hb) sA
      · by_cases hy : u < y.t
        · have hp : popP u (y :: S) = (y :: S, ⟨0, 0, 0⟩, false) := if_pos hy
          rw [hp] at hs1 hb
          injection hb with h1 h2
          subst h1
          subst h2
          have e1 := hI.stop hlt hy
          rw [show (⟨0, 0, 0⟩ : Tim).val = .agg #[.int .u64 0, .int .i64 0, .int .i64 0] from rfl]
          (repeat (refine gG ?_; try intro _))
          refine gk_ret hT rfl rfl (.tmp rfl .nil) (fun w' hk => ?_)
          have hk := hk.freeze (A := A) (n := out.length) (c := c) (L := out) rfl (by first | ((repeat (first | with_reducible exact Upd.here _ | with_reducible apply Upd.there)); done) | ((repeat (first | exact Upd.here _ | apply Upd.there)); done) | fail)
          have hk := Kn.quI [own 0 40 10 (.slice rA L.length rc) RuE L, sl A 8 opC out, allF out faF, allF out fmF] hk sA
          exact RetM.mkP (ll := unL g (.slice rA L.length rc) L) (⟨s1, u, A, c, out⟩ : UnD) ⟨by rw [e0, e1]; exact hs1, by rw [e0, e1], by rw [e0, e1]; exact hI.out⟩ rfl hk (fun b hb => (finE_mem h.2 b).1 hb) sA
        · have hp : popP u (y :: S) = (S, y, true) := if_neg hy
          rw [hp] at hs1 hb
          injection hb with h1 h2
          subst h1
          subst h2
          dsimp only at hs1
          obtain ⟨xt, xk, xi⟩ := x
          obtain ⟨hx1, hx2, hx3, hx4, hx5⟩ := hI.t _ (.head _)
          dsimp only at hx1 hx2 hx3 hx4 hx5 hy
          obtain ⟨i, rfl⟩ := Int.eq_ofNat_of_zero_le hx2
          subst hx1
          have hiL : i < L.length := by omega
          obtain ⟨r, hr⟩ : ∃ r, L[i]? = some r := ⟨L[i], List.getElem?_eq_getElem hiL⟩
          have hrL := List.mem_of_getElem? hr
          obtain ⟨he0, he9, hro, hrd, hrm⟩ := hru r hrL
          have d1 : Der [allF L (fun r : RuD => faF r.o)] (faF r.o) := Der.elem (L := L) (F := fun r : RuD => faF r.o) (x := r) (Der.mem (.head _)) hrL
          have d2 : Der [allF L (fun r : RuD => fmF r.o)] (fmF r.o) := Der.elem (L := L) (F := fun r : RuD => fmF r.o) (x := r) (Der.mem (.head _)) hrL
          have hE := getE hr
          have hq2 : ∀ (p : OpD) (h : PlainAt r.o (looks r.o.k) p) (s2 : QuS), QuOk s2.mo s2.L (againP (L.map RuD.e) ⟨xt, 0, (i : Int)⟩ S) → UnW L u most.toNat S0 now0 s2 (againP (L.map RuD.e) ⟨xt, 0, (i : Int)⟩ S) xt (l ++ [i]) (out ++ [p]) := fun p hp s2 h2 => hI.step (p := p) hlt hy ⟨r, hr, hp⟩ h2
          obtain ⟨rf, re, ⟨xk, xv, xi, xb, xc, xp, ⟨xA, xn, xa⟩, xD, ⟨xB, xm, xe⟩, xM⟩⟩ := r
          dsimp only at he0 he9 hro hrd hrm hE
          dsimp only [faF, fmF] at d1 d2
          rw [show (⟨xt, 0, (i : Int)⟩ : Tim).val = .agg #[.int .u64 xt, .int .i64 0, .int .i64 (i : Int)] from rfl]
          refine g_own0 (.slice rA L.length rc) (L := L) mE (by omega) (fun rb c1 hv _ _ => ?_)
          injection hv with hv1 _ hv3
          subst hv1
          (repeat (refine gG ?_; try intro _))
          rename_i g8
          refine gk_sel (f' := [(0, .pointer (some ⟨g, 0, none⟩)), (1, .int .u64 u), (2, .int .i64 most), (7, .slice A out.length c), (8, .pointer (some ⟨g8, 0, none⟩))]) (O' := [blk g8 [.int .u64 xt, .int .i64 0, .int .i64 (i : Int)] 87, blk g [.slice (some ⟨rb, 0, none⟩) L.length rc, s1.v, .map s1.mo, .int .u64 now] 33, qrF s1, own 0 40 10 (.slice (some ⟨rb, 0, none⟩) L.length rc) RuE L, own 0 38 8 (.slice A out.length c) opC out, allF out faF, allF out fmF]) (R' := [allF L (fun r : RuD => faF r.o), allF L (fun r : RuD => fmF r.o)]) (by repeat (first | exact trivial | refine ⟨rfl, ?_⟩)) sA sS ?_
          refine gk_any [0, 1, 2, 3, 4, 5, 6, 7, 8] (Cut _ (fun g10 : Nat => [(0, .pointer (some ⟨g, 0, none⟩)), (1, .int .u64 u), (2, .int .i64 most), (7, .slice A out.length c), (8, .pointer (some ⟨g8, 0, none⟩)), (10, .pointer (some ⟨g10, 0, none⟩))]) (fun g10 => [blk g10 [.int .u64 rf, .int .u64 re, .int .i64 xk, .int .i64 xv, .int .i64 xi, .int .i64 xb, .int .i64 xc, .int .u64 xp, .slice xA xn xa, .slice xB xm xe] 40, blk g8 [.int .u64 xt, .int .i64 0, .int .i64 (i : Int)] 87, blk g [.slice (some ⟨rb, 0, none⟩) L.length rc, s1.v, .map s1.mo, .int .u64 now] 33, qrF s1, own 0 40 10 (.slice (some ⟨rb, 0, none⟩) L.length rc) RuE L, own 0 38 8 (.slice A out.length c) opC out, allF out faF, allF out fmF]) (fun _ => [allF L (fun r : RuD => faF r.o), allF L (fun r : RuD => fmF r.o)])) rfl rfl (by kernel_rfl) ?_ (cut_k fun g10 => ?_)
          · skip
            refine gb_take 0 rfl (by decide +kernel) rfl rfl (ys_ev (nw := true) hT rfl sI) sF ?_
            refine gb_take 1 rfl (by decide +kernel) rfl rfl (ys_ev (nw := true) hT rfl sI) sF ?_
            refine gb_take 2 rfl (by decide +kernel) rfl rfl (ys_ev (nw := true) hT rfl sI) sF ?_
            refine gb_take 3 rfl (by decide +kernel) rfl rfl (by first | exact ys_blk hT rfl rfl mE rfl rfl | exact ys_row hT rfl rfl mE rfl rfl | exact ys_row0 hT rfl rfl mE rfl rfl) sF ?_
            refine gb_take 4 rfl (by decide +kernel) rfl rfl (ys_ev (nw := true) hT rfl sI) sF ?_
            refine gb_take 5 rfl (by decide +kernel) rfl rfl (by first | exact ys_blk hT rfl rfl mE rfl rfl | exact ys_row hT rfl rfl mE rfl rfl | exact ys_row0 hT rfl rfl mE rfl rfl) sF ?_
            refine gb_take 6 rfl (by decide +kernel) rfl rfl (ys_ev (nw := true) hT rfl sI) sF ?_
            refine gb_take 7 rfl (by decide +kernel) rfl rfl (ys_load_el (o0 := 0) (sz := 10) (enc := RuE) (L := L) hT i _ 0 rfl rfl rfl (by omega) hr (at_own mE) rfl rfl) sF ?_
            refine gb_only 8 (by decide +kernel) rfl rfl ?_
            first | (refine mv_box rfl rfl rfl rfl ?_; intro _) | (refine mv_alloc rfl hT rfl rfl ?_; intro _) | refine mv_store hT rfl rfl rfl rfl rfl rfl sO rfl ?_ | (refine mv_buildSlice rfl hT rfl rfl rfl rfl rfl rfl rfl rfl ?_; intro _)
            refine ⟨sF, ?_⟩
            refine gb_only 9 (by decide +kernel) rfl rfl ?_
            first | (refine mv_box rfl rfl rfl rfl ?_; intro _) | (refine mv_alloc rfl hT rfl rfl ?_; intro _) | refine mv_store hT rfl rfl rfl rfl rfl rfl sO rfl ?_ | (refine mv_buildSlice rfl hT rfl rfl rfl rfl rfl rfl rfl rfl ?_; intro _)
            refine ⟨sF, ?_⟩
            refine gb_nil (by decide +kernel) ?_
            exact ⟨_, (by repeat (first | exact trivial | refine ⟨rfl, ?_⟩)), sA, sS⟩
          refine gk_der [allF L (fun r : RuD => faF r.o)] d1 sS ?_
          refine gk_der [allF L (fun r : RuD => fmF r.o)] d2 sS ?_
          (repeat (refine gG ?_; try intro _))
          refine g_mv rfl ?_; refine mv_call_rt (fun w hk => plain_any (⟨xk, xv, xi, xb, xc, xp, ⟨xA, xn, xa⟩, xD, ⟨xB, xm, xe⟩, xM⟩ : OpD) w hro ⟨hk.pR (sl xA 1 (IE .u8) xD) mE, hk.pR (sl xB 1 (IE .i64) xM) mE⟩ (by dsimp only; omega) (by dsimp only; omega)) rfl rfl rfl rfl rfl (by kernel_rfl) (fun _ => rfl) (fun p hp => ?_)
          obtain ⟨pk, pv, pi, pb, pc, pp, ⟨A1, n1, c1⟩, D1, ⟨A2, n2, c2⟩, M1⟩ := p
          dsimp only [OpD.fs, OpD.val] at hp ⊢
          replace hq2 := hq2 (p := (⟨pk, pv, pi, pb, pc, pp, ⟨A1, n1, c1⟩, D1, ⟨A2, n2, c2⟩, M1⟩ : OpD)) (h := hp)
          (repeat (refine gG ?_; try intro _))
          refine g_mv rfl (mv_append (L := out) rfl [(⟨pk, pv, pi, pb, pc, pp, ⟨A1, n1, c1⟩, D1, ⟨A2, n2, c2⟩, M1⟩ : OpD)] rfl rfl rfl rfl elt_Op (by intro _; first | ((repeat (first | with_reducible exact Upd.here _ | with_reducible apply Upd.there)); done) | ((repeat (first | exact Upd.here _ | apply Upd.there)); done) | fail) (src_blk mE rfl) rfl oneOp (by simp only [maxLen, List.length_append, List.length_cons, List.length_nil]; omega) (by simp only [List.length_append, List.length_cons, List.length_nil]; omega) (Nat.zero_le _) ?_)
          intro v2
          refine g_ownv v2 mE (fun A3 c3 hv3 _ _ _ => ?_)
          subst hv3
          (repeat (refine gG ?_; try intro _))
          have hag : ∀ (s2 : QuS), QuOk s2.mo s2.L (againP (L.map RuD.e) ⟨xt, 0, (i : Int)⟩ S) → UnW L u most.toNat S0 now0 s2 (againP (L.map RuD.e) ⟨xt, 0, (i : Int)⟩ S) xt (l ++ [i]) (out ++ [(⟨pk, pv, pi, pb, pc, pp, ⟨A1, n1, c1⟩, D1, ⟨A2, n2, c2⟩, M1⟩ : OpD)]) := hq2
          by_cases hov : xt + re ≤ 18446744073709551615
          · refine g_mv rfl ?_; refine mv_call_bel (fun w hk => Ov.add_ok xt re w hx4 he0 hov) rfl rfl rfl rfl rfl (by kernel_rfl) ?_
            by_cases hz : 0 < re
            · have ha1 : againP (L.map RuD.e) ⟨xt, 0, (i : Int)⟩ S = setP ⟨xt + re, 0, (i : Int)⟩ S := by
                unfold againP
                rw [show (⟨xt, 0, (i : Int)⟩ : Tim).i.toNat = i from rfl, hE]
                exact if_pos ⟨hz, hov⟩
              rw [ha1] at hag
              have hS9 : S.length < 10000 := by have := hI.ln; rw [List.length_cons] at this; omega
              (repeat' (first | (refine gG ?_; try intro _) | ((first | refine g_split rfl rfl tE (fun _ => ?_) (fun _ => ?_) | refine gk_cond rfl rfl tE (fun _ => ?_) (fun _ => ?_)) <;> (try first | (exfalso; omega; done) | (rename_i hx; exact absurd rfl hx) | (rename_i hx; cases hx; done)))))
              refine gk_sel (f' := [(0, .pointer (some ⟨g, 0, none⟩)), (1, .int .u64 u), (2, .int .i64 most), (7, .slice A3 (out ++ [(⟨pk, pv, pi, pb, pc, pp, ⟨A1, n1, c1⟩, D1, ⟨A2, n2, c2⟩, M1⟩ : OpD)]).length c3), (8, .pointer (some ⟨g8, 0, none⟩)), (11, .int .u64 (xt + re))]) (O' := [blk g [.slice (some ⟨rb, 0, none⟩) L.length rc, s1.v, .map s1.mo, .int .u64 xt] 33, qrF s1, blk g8 [.int .u64 xt, .int .i64 0, .int .i64 (i : Int)] 87, own 0 38 8 (.slice A3 (out ++ [(⟨pk, pv, pi, pb, pc, pp, ⟨A1, n1, c1⟩, D1, ⟨A2, n2, c2⟩, M1⟩ : OpD)]).length c3) opC (out ++ [(⟨pk, pv, pi, pb, pc, pp, ⟨A1, n1, c1⟩, D1, ⟨A2, n2, c2⟩, M1⟩ : OpD)]), allF out faF, faF (⟨pk, pv, pi, pb, pc, pp, ⟨A1, n1, c1⟩, D1, ⟨A2, n2, c2⟩, M1⟩ : OpD), allF out fmF, fmF (⟨pk, pv, pi, pb, pc, pp, ⟨A1, n1, c1⟩, D1, ⟨A2, n2, c2⟩, M1⟩ : OpD), own 0 40 10 (.slice (some ⟨rb, 0, none⟩) L.length rc) RuE L]) (R' := [allF L (fun r : RuD => faF r.o), allF L (fun r : RuD => fmF r.o)]) (by repeat (first | exact trivial | refine ⟨rfl, ?_⟩)) sA sS ?_
              refine gk_quI [blk g8 [.int .u64 xt, .int .i64 0, .int .i64 (i : Int)] 87, own 0 38 8 (.slice A3 (out ++ [(⟨pk, pv, pi, pb, pc, pp, ⟨A1, n1, c1⟩, D1, ⟨A2, n2, c2⟩, M1⟩ : OpD)]).length c3) opC (out ++ [(⟨pk, pv, pi, pb, pc, pp, ⟨A1, n1, c1⟩, D1, ⟨A2, n2, c2⟩, M1⟩ : OpD)]), allF out faF, faF (⟨pk, pv, pi, pb, pc, pp, ⟨A1, n1, c1⟩, D1, ⟨A2, n2, c2⟩, M1⟩ : OpD), allF out fmF, fmF (⟨pk, pv, pi, pb, pc, pp, ⟨A1, n1, c1⟩, D1, ⟨A2, n2, c2⟩, M1⟩ : OpD), own 0 40 10 (.slice (some ⟨rb, 0, none⟩) L.length rc) RuE L] sA ?_
              refine gk_derO [allF out faF, faF (⟨pk, pv, pi, pb, pc, pp, ⟨A1, n1, c1⟩, D1, ⟨A2, n2, c2⟩, M1⟩ : OpD)] [quF g (.slice (some ⟨rb, 0, none⟩) L.length rc) (.int .u64 xt) s1, blk g8 [.int .u64 xt, .int .i64 0, .int .i64 (i : Int)] 87, own 0 38 8 (.slice A3 (out ++ [(⟨pk, pv, pi, pb, pc, pp, ⟨A1, n1, c1⟩, D1, ⟨A2, n2, c2⟩, M1⟩ : OpD)]).length c3) opC (out ++ [(⟨pk, pv, pi, pb, pc, pp, ⟨A1, n1, c1⟩, D1, ⟨A2, n2, c2⟩, M1⟩ : OpD)]), allF out fmF, fmF (⟨pk, pv, pi, pb, pc, pp, ⟨A1, n1, c1⟩, D1, ⟨A2, n2, c2⟩, M1⟩ : OpD), own 0 40 10 (.slice (some ⟨rb, 0, none⟩) L.length rc) RuE L] (φ := allF (out ++ [(⟨pk, pv, pi, pb, pc, pp, ⟨A1, n1, c1⟩, D1, ⟨A2, n2, c2⟩, M1⟩ : OpD)]) faF) der_snoc sA ?_
              refine gk_derO [allF out fmF, fmF (⟨pk, pv, pi, pb, pc, pp, ⟨A1, n1, c1⟩, D1, ⟨A2, n2, c2⟩, M1⟩ : OpD)] [allF (out ++ [(⟨pk, pv, pi, pb, pc, pp, ⟨A1, n1, c1⟩, D1, ⟨A2, n2, c2⟩, M1⟩ : OpD)]) faF, quF g (.slice (some ⟨rb, 0, none⟩) L.length rc) (.int .u64 xt) s1, blk g8 [.int .u64 xt, .int .i64 0, .int .i64 (i : Int)] 87, own 0 38 8 (.slice A3 (out ++ [(⟨pk, pv, pi, pb, pc, pp, ⟨A1, n1, c1⟩, D1, ⟨A2, n2, c2⟩, M1⟩ : OpD)]).length c3) opC (out ++ [(⟨pk, pv, pi, pb, pc, pp, ⟨A1, n1, c1⟩, D1, ⟨A2, n2, c2⟩, M1⟩ : OpD)]), own 0 40 10 (.slice (some ⟨rb, 0, none⟩) L.length rc) RuE L] (φ := allF (out ++ [(⟨pk, pv, pi, pb, pc, pp, ⟨A1, n1, c1⟩, D1, ⟨A2, n2, c2⟩, M1⟩ : OpD)]) fmF) der_snoc sA ?_
              refine gk_any [0, 1, 3, 4, 5, 6, 7] (Cut _ (fun q : { s' : QuS // QuOk s'.mo s'.L (setP ⟨xt + re, 0, (i : Int)⟩ S) } => [(0, .pointer (some ⟨g, 0, none⟩)), (1, .int .u64 u), (2, .int .i64 most), (7, .slice A3 (out ++ [(⟨pk, pv, pi, pb, pc, pp, ⟨A1, n1, c1⟩, D1, ⟨A2, n2, c2⟩, M1⟩ : OpD)]).length c3)]) (fun q => [quF g (.slice (some ⟨rb, 0, none⟩) L.length rc) (.int .u64 xt) q.1, own 0 40 10 (.slice (some ⟨rb, 0, none⟩) L.length rc) RuE L, own 0 38 8 (.slice A3 (out ++ [(⟨pk, pv, pi, pb, pc, pp, ⟨A1, n1, c1⟩, D1, ⟨A2, n2, c2⟩, M1⟩ : OpD)]).length c3) opC (out ++ [(⟨pk, pv, pi, pb, pc, pp, ⟨A1, n1, c1⟩, D1, ⟨A2, n2, c2⟩, M1⟩ : OpD)]), allF (out ++ [(⟨pk, pv, pi, pb, pc, pp, ⟨A1, n1, c1⟩, D1, ⟨A2, n2, c2⟩, M1⟩ : OpD)]) faF, allF (out ++ [(⟨pk, pv, pi, pb, pc, pp, ⟨A1, n1, c1⟩, D1, ⟨A2, n2, c2⟩, M1⟩ : OpD)]) fmF]) (fun _ => [allF L (fun r : RuD => faF r.o), allF L (fun r : RuD => fmF r.o)])) rfl rfl (by kernel_rfl) ?_ (cut_k fun q => ?_)
              · skip
                refine gb_take 0 rfl (by decide +kernel) rfl rfl (ys_ev (nw := true) hT rfl sI) sF ?_
                refine gb_take 1 rfl (by decide +kernel) rfl rfl (ys_ev (nw := true) hT rfl sI) sF ?_
                refine gb_take 2 rfl (by decide +kernel) rfl rfl (ys_ev (nw := true) hT rfl sI) sF ?_
                refine gb_take 3 rfl (by decide +kernel) rfl rfl (ys_ev (nw := true) hT rfl sI) sF ?_
                refine gb_take 4 rfl (by decide +kernel) rfl rfl (ys_ev (nw := true) hT rfl sI) sF ?_
                refine gb_take 5 rfl (by decide +kernel) rfl rfl (by first | exact ys_blk hT rfl rfl mE rfl rfl | exact ys_row hT rfl rfl mE rfl rfl | exact ys_row0 hT rfl rfl mE rfl rfl) sF ?_
                refine gb_take 6 rfl (by decide +kernel) rfl rfl (ys_ev (nw := true) hT rfl sI) sF ?_
                refine gb_only 7 (by decide +kernel) rfl rfl ?_
                refine mv_call_mod (φ := quF g (.slice (some ⟨rb, 0, none⟩) L.length rc) (.int .u64 xt) s1) (ψ := fun s' : QuS => quF g (.slice (some ⟨rb, 0, none⟩) L.length rc) (.int .u64 xt) s') (fun w1 hk => by exact qset_any g (.slice (some ⟨rb, 0, none⟩) L.length rc) (.int .u64 xt) s1 S ⟨xt + re, 0, (i : Int)⟩ w1 hs1 hS9 (hk.rO (φ := quF g (.slice (some ⟨rb, 0, none⟩) L.length rc) (.int .u64 xt) s1) mE)) rfl rfl rfl rfl rfl (by kernel_rfl) (by intro _; first | ((repeat (first | with_reducible exact Upd.here _ | with_reducible apply Upd.there)); done) | ((repeat (first | exact Upd.here _ | apply Upd.there)); done) | fail) (fun s' hs' => ?_)
                refine ⟨sF, ?_⟩
                refine gb_nil (by decide +kernel) ?_
                exact ⟨⟨s', hs'⟩, (by repeat (first | exact trivial | refine ⟨rfl, ?_⟩)), sA, sS⟩
              refine gk_again_sel rfl (q.1, setP ⟨xt + re, 0, (i : Int)⟩ S, xt, A3, c3, l ++ [i], out ++ [(⟨pk, pv, pi, pb, pc, pp, ⟨A1, n1, c1⟩, D1, ⟨A2, n2, c2⟩, M1⟩ : OpD)]) (hag q.1 q.2) (by dsimp only; simp only [List.length_append, List.length_cons, List.length_nil]; omega) (by repeat (first | exact trivial | refine ⟨rfl, ?_⟩)) sA sS
            · have ha1 : againP (L.map RuD.e) ⟨xt, 0, (i : Int)⟩ S = S := by
                unfold againP
                rw [show (⟨xt, 0, (i : Int)⟩ : Tim).i.toNat = i from rfl, hE]
                exact if_neg (fun h => hz h.1)
              rw [ha1] at hag
              (repeat' (first | (refine gG ?_; try intro _) | ((first | refine g_split rfl rfl tE (fun _ => ?_) (fun _ => ?_) | refine gk_cond rfl rfl tE (fun _ => ?_) (fun _ => ?_)) <;> (try first | (exfalso; omega; done) | (rename_i hx; exact absurd rfl hx) | (rename_i hx; cases hx; done)))))
              refine gk_quI [own 0 38 8 (.slice A3 (out ++ [(⟨pk, pv, pi, pb, pc, pp, ⟨A1, n1, c1⟩, D1, ⟨A2, n2, c2⟩, M1⟩ : OpD)]).length c3) opC (out ++ [(⟨pk, pv, pi, pb, pc, pp, ⟨A1, n1, c1⟩, D1, ⟨A2, n2, c2⟩, M1⟩ : OpD)]), allF out faF, faF (⟨pk, pv, pi, pb, pc, pp, ⟨A1, n1, c1⟩, D1, ⟨A2, n2, c2⟩, M1⟩ : OpD), allF out fmF, fmF (⟨pk, pv, pi, pb, pc, pp, ⟨A1, n1, c1⟩, D1, ⟨A2, n2, c2⟩, M1⟩ : OpD), own 0 40 10 (.slice (some ⟨rb, 0, none⟩) L.length rc) RuE L] sA ?_
              refine gk_derO [allF out faF, faF (⟨pk, pv, pi, pb, pc, pp, ⟨A1, n1, c1⟩, D1, ⟨A2, n2, c2⟩, M1⟩ : OpD)] [quF g (.slice (some ⟨rb, 0, none⟩) L.length rc) (.int .u64 xt) s1, own 0 38 8 (.slice A3 (out ++ [(⟨pk, pv, pi, pb, pc, pp, ⟨A1, n1, c1⟩, D1, ⟨A2, n2, c2⟩, M1⟩ : OpD)]).length c3) opC (out ++ [(⟨pk, pv, pi, pb, pc, pp, ⟨A1, n1, c1⟩, D1, ⟨A2, n2, c2⟩, M1⟩ : OpD)]), allF out fmF, fmF (⟨pk, pv, pi, pb, pc, pp, ⟨A1, n1, c1⟩, D1, ⟨A2, n2, c2⟩, M1⟩ : OpD), own 0 40 10 (.slice (some ⟨rb, 0, none⟩) L.length rc) RuE L] (φ := allF (out ++ [(⟨pk, pv, pi, pb, pc, pp, ⟨A1, n1, c1⟩, D1, ⟨A2, n2, c2⟩, M1⟩ : OpD)]) faF) der_snoc sA ?_
              refine gk_derO [allF out fmF, fmF (⟨pk, pv, pi, pb, pc, pp, ⟨A1, n1, c1⟩, D1, ⟨A2, n2, c2⟩, M1⟩ : OpD)] [allF (out ++ [(⟨pk, pv, pi, pb, pc, pp, ⟨A1, n1, c1⟩, D1, ⟨A2, n2, c2⟩, M1⟩ : OpD)]) faF, quF g (.slice (some ⟨rb, 0, none⟩) L.length rc) (.int .u64 xt) s1, own 0 38 8 (.slice A3 (out ++ [(⟨pk, pv, pi, pb, pc, pp, ⟨A1, n1, c1⟩, D1, ⟨A2, n2, c2⟩, M1⟩ : OpD)]).length c3) opC (out ++ [(⟨pk, pv, pi, pb, pc, pp, ⟨A1, n1, c1⟩, D1, ⟨A2, n2, c2⟩, M1⟩ : OpD)]), own 0 40 10 (.slice (some ⟨rb, 0, none⟩) L.length rc) RuE L] (φ := allF (out ++ [(⟨pk, pv, pi, pb, pc, pp, ⟨A1, n1, c1⟩, D1, ⟨A2, n2, c2⟩, M1⟩ : OpD)]) fmF) der_snoc sA ?_
              refine gk_again_sel rfl (s1, S, xt, A3, c3, l ++ [i], out ++ [(⟨pk, pv, pi, pb, pc, pp, ⟨A1, n1, c1⟩, D1, ⟨A2, n2, c2⟩, M1⟩ : OpD)]) (hag s1 hs1) (by dsimp only; simp only [List.length_append, List.length_cons, List.length_nil]; omega) (by repeat (first | exact trivial | refine ⟨rfl, ?_⟩)) sA sS
          · refine g_mv rfl ?_; refine mv_call_bel (fun w hk => Ov.add_no xt re w hx4 hx5 he0 he9 (by omega)) rfl rfl rfl rfl rfl (by kernel_rfl) ?_
            have ha1 : againP (L.map RuD.e) ⟨xt, 0, (i : Int)⟩ S = S := by
              unfold againP
              rw [show (⟨xt, 0, (i : Int)⟩ : Tim).i.toNat = i from rfl, hE]
              exact if_neg (fun h => hov h.2)
            rw [ha1] at hag
            (repeat' (first | (refine gG ?_; try intro _) | ((first | refine g_split rfl rfl tE (fun _ => ?_) (fun _ => ?_) | refine gk_cond rfl rfl tE (fun _ => ?_) (fun _ => ?_)) <;> (try first | (exfalso; omega; done) | (rename_i hx; exact absurd rfl hx) | (rename_i hx; cases hx; done)))))
            refine gk_quI [own 0 38 8 (.slice A3 (out ++ [(⟨pk, pv, pi, pb, pc, pp, ⟨A1, n1, c1⟩, D1, ⟨A2, n2, c2⟩, M1⟩ : OpD)]).length c3) opC (out ++ [(⟨pk, pv, pi, pb, pc, pp, ⟨A1, n1, c1⟩, D1, ⟨A2, n2, c2⟩, M1⟩ : OpD)]), allF out faF, faF (⟨pk, pv, pi, pb, pc, pp, ⟨A1, n1, c1⟩, D1, ⟨A2, n2, c2⟩, M1⟩ : OpD), allF out fmF, fmF (⟨pk, pv, pi, pb, pc, pp, ⟨A1, n1, c1⟩, D1, ⟨A2, n2, c2⟩, M1⟩ : OpD), own 0 40 10 (.slice (some ⟨rb, 0, none⟩) L.length rc) RuE L] sA ?_
            refine gk_derO [allF out faF, faF (⟨pk, pv, pi, pb, pc, pp, ⟨A1, n1, c1⟩, D1, ⟨A2, n2, c2⟩, M1⟩ : OpD)] [quF g (.slice (some ⟨rb, 0, none⟩) L.length rc) (.int .u64 xt) s1, own 0 38 8 (.slice A3 (out ++ [(⟨pk, pv, pi, pb, pc, pp, ⟨A1, n1, c1⟩, D1, ⟨A2, n2, c2⟩, M1⟩ : OpD)]).length c3) opC (out ++ [(⟨pk, pv, pi, pb, pc, pp, ⟨A1, n1, c1⟩, D1, ⟨A2, n2, c2⟩, M1⟩ : OpD)]), allF out fmF, fmF (⟨pk, pv, pi, pb, pc, pp, ⟨A1, n1, c1⟩, D1, ⟨A2, n2, c2⟩, M1⟩ : OpD), own 0 40 10 (.slice (some ⟨rb, 0, none⟩) L.length rc) RuE L] (φ := allF (out ++ [(⟨pk, pv, pi, pb, pc, pp, ⟨A1, n1, c1⟩, D1, ⟨A2, n2, c2⟩, M1⟩ : OpD)]) faF) der_snoc sA ?_
            refine gk_derO [allF out fmF, fmF (⟨pk, pv, pi, pb, pc, pp, ⟨A1, n1, c1⟩, D1, ⟨A2, n2, c2⟩, M1⟩ : OpD)] [allF (out ++ [(⟨pk, pv, pi, pb, pc, pp, ⟨A1, n1, c1⟩, D1, ⟨A2, n2, c2⟩, M1⟩ : OpD)]) faF, quF g (.slice (some ⟨rb, 0, none⟩) L.length rc) (.int .u64 xt) s1, own 0 38 8 (.slice A3 (out ++ [(⟨pk, pv, pi, pb, pc, pp, ⟨A1, n1, c1⟩, D1, ⟨A2, n2, c2⟩, M1⟩ : OpD)]).length c3) opC (out ++ [(⟨pk, pv, pi, pb, pc, pp, ⟨A1, n1, c1⟩, D1, ⟨A2, n2, c2⟩, M1⟩ : OpD)]), own 0 40 10 (.slice (some ⟨rb, 0, none⟩) L.length rc) RuE L] (φ := allF (out ++ [(⟨pk, pv, pi, pb, pc, pp, ⟨A1, n1, c1⟩, D1, ⟨A2, n2, c2⟩, M1⟩ : OpD)]) fmF) der_snoc sA ?_
            refine gk_again_sel rfl (s1, S, xt, A3, c3, l ++ [i], out ++ [(⟨pk, pv, pi, pb, pc, pp, ⟨A1, n1, c1⟩, D1, ⟨A2, n2, c2⟩, M1⟩ : OpD)]) (hag s1 hs1) (by dsimp only; simp only [List.length_append, List.length_cons, List.length_nil]; omega) (by repeat (first | exact trivial | refine ⟨rfl, ?_⟩)) sA sS
    · have e1 := hI.full hlt
      (repeat (refine gG ?_; try intro _))
      refine gk_cond_f rfl (congrArg some (congrArg Value.bool (tB_false (by omega)))) ?_
      (repeat (refine gG ?_; try intro _))
      refine gk_ret hT rfl rfl (.tmp rfl .nil) (fun w' hk => ?_)
      have hk := hk.freeze (A := A) (n := out.length) (c := c) (L := out) rfl (by first | ((repeat (first | with_reducible exact Upd.here _ | with_reducible apply Upd.there)); done) | ((repeat (first | exact Upd.here _ | apply Upd.there)); done) | fail)
      exact RetM.mkP (ll := unL g (.slice rA L.length rc) L) (⟨s, now, A, c, out⟩ : UnD) ⟨by rw [e0, e1]; exact hI.q, by rw [e0, e1], by rw [e0, e1]; exact hI.out⟩ rfl hk (fun b hb => (finE_mem h.2 b).1 hb) sA
end Go.Proofs.Ytgpfedmfbkhhcaa.Sd

