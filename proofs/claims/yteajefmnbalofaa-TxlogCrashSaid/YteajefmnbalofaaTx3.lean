/- A log: Scan. -/
import Derived.Test.YteajefmnbalofaaTx2
namespace Go.Proofs.Yteajefmnbalofaa.Tx
open Go.RowKit Mem Gx Dk OpA Rec Bytes
set_option linter.unusedVariables false
set_option linter.unusedSimpArgs false
set_option maxRecDepth 100000
set_option maxHeartbeats 4000000
instance : Inhabited RecD := ⟨recZ⟩
def rcE (r : RecD) : Nat → Value
  | 0 => .int .u64 r.g
  | 1 => .int .u64 r.l
  | 2 => .int .u64 r.t
  | 3 => .int .i64 r.o.k
  | 4 => .int .i64 r.o.v
  | 5 => .int .i64 r.o.i
  | 6 => .int .i64 r.o.b
  | 7 => .int .i64 r.o.c
  | 8 => .int .u64 r.o.p
  | 9 => r.o.a.v
  | _ => r.o.m.v
theorem oneRc : ∀ (x : RecD) (j : Nat), (rcE x j).oneCell' = true := by
  intro x j
  rcases j with _ | _ | _ | _ | _ | _ | _ | _ | _ | _ | j <;> rfl
theorem elt_Rc : Elt Try.prog 34 44 11 120 := Elt.mk' (z := .agg #[.int .u64 0, .int .u64 0, .int .u64 0, .int .i64 0, .int .i64 0, .int .i64 0, .int .i64 0, .int .i64 0, .int .u64 0, .slice none 0 0, .slice none 0 0]) Try.underlying34 (by kernel_rfl) rfl (by decide)
abbrev faR (r : RecD) : Fact := sl r.o.a.A 1 (IE .u8) r.o.D
abbrev fmR (r : RecD) : Fact := sl r.o.m.A 1 (IE .i64) r.o.M
theorem rder_nil {F : RecD → Fact} {l : List Fact} : Der l (allF ([] : List RecD) F) := .all fun x hx => by cases hx
theorem rder_snoc {F : RecD → Fact} {L : List RecD} {p : RecD} : Der [allF L F, F p] (allF (L ++ [p]) F) := .all fun x hx => by
  rcases List.mem_append.1 hx with h | h
  · exact Der.elem (L := L) (F := F) (.mem (.head _)) h
  · obtain rfl := List.mem_singleton.1 h
    exact .mem (.tail _ (.head _))
/-- What is scanned so far. -/
structure ScI (rd : Nat → Sec) (z : Nat) (g : Int) (fs : Nat) (out : List RecD) : Prop where
  le : out.length ≤ z
  ok : ∀ r ∈ out, r.Ok
  p : ∃ P, SameRs out P ∧ scanL rd z g z fs = P ++ scanL rd z g (z - out.length) (fs + out.length)
theorem ScI.start {rd : Nat → Sec} {z : Nat} {g : Int} {fs : Nat} : ScI rd z g fs [] := ⟨Nat.zero_le _, (fun _ h => by cases h), ⟨[], ⟨rfl, (fun j a b h => by simp at h)⟩, rfl⟩⟩
theorem ScI.full {rd : Nat → Sec} {z : Nat} {g : Int} {fs : Nat} {out : List RecD} (h : ScI rd z g fs out) (he : z - out.length = 0 ∨ ocode (rd (2 + (fs + out.length) % z)) g ((fs + out.length : Nat) : Int) ≠ 0) : SameRs out (scanL rd z g z fs) := by
  obtain ⟨P, h1, h2⟩ := h.p
  have e : scanL rd z g (z - out.length) (fs + out.length) = [] := by
    rcases he with he | he
    · rw [he]; rfl
    · cases hz : z - out.length with
      | zero => rfl
      | succ n => rw [scanL, if_neg he]
  rw [h2, e, List.append_nil]
  exact h1
theorem SameRs.snoc {L R : List RecD} {a b : RecD} (h : SameRs L R) (hab : sameR a b) : SameRs (L ++ [a]) (R ++ [b]) := by
  refine ⟨by rw [List.length_append, List.length_append, h.len]; rfl, fun j x y hx hy => ?_⟩
  rcases Nat.lt_trichotomy j L.length with hj | hj | hj
  · rw [List.getElem?_append_left hj] at hx
    rw [List.getElem?_append_left (by rw [← h.len]; exact hj)] at hy
    exact h.all j x y hx hy
  · subst hj
    rw [List.getElem?_concat_length] at hx
    rw [h.len, List.getElem?_concat_length] at hy
    rw [← Option.some.inj hx, ← Option.some.inj hy]
    exact hab
  · rw [List.getElem?_eq_none (by simp; omega)] at hx
    cases hx
theorem ScI.step {rd : Nat → Sec} {z : Nat} {g : Int} {fs : Nat} {out : List RecD} {r : RecD} (h : ScI rd z g fs out) (hlt : out.length < z) (hc : ocode (rd (2 + (fs + out.length) % z)) g ((fs + out.length : Nat) : Int) = 0) (hr : r.Ok) (hs : sameR r (decR (pgR (rd (2 + (fs + out.length) % z))).1)) : ScI rd z g fs (out ++ [r]) := by
  obtain ⟨P, h1, h2⟩ := h.p
  have hl : (out ++ [r]).length = out.length + 1 := by simp
  refine ⟨by omega, fun x hx => ?_, P ++ [decR (pgR (rd (2 + (fs + out.length) % z))).1], h1.snoc hs, ?_⟩
  · rcases List.mem_append.1 hx with hx | hx
    · exact h.ok x hx
    · obtain rfl := List.mem_singleton.1 hx; exact hr
  · rw [h2, hl]
    obtain ⟨n, hn⟩ : ∃ n, z - out.length = n + 1 := ⟨z - out.length - 1, by omega⟩
    rw [hn, scanL, if_pos hc, show z - (out.length + 1) = n by omega, List.append_assoc]
    rfl
/-- What Scan hands back. -/
structure ScD where
  A : Option Addr
  c : Nat
  out : List RecD
structure ScR (rd : Nat → Sec) (z : Nat) (g : Int) (fs : Nat) (q : ScD) : Prop where
  same : SameRs q.out (scanL rd z g z fs)
  ok : ∀ r ∈ q.out, r.Ok
  le : q.out.length ≤ z
abbrev scL (t g z gn fs : Nat) (s : DkS) (q : ScD) : List Fact := [blk t [.pointer (some ⟨g, 0, none⟩), .int .i64 (z : Nat), .int .u64 (gn : Nat), .int .u64 (fs : Nat), .int .u64 ((fs + q.out.length : Nat) : Int)] 78, dkF g s, sl q.A 11 rcE q.out, allF q.out faR, allF q.out fmR]
theorem txscan_any (t g z gn fs nx : Nat) (sv lv : Value) (S : List SecD) (W : List WrD) (w : World) (hz : 1 ≤ z) (hz9 : z ≤ 4096) (hn : fs + z < 18446744073709551615) (hdk : DkOk S W) (hl : W.length ≤ 100000) (hS : z + 2 ≤ S.length) (hL : Rd1 w (packF [blk t [.pointer (some ⟨g, 0, none⟩), .int .i64 (z : Nat), .int .u64 (gn : Nat), .int .u64 (fs : Nat), .int .u64 (nx : Nat)] 78, dkF g ⟨sv, lv, S, W⟩])) :
    Calls Try.prog 16 [.pointer (some ⟨t, 0, none⟩)].toArray w (RetM (packF [blk t [.pointer (some ⟨g, 0, none⟩), .int .i64 (z : Nat), .int .u64 (gn : Nat), .int .u64 (fs : Nat), .int .u64 (nx : Nat)] 78, dkF g ⟨sv, lv, S, W⟩]) (ScR (dread (S.map SecD.L) (W.map WrD.c)) z gn fs) (fun q => .slice q.A q.out.length q.c) (fun q => packF (scL t g z gn fs ⟨sv, lv, S, W⟩ q)) w) := by
  have hr := fun (nx : Nat) (hf : fs ≤ nx) (hn : nx ≤ 18446744073709551615) w (h : Rd1 w (blk t [.pointer (some ⟨g, 0, none⟩), .int .i64 (z : Nat), .int .u64 (gn : Nat), .int .u64 (fs : Nat), .int .u64 (nx : Nat)] 78)) => txroom_any t g z gn fs nx hf hz9 hn w h
  have hsm : ∀ d ∈ S.map SecD.L, SecOk d := fun d hd => by obtain ⟨x, hx, rfl⟩ := List.mem_map.1 hd; exact (hdk.s x hx).k
  have hwm : ∀ x ∈ W.map WrD.c, SecOk x.2 := fun d hd => by obtain ⟨x, hx, rfl⟩ := List.mem_map.1 hd; exact (hdk.w x hx).1.k
  refine g_enter0 T (finE (packF [blk t [.pointer (some ⟨g, 0, none⟩), .int .i64 (z : Nat), .int .u64 (gn : Nat), .int .u64 (fs : Nat), .int .u64 (nx : Nat)] 78, dkF g ⟨sv, lv, S, W⟩]) w) [blk t [.pointer (some ⟨g, 0, none⟩), .int .i64 (z : Nat), .int .u64 (gn : Nat), .int .u64 (fs : Nat), .int .u64 (nx : Nat)] 78, dkF g ⟨sv, lv, S, W⟩] [] Try.func16 rfl Try.ntmps16 rfl (Kn.startP hL (fun b hb => (finE_mem hL.2 b).2 hb) (fun ψ hψ => by cases hψ)) ?_
  (repeat (refine gG ?_; try intro _))
  refine gk_own 0 44 11 rcE ?_
  refine gk_derO [] [own 0 44 11 (.slice none 0 0) rcE ([] : List RecD), blk t [.pointer (some ⟨g, 0, none⟩), .int .i64 (z : Nat), .int .u64 (gn : Nat), .int .u64 (fs : Nat), .int .u64 (fs : Nat)] 78, dkF g ⟨sv, lv, S, W⟩] (φ := allF ([] : List RecD) fmR) rder_nil sA ?_
  refine gk_derO [] [allF ([] : List RecD) fmR, own 0 44 11 (.slice none 0 0) rcE ([] : List RecD), blk t [.pointer (some ⟨g, 0, none⟩), .int .i64 (z : Nat), .int .u64 (gn : Nat), .int .u64 (fs : Nat), .int .u64 (fs : Nat)] 78, dkF g ⟨sv, lv, S, W⟩] (φ := allF ([] : List RecD) faR) rder_nil sA ?_
  refine gk_loop_sel (fun (q : (Option Addr) × Nat × (List RecD)) => match q with | (A, c, out) => (ScI (dread (S.map SecD.L) (W.map WrD.c)) z gn fs out)) (fun (q : (Option Addr) × Nat × (List RecD)) => match q with | (A, c, out) => [(0, .pointer (some ⟨t, 0, none⟩)), (3, .slice A out.length c)]) (fun (q : (Option Addr) × Nat × (List RecD)) => match q with | (A, c, out) => [blk t [.pointer (some ⟨g, 0, none⟩), .int .i64 (z : Nat), .int .u64 (gn : Nat), .int .u64 (fs : Nat), .int .u64 ((fs + out.length : Nat) : Int)] 78, dkF g ⟨sv, lv, S, W⟩, own 0 44 11 (.slice A out.length c) rcE out, allF out faR, allF out fmR]) (fun (q : (Option Addr) × Nat × (List RecD)) => match q with | (A, c, out) => []) (fun (q : (Option Addr) × Nat × (List RecD)) => match q with | (A, c, out) => z - out.length) (none, 0, []) rfl ScI.start (by repeat (first | exact trivial | refine ⟨rfl, ?_⟩)) sA sS ?_
  rintro ⟨A, c, out⟩ hI
  replace hI : (ScI (dread (S.map SecD.L) (W.map WrD.c)) z gn fs out) := hI
  change GK _ _ [(0, .pointer (some ⟨t, 0, none⟩)), (3, .slice A out.length c)] [blk t [.pointer (some ⟨g, 0, none⟩), .int .i64 (z : Nat), .int .u64 (gn : Nat), .int .u64 (fs : Nat), .int .u64 ((fs + out.length : Nat) : Int)] 78, dkF g ⟨sv, lv, S, W⟩, own 0 44 11 (.slice A out.length c) rcE out, allF out faR, allF out fmR] []
  have hle := hI.le
  have hr2 := fun w h => hr (fs + out.length) (by omega) (by omega) w h
  rw [show z - (fs + out.length - fs) = z - out.length by omega] at hr2
  by_cases hlt : out.length < z
  · (repeat' (first | (refine gG ?_; try intro _) | (refine g_mv rfl ?_; first | refine mv_call_bel (fun w hk => hr2 w (hk.rO (φ := blk t [.pointer (some ⟨g, 0, none⟩), .int .i64 (z : Nat), .int .u64 (gn : Nat), .int .u64 (fs : Nat), .int .u64 ((fs + out.length : Nat) : Int)] 78) mE)) rfl rfl rfl rfl rfl (by kernel_rfl) ?_) | ((first | refine g_split rfl rfl tE (fun _ => ?_) (fun _ => ?_) | refine gk_cond rfl rfl tE (fun _ => ?_) (fun _ => ?_)) <;> (try first | (exfalso; omega; done) | (rename_i hx; exact absurd rfl hx) | (rename_i hx; cases hx; done)))))
    have hmod : (fs + out.length) % z < z := Nat.mod_lt _ (by omega)
    have hQ : SecOk ((dread (S.map SecD.L) (W.map WrD.c)) (2 + (fs + out.length) % z)) := dread_ok hsm hwm (by rw [List.length_map]; omega)
    have hrd := fun w h => dread_any g sv lv S W (2 + (fs + out.length) % z) w hdk hl (by omega) h
    have hst := fun (hc : ocode ((dread (S.map SecD.L) (W.map WrD.c)) (2 + (fs + out.length) % z)) gn ((fs + out.length : Nat) : Int) = 0) (r : RecD) (h1 : r.Ok) (h2 : sameR r (decR (pgR ((dread (S.map SecD.L) (W.map WrD.c)) (2 + (fs + out.length) % z))).1)) => hI.step hlt hc h1 h2
    have hfl := fun (hc : ocode ((dread (S.map SecD.L) (W.map WrD.c)) (2 + (fs + out.length) % z)) gn ((fs + out.length : Nat) : Int) ≠ 0) => hI.full (.inr hc)
    generalize hQe : ((dread (S.map SecD.L) (W.map WrD.c)) (2 + (fs + out.length) % z)) = QQ at hQ hrd hst hfl
    refine gk_any [0, 1, 2, 3, 4] (Cut _ (fun u : {u : SlV // u.Ok QQ.length} => [(0, .pointer (some ⟨t, 0, none⟩)), (3, .slice A out.length c), (4, .slice u.1.A u.1.n u.1.c)]) (fun u => [sl u.1.A 1 (IE .u8) QQ, blk t [.pointer (some ⟨g, 0, none⟩), .int .i64 (z : Nat), .int .u64 (gn : Nat), .int .u64 (fs : Nat), .int .u64 ((fs + out.length : Nat) : Int)] 78, dkF g ⟨sv, lv, S, W⟩, own 0 44 11 (.slice A out.length c) rcE out, allF out faR, allF out fmR]) (fun _ => [])) rfl rfl (by kernel_rfl) ?_ (cut_k fun u => ?_)
    · skip
      refine gb_take 0 rfl (by decide +kernel) rfl rfl (ys_ev (nw := true) hT rfl sI) sF ?_
      refine gb_take 1 rfl (by decide +kernel) rfl rfl (ys_ev (nw := true) hT rfl sI) sF ?_
      refine gb_take 2 rfl (by decide +kernel) rfl rfl (ys_ev (nw := true) hT rfl sI) sF ?_
      refine gb_take 3 rfl (by decide +kernel) rfl rfl (by first | exact ys_blk hT rfl rfl mE rfl rfl | exact ys_row hT rfl rfl mE rfl rfl | exact ys_row0 hT rfl rfl mE rfl rfl) sF ?_
      refine gb_take 4 rfl (by decide +kernel) rfl rfl (ys_ev (nw := true) hT rfl sI) sF ?_
      refine gb_take 5 rfl (by decide +kernel) rfl rfl (ys_ev (nw := true) hT rfl sI) sF ?_
      refine gb_take 6 rfl (by decide +kernel) rfl rfl (ys_ev (nw := true) hT rfl sI) sF ?_
      refine gb_take 7 rfl (by decide +kernel) rfl rfl (by first | exact ys_blk hT rfl rfl mE rfl rfl | exact ys_row hT rfl rfl mE rfl rfl | exact ys_row0 hT rfl rfl mE rfl rfl) sF ?_
      refine gb_take 8 rfl (by decide +kernel) rfl rfl (ys_ev (nw := true) hT rfl sI) sF ?_
      refine gb_take 9 rfl (by decide +kernel) rfl rfl (ys_ev (nw := true) hT rfl sI) sF ?_
      refine gb_take 10 rfl (by decide +kernel) rfl rfl (ys_ev (nw := true) hT rfl sI) sF ?_
      refine gb_take 11 rfl (by decide +kernel) rfl rfl (by first | exact ys_blk hT rfl rfl mE rfl rfl | exact ys_row hT rfl rfl mE rfl rfl | exact ys_row0 hT rfl rfl mE rfl rfl) sF ?_
      refine gb_only 12 (by decide +kernel) rfl rfl ?_
      refine mv_call_bel (fun w hk => ringAt_any (fs + out.length) z hz hz9 (by omega) w) rfl rfl rfl rfl rfl (by kernel_rfl) ?_
      refine ⟨sF, ?_⟩
      refine gb_only 13 (by decide +kernel) rfl rfl ?_
      refine mv_call_ret (fun w hk => hrd w (hk.rO (φ := dkF g ⟨sv, lv, S, W⟩) mE)) rfl rfl rfl rfl rfl (by kernel_rfl) (fun u hu => ?_)
      refine ⟨sF, ?_⟩
      refine gb_take 14 rfl (by decide +kernel) rfl rfl (ys_ev (nw := true) hT rfl sI) sF ?_
      refine gb_take 15 rfl (by decide +kernel) rfl rfl (ys_ev (nw := true) hT rfl sI) sF ?_
      refine gb_take 16 rfl (by decide +kernel) rfl rfl (ys_ev (nw := true) hT rfl sI) sF ?_
      refine gb_take 17 rfl (by decide +kernel) rfl rfl (ys_ev (nw := true) hT rfl sI) sF ?_
      refine gb_take 18 rfl (by decide +kernel) rfl rfl (ys_ev (nw := true) hT rfl sI) sF ?_
      refine gb_nil (by decide +kernel) ?_
      exact ⟨⟨u, hu⟩, (by repeat (first | exact trivial | refine ⟨rfl, ?_⟩)), sA, sS⟩
    obtain ⟨⟨uA, un, uc⟩, hu⟩ := u
    dsimp only at hu ⊢
    refine gk_any [0, 1, 2, 3, 4, 5] (Cut _ (fun q : {q : Nat × RecD × Int // OfR QQ gn ((fs + out.length : Nat) : Int) q.2} => [(0, .pointer (some ⟨t, 0, none⟩)), (3, .slice A out.length c), (6, .pointer (some ⟨q.1.1, 0, none⟩)), (7, .int .i64 q.1.2.2)]) (fun q => [blk q.1.1 [.int .u64 q.1.2.1.g, .int .u64 q.1.2.1.l, .int .u64 q.1.2.1.t, .int .i64 q.1.2.1.o.k, .int .i64 q.1.2.1.o.v, .int .i64 q.1.2.1.o.i, .int .i64 q.1.2.1.o.b, .int .i64 q.1.2.1.o.c, .int .u64 q.1.2.1.o.p, q.1.2.1.o.a.v, q.1.2.1.o.m.v] 44, faR q.1.2.1, fmR q.1.2.1, blk t [.pointer (some ⟨g, 0, none⟩), .int .i64 (z : Nat), .int .u64 (gn : Nat), .int .u64 (fs : Nat), .int .u64 ((fs + out.length : Nat) : Int)] 78, dkF g ⟨sv, lv, S, W⟩, own 0 44 11 (.slice A out.length c) rcE out, allF out faR, allF out fmR]) (fun _ => [])) rfl rfl (by kernel_rfl) ?_ (cut_k fun q => ?_)
    · skip
      refine gb_take 0 rfl (by decide +kernel) rfl rfl (ys_ev (nw := true) hT rfl sI) sF ?_
      refine gb_take 1 rfl (by decide +kernel) rfl rfl (ys_ev (nw := true) hT rfl sI) sF ?_
      refine gb_take 2 rfl (by decide +kernel) rfl rfl (ys_ev (nw := true) hT rfl sI) sF ?_
      refine gb_take 3 rfl (by decide +kernel) rfl rfl (ys_ev (nw := true) hT rfl sI) sF ?_
      refine gb_take 4 rfl (by decide +kernel) rfl rfl (by first | exact ys_blk hT rfl rfl mE rfl rfl | exact ys_row hT rfl rfl mE rfl rfl | exact ys_row0 hT rfl rfl mE rfl rfl) sF ?_
      refine gb_take 5 rfl (by decide +kernel) rfl rfl (ys_ev (nw := true) hT rfl sI) sF ?_
      refine gb_take 6 rfl (by decide +kernel) rfl rfl (ys_ev (nw := true) hT rfl sI) sF ?_
      refine gb_take 7 rfl (by decide +kernel) rfl rfl (ys_ev (nw := true) hT rfl sI) sF ?_
      refine gb_take 8 rfl (by decide +kernel) rfl rfl (by first | exact ys_blk hT rfl rfl mE rfl rfl | exact ys_row hT rfl rfl mE rfl rfl | exact ys_row0 hT rfl rfl mE rfl rfl) sF ?_
      refine gb_all (by decide +kernel) ?_
      refine gball_not (by decide +kernel) ?_
      refine gball_not (by decide +kernel) ?_
      refine gball_not (by decide +kernel) ?_
      refine gball_not (by decide +kernel) ?_
      refine gball_not (by decide +kernel) ?_
      refine gball_not (by decide +kernel) ?_
      refine gball_not (by decide +kernel) ?_
      refine gball_not (by decide +kernel) ?_
      refine gball_not (by decide +kernel) ?_
      refine gball_yes rfl rfl ?_ ?_
      · (refine mv_call_ret (fun w hk => rcof_any ⟨uA, un, uc⟩ QQ gn ((fs + out.length : Nat) : Int) w hu (hk.pO (sl uA 1 (IE .u8) QQ) mE) hQ.2) rfl rfl rfl rfl rfl (by kernel_rfl) (fun s hs => ?_); dsimp only [RecD.val, RecD.fs])
        refine ⟨sF, ?_⟩
        refine gb_take 10 rfl (by decide +kernel) rfl rfl (ys_ev (nw := true) hT rfl sI) sF ?_
        refine gb_take 11 rfl (by decide +kernel) rfl rfl (ys_ev (nw := true) hT rfl sI) sF ?_
        refine gb_take 12 rfl (by decide +kernel) rfl rfl (ys_ev (nw := true) hT rfl sI) sF ?_
        refine gb_only 13 (by decide +kernel) rfl rfl ?_
        first | (refine mv_box rfl rfl rfl rfl ?_; intro _) | (refine mv_alloc rfl hT rfl rfl ?_; intro _) | refine mv_store hT rfl rfl rfl rfl rfl rfl sO rfl ?_ | (refine mv_buildSlice rfl hT rfl rfl rfl rfl rfl rfl rfl rfl ?_; intro _)
        refine ⟨sF, ?_⟩
        refine gb_only 14 (by decide +kernel) rfl rfl ?_
        first | (refine mv_box rfl rfl rfl rfl ?_; intro _) | (refine mv_alloc rfl hT rfl rfl ?_; intro _) | refine mv_store hT rfl rfl rfl rfl rfl rfl sO rfl ?_ | (refine mv_buildSlice rfl hT rfl rfl rfl rfl rfl rfl rfl rfl ?_; intro _)
        refine ⟨sF, ?_⟩
        refine gb_take 15 rfl (by decide +kernel) rfl rfl (ys_ev (nw := true) hT rfl sI) sF ?_
        refine gb_nil (by decide +kernel) ?_
        exact ⟨⟨(_, s), hs⟩, (by repeat (first | exact trivial | refine ⟨rfl, ?_⟩)), sA, sS⟩
      refine gball_not (by decide +kernel) ?_
      refine gball_not (by decide +kernel) ?_
      refine gball_not (by decide +kernel) ?_
      refine gball_yes rfl rfl ?_ ?_
      · first | (refine mv_box rfl rfl rfl rfl ?_; intro _) | (refine mv_alloc rfl hT rfl rfl ?_; intro _) | refine mv_store hT rfl rfl rfl rfl rfl rfl sO rfl ?_ | (refine mv_buildSlice rfl hT rfl rfl rfl rfl rfl rfl rfl rfl ?_; intro _)
        refine ⟨sF, ?_⟩
        refine gb_only 9 (by decide +kernel) rfl rfl ?_
        (refine mv_call_ret (fun w hk => rcof_any ⟨uA, un, uc⟩ QQ gn ((fs + out.length : Nat) : Int) w hu (hk.pO (sl uA 1 (IE .u8) QQ) mE) hQ.2) rfl rfl rfl rfl rfl (by kernel_rfl) (fun s hs => ?_); dsimp only [RecD.val, RecD.fs])
        refine ⟨sF, ?_⟩
        refine gb_take 10 rfl (by decide +kernel) rfl rfl (ys_ev (nw := true) hT rfl sI) sF ?_
        refine gb_take 11 rfl (by decide +kernel) rfl rfl (ys_ev (nw := true) hT rfl sI) sF ?_
        refine gb_take 12 rfl (by decide +kernel) rfl rfl (ys_ev (nw := true) hT rfl sI) sF ?_
        refine gb_only 14 (by decide +kernel) rfl rfl ?_
        first | (refine mv_box rfl rfl rfl rfl ?_; intro _) | (refine mv_alloc rfl hT rfl rfl ?_; intro _) | refine mv_store hT rfl rfl rfl rfl rfl rfl sO rfl ?_ | (refine mv_buildSlice rfl hT rfl rfl rfl rfl rfl rfl rfl rfl ?_; intro _)
        refine ⟨sF, ?_⟩
        refine gb_take 15 rfl (by decide +kernel) rfl rfl (ys_ev (nw := true) hT rfl sI) sF ?_
        refine gb_nil (by decide +kernel) ?_
        exact ⟨⟨(_, s), hs⟩, (by repeat (first | exact trivial | refine ⟨rfl, ?_⟩)), sA, sS⟩
      refine gball_not (by decide +kernel) ?_
      refine gball_not (by decide +kernel) ?_
      exact gball_end (by decide +kernel)
    obtain ⟨⟨g6, ⟨rg, rl, rt, ⟨pk, pv, pi, pb, pc, pp, ⟨A1, n1, c1⟩, D1, ⟨A2, n2, c2⟩, M1⟩⟩, e⟩, hq⟩ := q
    dsimp only [SlV.v] at hq ⊢
    by_cases he : e = 0
    · have hc : ocode QQ gn ((fs + out.length : Nat) : Int) = 0 := by rw [← hq.code]; exact he
      have hst2 := hst hc _ hq.ok (hq.yes hc)
      (repeat' (first | (refine gG ?_; try intro _) | ((first | refine g_split rfl rfl tE (fun _ => ?_) (fun _ => ?_) | refine gk_cond rfl rfl tE (fun _ => ?_) (fun _ => ?_)) <;> (try first | (exfalso; omega; done) | (rename_i hx; exact absurd rfl hx) | (rename_i hx; cases hx; done)))))
      refine g_mv rfl (mv_append (L := out) rfl [(⟨rg, rl, rt, ⟨pk, pv, pi, pb, pc, pp, ⟨A1, n1, c1⟩, D1, ⟨A2, n2, c2⟩, M1⟩⟩ : RecD)] rfl rfl rfl rfl elt_Rc (by intro _; first | ((repeat (first | with_reducible exact Upd.here _ | with_reducible apply Upd.there)); done) | ((repeat (first | exact Upd.here _ | apply Upd.there)); done) | fail) (src_blk mE rfl) rfl oneRc (by simp only [maxLen, List.length_append, List.length_cons, List.length_nil]; omega) (by simp only [List.length_append, List.length_cons, List.length_nil]; omega) (Nat.zero_le _) ?_)
      intro v2
      refine g_ownv v2 mE (fun A3 c3 hv3 _ _ _ => ?_)
      subst hv3
      (repeat (refine gG ?_; try intro _))
      rw [show ((fs + out.length : Nat) : Int) + 1 = ((fs + (out ++ [(⟨rg, rl, rt, ⟨pk, pv, pi, pb, pc, pp, ⟨A1, n1, c1⟩, D1, ⟨A2, n2, c2⟩, M1⟩⟩ : RecD)]).length : Nat) : Int) by rw [List.length_append, List.length_cons, List.length_nil]; omega]
      refine gk_derO [allF out faR, faR (⟨rg, rl, rt, ⟨pk, pv, pi, pb, pc, pp, ⟨A1, n1, c1⟩, D1, ⟨A2, n2, c2⟩, M1⟩⟩ : RecD)] [blk t [.pointer (some ⟨g, 0, none⟩), .int .i64 (z : Nat), .int .u64 (gn : Nat), .int .u64 (fs : Nat), .int .u64 ((fs + (out ++ [(⟨rg, rl, rt, ⟨pk, pv, pi, pb, pc, pp, ⟨A1, n1, c1⟩, D1, ⟨A2, n2, c2⟩, M1⟩⟩ : RecD)]).length : Nat) : Int)] 78, dkF g ⟨sv, lv, S, W⟩, own 0 44 11 (.slice A3 (out ++ [(⟨rg, rl, rt, ⟨pk, pv, pi, pb, pc, pp, ⟨A1, n1, c1⟩, D1, ⟨A2, n2, c2⟩, M1⟩⟩ : RecD)]).length c3) rcE (out ++ [(⟨rg, rl, rt, ⟨pk, pv, pi, pb, pc, pp, ⟨A1, n1, c1⟩, D1, ⟨A2, n2, c2⟩, M1⟩⟩ : RecD)]), allF out fmR, fmR (⟨rg, rl, rt, ⟨pk, pv, pi, pb, pc, pp, ⟨A1, n1, c1⟩, D1, ⟨A2, n2, c2⟩, M1⟩⟩ : RecD)] (φ := allF (out ++ [(⟨rg, rl, rt, ⟨pk, pv, pi, pb, pc, pp, ⟨A1, n1, c1⟩, D1, ⟨A2, n2, c2⟩, M1⟩⟩ : RecD)]) faR) rder_snoc sA ?_
      refine gk_derO [allF out fmR, fmR (⟨rg, rl, rt, ⟨pk, pv, pi, pb, pc, pp, ⟨A1, n1, c1⟩, D1, ⟨A2, n2, c2⟩, M1⟩⟩ : RecD)] [allF (out ++ [(⟨rg, rl, rt, ⟨pk, pv, pi, pb, pc, pp, ⟨A1, n1, c1⟩, D1, ⟨A2, n2, c2⟩, M1⟩⟩ : RecD)]) faR, blk t [.pointer (some ⟨g, 0, none⟩), .int .i64 (z : Nat), .int .u64 (gn : Nat), .int .u64 (fs : Nat), .int .u64 ((fs + (out ++ [(⟨rg, rl, rt, ⟨pk, pv, pi, pb, pc, pp, ⟨A1, n1, c1⟩, D1, ⟨A2, n2, c2⟩, M1⟩⟩ : RecD)]).length : Nat) : Int)] 78, dkF g ⟨sv, lv, S, W⟩, own 0 44 11 (.slice A3 (out ++ [(⟨rg, rl, rt, ⟨pk, pv, pi, pb, pc, pp, ⟨A1, n1, c1⟩, D1, ⟨A2, n2, c2⟩, M1⟩⟩ : RecD)]).length c3) rcE (out ++ [(⟨rg, rl, rt, ⟨pk, pv, pi, pb, pc, pp, ⟨A1, n1, c1⟩, D1, ⟨A2, n2, c2⟩, M1⟩⟩ : RecD)])] (φ := allF (out ++ [(⟨rg, rl, rt, ⟨pk, pv, pi, pb, pc, pp, ⟨A1, n1, c1⟩, D1, ⟨A2, n2, c2⟩, M1⟩⟩ : RecD)]) fmR) rder_snoc sA ?_
      refine gk_again_sel rfl (A3, c3, out ++ [(⟨rg, rl, rt, ⟨pk, pv, pi, pb, pc, pp, ⟨A1, n1, c1⟩, D1, ⟨A2, n2, c2⟩, M1⟩⟩ : RecD)]) hst2 (by dsimp only; simp only [List.length_append, List.length_cons, List.length_nil]; omega) (by repeat (first | exact trivial | refine ⟨rfl, ?_⟩)) sA sS
    · have hc : ocode QQ gn ((fs + out.length : Nat) : Int) ≠ 0 := by rw [← hq.code]; exact he
      (repeat' (first | (refine gG ?_; try intro _) | ((first | refine g_split rfl rfl tE (fun _ => ?_) (fun _ => ?_) | refine gk_cond rfl rfl tE (fun _ => ?_) (fun _ => ?_)) <;> (try first | (exfalso; omega; done) | (rename_i hx; exact absurd rfl hx) | (rename_i hx; cases hx; done)))))
      refine gk_ret hT rfl rfl (.tmp rfl .nil) (fun w' hk => ?_)
      have hk := hk.freeze (A := A) (n := out.length) (c := c) (L := out) rfl (by first | ((repeat (first | with_reducible exact Upd.here _ | with_reducible apply Upd.there)); done) | ((repeat (first | exact Upd.here _ | apply Upd.there)); done) | fail)
      exact RetM.mkP (ll := scL t g z gn fs ⟨sv, lv, S, W⟩) (⟨A, c, out⟩ : ScD) ⟨hfl hc, hI.ok, hle⟩ rfl hk (fun b hb => (finE_mem hL.2 b).1 hb) sA
  · (repeat' (first | (refine gG ?_; try intro _) | (refine g_mv rfl ?_; first | refine mv_call_bel (fun w hk => hr2 w (hk.rO (φ := blk t [.pointer (some ⟨g, 0, none⟩), .int .i64 (z : Nat), .int .u64 (gn : Nat), .int .u64 (fs : Nat), .int .u64 ((fs + out.length : Nat) : Int)] 78) mE)) rfl rfl rfl rfl rfl (by kernel_rfl) ?_) | ((first | refine g_split rfl rfl tE (fun _ => ?_) (fun _ => ?_) | refine gk_cond rfl rfl tE (fun _ => ?_) (fun _ => ?_)) <;> (try first | (exfalso; omega; done) | (rename_i hx; exact absurd rfl hx) | (rename_i hx; cases hx; done)))))
    refine gk_ret hT rfl rfl (.tmp rfl .nil) (fun w' hk => ?_)
    have hk := hk.freeze (A := A) (n := out.length) (c := c) (L := out) rfl (by first | ((repeat (first | with_reducible exact Upd.here _ | with_reducible apply Upd.there)); done) | ((repeat (first | exact Upd.here _ | apply Upd.there)); done) | fail)
    exact RetM.mkP (ll := scL t g z gn fs ⟨sv, lv, S, W⟩) (⟨A, c, out⟩ : ScD) ⟨hI.full (.inl (by omega)), hI.ok, hle⟩ rfl hk (fun b hb => (finE_mem hL.2 b).1 hb) sA
end Go.Proofs.Yteajefmnbalofaa.Tx
