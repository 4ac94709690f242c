/- op.Put. -/
import Derived.Test.YteajefmnbalofaaOpE
import Derived.Test.YteajefmnbalofaaPage8
import Derived.Test.YteajefmnbalofaaTab
namespace Go.Proofs.Yteajefmnbalofaa.OpA
open Go.RowKit Mem Gx Sls Bytes
set_option linter.unusedVariables false
set_option linter.unusedSimpArgs false
set_option maxRecDepth 100000
set_option maxHeartbeats 4000000
/-- What fits in bytes. -/
structure Fits (p : OpD) : Prop where
  fk : 1 ≤ p.k ∧ p.k ≤ 14
  fv : 0 ≤ p.v ∧ p.v ≤ 65535
  fi : 0 ≤ p.i ∧ p.i ≤ 65535
  fb : 0 ≤ p.b ∧ p.b ≤ 31
  fc : 0 ≤ p.c ∧ p.c ≤ 32
  fp : 0 ≤ p.p ∧ p.p ≤ 18446744073709551615
  fD : p.D.length ≤ 64
  fM : p.M.length ≤ 8
  fm : ∀ x ∈ p.M, 1 ≤ x ∧ x ≤ 65535
/-- The bytes of an event. -/
def headL (p : OpD) : List Int := [p.k] ++ le p.v 2 ++ le p.i 2 ++ [p.b, p.c] ++ le p.p 8 ++ [(p.D.length : Int), (p.M.length : Int)]
def memL (M : List Int) : List Int := M.flatMap (fun x => le x 2)
def putL (p : OpD) : List Int := headL p ++ p.D ++ memL p.M
theorem headL_len (p : OpD) : (headL p).length = 17 := by simp [headL, le_length]
theorem memL_len (M : List Int) : (memL M).length = 2 * M.length := by
  induction M with
  | nil => rfl
  | cons x r ih => show (le x 2 ++ memL r).length = _; rw [List.length_append, ih, le_length, List.length_cons]; omega
theorem putL_len (p : OpD) : (putL p).length = 17 + p.D.length + 2 * p.M.length := by
  unfold putL; rw [List.length_append, List.length_append, headL_len, memL_len]
theorem memL_take {M : List Int} {j : Nat} {y : Int} (h : M[j]? = some y) : memL (M.take (j + 1)) = memL (M.take j) ++ le y 2 := by
  have hk : j < M.length := by
    rcases Nat.lt_or_ge j M.length with h1 | h1
    · exact h1
    · rw [List.getElem?_eq_none h1] at h; cases h
  rw [List.take_succ_eq_append_getElem hk]
  rw [List.getElem?_eq_getElem hk] at h
  injection h with h
  unfold memL
  rw [List.flatMap_append, h]
  simp
theorem plain_data {o p q : OpD} {l : List Nat} (hp : PlainAt o l p) (hq : PlainAt o l q) : putL p = putL q := by
  unfold putL headL
  rw [hp.ek, hq.ek, hp.ev, hq.ev, hp.ei, hq.ei, hp.eb, hq.eb, hp.ec, hq.ec, hp.ep, hq.ep, hp.eD, hq.eD, hp.eM, hq.eM]
theorem mem_all {L : List Int} (h : memB L = true) : L.length ≤ 8 ∧ 1 ≤ L.length ∧ ∀ x ∈ L, 1 ≤ x ∧ x ≤ 65535 := by
  unfold memB at h
  rw [Bool.and_eq_true, List.all_eq_true] at h
  obtain ⟨h1, h2⟩ := h
  have h2 := tB_iff.1 h2
  refine ⟨h2.2, h2.1, fun x hx => ?_⟩
  obtain ⟨i, hi, rfl⟩ := List.getElem_of_mem hx
  have := h1 i (by simpa using hi)
  unfold okAt at this
  rw [Bool.and_eq_true] at this
  have h3 := tB_iff.1 this.1
  have e : L.getD i 0 = L[i] := by simp [List.getD_eq_getElem?_getD, List.getElem?_eq_getElem hi]
  rw [e] at h3
  exact h3
theorem fits_of {o p : OpD} (hk : o.k ≤ 14) (hr : rrightB o = true) (hp : PlainAt o (looks o.k) p) (ho : 0 ≤ o.p ∧ o.p ≤ 18446744073709551615) : Fits p := by
  unfold rrightB at hr
  rw [Bool.and_eq_true, List.all_eq_true] at hr
  obtain ⟨h1, h2⟩ := hr
  have h1 := tB_iff.1 h1
  obtain ⟨ek, ev, ei, eb, ec, ep, eD, eM, ok⟩ := hp
  refine ⟨by omega, ?_, ?_, ?_, ?_, ?_, ?_, ?_, ?_⟩
  · rw [ev]; split
    · rename_i h; have := tB_iff.1 (show tB (1 ≤ o.v ∧ o.v ≤ 65535) = true by simpa [mayB, idB] using h2 _ h); omega
    · omega
  · rw [ei]; split
    · rename_i h; have := tB_iff.1 (show tB (1 ≤ o.i ∧ o.i ≤ 65535) = true by simpa [mayB, idB] using h2 _ h); omega
    · omega
  · rw [eb]; split
    · rename_i h; have := tB_iff.1 (show tB (0 ≤ o.b ∧ o.b < 32) = true by simpa [mayB, placeB] using h2 _ h); omega
    · omega
  · rw [ec]; split
    · rename_i h; have := tB_iff.1 (show tB (1 ≤ o.c ∧ o.c ≤ 32) = true by simpa [mayB, countB] using h2 _ h); omega
    · omega
  · rw [ep]; split
    · exact ho
    · omega
  · rw [eD]; split
    · rename_i h; have := tB_iff.1 (show tB (1 ≤ o.D.length ∧ o.D.length ≤ 64) = true by simpa [mayB] using h2 _ h); omega
    · simp
  · rw [eM]; split
    · rename_i h; exact (mem_all (show memB o.M = true by simpa [mayB] using h2 _ h)).1
    · simp
  · rw [eM]; split
    · rename_i h; exact (mem_all (show memB o.M = true by simpa [mayB] using h2 _ h)).2.2
    · intro x hx; cases hx
/-- A contract's Bool, known. -/
theorem calls_b {P : Program} {fid : FuncId} {args : Array Value} {w : World} {a b : Bool} (e0 : a = b) (h : Calls P fid args w fun e w' => e = .returned (.bool a) ∧ Below w.heap.size w w') : Calls P fid args w fun e w' => e = .returned (.bool b) ∧ Below w.heap.size w w' := e0 ▸ h
theorem oright_any (o : OpD) (w : World) (ho : o.Ok) (hs : Sl w o.m.A 1 (IE .i64) o.M) (h9 : o.M.length ≤ 100000) : Calls Try.prog 73 [o.val].toArray w fun e w' => e = .returned (.bool (rrightB o)) ∧ Below w.heap.size w w' := by
  rw [← right_eq o, ← ho.a.n]; exact right_any _ _ _ _ _ _ _ _ _ _ _ _ _ w ho.m.n (by have := ho.m.n; omega) hs
theorem put_no (o : OpD) (w : World) (ho : o.Ok) (hi : o.In w) (hM9 : o.M.length ≤ 100000) (h : ¬ (1 ≤ o.k ∧ o.k ≤ 14 ∧ rrightB o = true)) : Calls Try.prog 58 [o.val].toArray w fun e w' => e = .returned (.tuple #[.slice none 0 0, .int .i64 10]) ∧ Below w.heap.size w w' := by
  by_cases hk : 1 ≤ o.k ∧ o.k ≤ 14
  · have hf : rrightB o = false := by
      rw [Bool.eq_false_iff]; exact fun e => h ⟨hk.1, hk.2, e⟩
    have c1 := fun w => calls_b (tB_true hk) (event_any o.k o.v o.i o.b o.c o.p o.a.v o.m.v w)
    have c2 := fun w hs => calls_b hf (oright_any o w ho hs hM9)
    refine g_enter0 T [] [] [sl o.m.A 1 (IE .i64) o.M, sl o.a.A 1 (IE .u8) o.D] Try.func58 rfl Try.ntmps58 rfl (((Kn.start w).argR hi.a (by decide) (fun _ h => by cases h)).argR hi.m (by decide) (fun _ h => by cases h)) ?_
    (repeat' (first | (refine gG ?_; try intro _) | (refine g_mv rfl ?_; first | refine mv_call_bel (fun w hk => c1 w) rfl rfl rfl rfl rfl (by kernel_rfl) ?_ | refine mv_call_bel (fun w hk => c2 w (hk.pR (sl o.m.A 1 (IE .i64) o.M) mE)) rfl rfl rfl rfl rfl (by kernel_rfl) ?_) | ((first | refine g_split rfl rfl tE (fun _ => ?_) (fun _ => ?_) | refine gk_cond rfl rfl tE (fun _ => ?_) (fun _ => ?_)) <;> (try first | (exfalso; omega; done) | (rename_i hx; exact absurd rfl hx) | (rename_i hx; cases hx; done)))))
    refine gk_ret hT rfl rfl (.tmp rfl (.tmp rfl .nil)) (fun w' hk => ?_)
    exact ⟨rfl, hk.toBelow⟩
  · have c1 := fun w => calls_b (tB_false hk) (event_any o.k o.v o.i o.b o.c o.p o.a.v o.m.v w)
    refine g_enter0 T [] [] [] Try.func58 rfl Try.ntmps58 rfl (Kn.start _) ?_
    (repeat' (first | (refine gG ?_; try intro _) | (refine g_mv rfl ?_; first | refine mv_call_bel (fun w hk => c1 w) rfl rfl rfl rfl rfl (by kernel_rfl) ?_) | ((first | refine g_split rfl rfl tE (fun _ => ?_) (fun _ => ?_) | refine gk_cond rfl rfl tE (fun _ => ?_) (fun _ => ?_)) <;> (try first | (exfalso; omega; done) | (rename_i hx; exact absurd rfl hx) | (rename_i hx; cases hx; done)))))
    refine gk_ret hT rfl rfl (.tmp rfl (.tmp rfl .nil)) (fun w' hk => ?_)
    exact ⟨rfl, hk.toBelow⟩
theorem put_yes (o : OpD) (w : World) (ho : o.Ok) (hi : o.In w) (hD9 : o.D.length ≤ 100000) (hM9 : o.M.length ≤ 100000) (hpp : 0 ≤ o.p ∧ o.p ≤ 18446744073709551615) (h : 1 ≤ o.k ∧ o.k ≤ 14 ∧ rrightB o = true) (B : List Int) (hB : ∀ p, PlainAt o (looks o.k) p → putL p = B) :
    Calls Try.prog 58 [o.val].toArray w (Ret (fun s : SlV => s.Ok B.length) (fun s => .tuple #[s.v, .int .i64 0]) (fun s => [sl s.A 1 (IE .u8) B]) w) := by
  have c1 := fun w => calls_b (tB_true ⟨h.1, h.2.1⟩) (event_any o.k o.v o.i o.b o.c o.p o.a.v o.m.v w)
  have c2 := fun w hs => calls_b h.2.2 (oright_any o w ho hs hM9)
  refine g_enter0 T [] [] [sl o.m.A 1 (IE .i64) o.M, sl o.a.A 1 (IE .u8) o.D] Try.func58 rfl Try.ntmps58 rfl (((Kn.start w).argR hi.a (by decide) (fun _ h => by cases h)).argR hi.m (by decide) (fun _ h => by cases h)) ?_
  (repeat' (first | (refine gG ?_; try intro _) | (refine g_mv rfl ?_; first | refine mv_call_bel (fun w hk => c1 w) rfl rfl rfl rfl rfl (by kernel_rfl) ?_ | refine mv_call_bel (fun w hk => c2 w (hk.pR (sl o.m.A 1 (IE .i64) o.M) mE)) rfl rfl rfl rfl rfl (by kernel_rfl) ?_) | ((first | refine g_split rfl rfl tE (fun _ => ?_) (fun _ => ?_) | refine gk_cond rfl rfl tE (fun _ => ?_) (fun _ => ?_)) <;> (try first | (exfalso; omega; done) | (rename_i hx; exact absurd rfl hx) | (rename_i hx; cases hx; done)))))
  rename_i g1
  refine g_mv rfl ?_; refine mv_call_rt (fun w hk => plain_any o w ho ⟨hk.pR (sl o.a.A 1 (IE .u8) o.D) mE, hk.pR (sl o.m.A 1 (IE .i64) o.M) mE⟩ hD9 hM9) rfl rfl rfl rfl rfl (by kernel_rfl) (fun _ => rfl) (fun p hp => ?_)
  have hf := fits_of h.2.1 h.2.2 hp hpp
  have hBp := hB p hp
  have hok := hp.ok
  clear hp c1 c2 hB
  have en := hok.a.n
  have em := hok.m.n
  obtain ⟨f1, f2, f3, f4, f5, f6, f7, f8, f9⟩ := hf
  (repeat (refine gG ?_; try intro _))
  rename_i g2
  refine g_lit g2 1 (enc := IE .u8) [p.k] rfl (by decide) rfl (by first | ((repeat (first | with_reducible exact Upd.here _ | with_reducible apply Upd.there)); done) | ((repeat (first | exact Upd.here _ | apply Upd.there)); done) | fail) ?_
  refine g_mv rfl ?_; refine mv_call_grow (fun w hk => Fix.put_any 0 (.slice (some ⟨g2, 0, none⟩) 1 1) [p.k] p.v 2 2 w rfl (by omega) f2.1 (hk.pO (own 0 5 1 (.slice (some ⟨g2, 0, none⟩) 1 1) (IE .u8) [p.k]) mE) (by simp only [List.length_append, List.length_cons, List.length_nil, le_length]; omega) (Nat.zero_le _)) rfl rfl rfl rfl rfl (by kernel_rfl) (by intro _; first | ((repeat (first | with_reducible exact Upd.here _ | with_reducible apply Upd.there)); done) | ((repeat (first | exact Upd.here _ | apply Upd.there)); done) | fail) (fun v1 => ?_)
  (repeat (refine gG ?_; try intro _))
  refine g_mv rfl ?_; refine mv_call_grow (fun w hk => Fix.put_any 0 v1 ([p.k] ++ le p.v 2) p.i 2 2 w rfl (by omega) f3.1 (hk.pO (own 0 5 1 v1 (IE .u8) ([p.k] ++ le p.v 2)) mE) (by simp only [List.length_append, List.length_cons, List.length_nil, le_length]; omega) (Nat.zero_le _)) rfl rfl rfl rfl rfl (by kernel_rfl) (by intro _; first | ((repeat (first | with_reducible exact Upd.here _ | with_reducible apply Upd.there)); done) | ((repeat (first | exact Upd.here _ | apply Upd.there)); done) | fail) (fun v2 => ?_)
  (repeat (refine gG ?_; try intro _))
  rename_i g3
  refine g_mv rfl (mv_append rfl [p.b, p.c] rfl rfl rfl rfl elt_B (by intro _; first | ((repeat (first | with_reducible exact Upd.here _ | with_reducible apply Upd.there)); done) | ((repeat (first | exact Upd.here _ | apply Upd.there)); done) | fail) (src_blk mE rfl) rfl (by intro x j; rfl) (by simp only [maxLen, List.length_append, List.length_cons, List.length_nil, le_length]; omega) (by simp only [List.length_append, List.length_cons, List.length_nil, le_length]; omega) (Nat.zero_le _) (fun v3 => ?_))
  (repeat (refine gG ?_; try intro _))
  refine g_mv rfl ?_; refine mv_call_grow (fun w hk => Fix.put_any 0 v3 ([p.k] ++ le p.v 2 ++ le p.i 2 ++ [p.b, p.c]) p.p 8 8 w rfl (by omega) f6.1 (hk.pO (own 0 5 1 v3 (IE .u8) ([p.k] ++ le p.v 2 ++ le p.i 2 ++ [p.b, p.c])) mE) (by simp only [List.length_append, List.length_cons, List.length_nil, le_length]; omega) (Nat.zero_le _)) rfl rfl rfl rfl rfl (by kernel_rfl) (by intro _; first | ((repeat (first | with_reducible exact Upd.here _ | with_reducible apply Upd.there)); done) | ((repeat (first | exact Upd.here _ | apply Upd.there)); done) | fail) (fun v4 => ?_)
  (repeat (refine gG ?_; try intro _))
  rename_i g4
  refine g_mv rfl (mv_append rfl [(p.D.length : Int), (p.M.length : Int)] rfl rfl rfl rfl elt_B (by intro _; first | ((repeat (first | with_reducible exact Upd.here _ | with_reducible apply Upd.there)); done) | ((repeat (first | exact Upd.here _ | apply Upd.there)); done) | fail) (src_blk mE (by rw [← en, ← em]; rfl)) rfl (by intro x j; rfl) (by simp only [maxLen, List.length_append, List.length_cons, List.length_nil, le_length]; omega) (by simp only [List.length_append, List.length_cons, List.length_nil, le_length]; omega) (Nat.zero_le _) (fun v5 => ?_))
  (repeat (refine gG ?_; try intro _))
  refine g_mv rfl (mv_append rfl p.D rfl rfl rfl rfl elt_B (by intro _; first | ((repeat (first | with_reducible exact Upd.here _ | with_reducible apply Upd.there)); done) | ((repeat (first | exact Upd.here _ | apply Upd.there)); done) | fail) (src_O mE) en (by intro x j; rfl) (by simp only [maxLen, List.length_append, List.length_cons, List.length_nil, le_length]; omega) (by simp only [List.length_append, List.length_cons, List.length_nil, le_length]; omega) (Nat.zero_le _) (fun v6 => ?_))
  (repeat (refine gG ?_; try intro _))
  refine gk_share (φ := sl p.m.A 1 (IE .i64) p.M) (by repeat (first | exact Sel.here | apply Sel.there)) ?_
  refine gk_loop_sel (fun (q : Nat × Value × (List Int)) => match q with | (j, v, L) => j ≤ p.M.length ∧ L = headL p ++ p.D ++ memL (p.M.take j)) (fun (q : Nat × Value × (List Int)) => match q with | (j, v, L) => [(4, v), (60, p.m.v), (61, .int .i64 p.m.n), (62, .int .i64 j)]) (fun (q : Nat × Value × (List Int)) => match q with | (j, v, L) => [own 0 5 1 v (IE .u8) L]) (fun (q : Nat × Value × (List Int)) => match q with | (j, v, L) => [sl p.m.A 1 (IE .i64) p.M]) (fun (q : Nat × Value × (List Int)) => match q with | (j, v, L) => p.M.length - j) (0, v6, headL p ++ p.D) rfl ⟨Nat.zero_le _, by simp [memL]⟩ (by repeat (first | exact trivial | refine ⟨rfl, ?_⟩)) sA sS ?_
  rintro ⟨j, v, L⟩ hI
  replace hI : j ≤ p.M.length ∧ L = headL p ++ p.D ++ memL (p.M.take j) := hI
  change GK _ _ [(4, v), (60, p.m.v), (61, .int .i64 p.m.n), (62, .int .i64 j)] [own 0 5 1 v (IE .u8) L] [sl p.m.A 1 (IE .i64) p.M]
  obtain ⟨hj, hL⟩ := hI
  have hLl : L.length = 17 + p.D.length + 2 * (p.M.take j).length := by
    rw [hL, List.length_append, List.length_append, headL_len, memL_len]
  have hjt : (p.M.take j).length ≤ 8 := by rw [List.length_take]; omega
  (repeat (refine gG ?_; try intro _))
  refine gk_cond rfl rfl (tells_tB _) (fun h1 => ?_) (fun h1 => ?_)
  · refine gk_elem (enc := IE .i64) (L := p.M) j mE (by omega) (by decide) (fun b off y eA hy => ?_)
    have hy9 := f9 y (List.mem_of_getElem? hy)
    refine gk_say 60 (.slice (some ⟨b, off, none⟩) p.m.n p.m.c) rfl (by rw [← eA]; rfl) ?_
    (repeat (refine gG ?_; try intro _))
    refine g_mv rfl ?_; refine mv_call_grow (fun w hk => Fix.put_any 0 v L y 2 2 w rfl (by omega) (by omega) (hk.pO (own 0 5 1 v (IE .u8) L) mE) (by omega) (Nat.zero_le _)) rfl rfl rfl rfl rfl (by kernel_rfl) (by intro _; first | ((repeat (first | with_reducible exact Upd.here _ | with_reducible apply Upd.there)); done) | ((repeat (first | exact Upd.here _ | apply Upd.there)); done) | fail) (fun v' => ?_)
    (repeat (refine gG ?_; try intro _))
    refine gk_say 60 p.m.v rfl (by rw [← eA]; rfl) ?_
    refine gk_again_sel rfl (j + 1, v', L ++ le y 2) ⟨by omega, by rw [memL_take hy, hL, List.append_assoc]⟩ (by dsimp only; omega) (by repeat (first | exact trivial | refine ⟨rfl, ?_⟩)) sA sS
  · have hjl : j = p.M.length := by omega
    rw [hjl, List.take_length] at hL
    have hLB : L = B := by rw [hL, ← hBp]; rfl
    subst hLB
    (repeat (refine gG ?_; try intro _))
    refine gk_freeze _ (by intro _; first | ((repeat (first | with_reducible exact Upd.here _ | with_reducible apply Upd.there)); done) | ((repeat (first | exact Upd.here _ | apply Upd.there)); done) | fail) (fun A2 c2 hA2 hA21 hA22 hA23 => ?_); subst hA2
    refine gk_ret hT rfl rfl (.tmp rfl (.tmp rfl .nil)) (fun w' hk => ?_)
    exact ret_own (F := fun v => .tuple #[v, .int .i64 0]) hk sA rfl hA21 hA22 hA23
end Go.Proofs.Yteajefmnbalofaa.OpA
