/- op.Get. -/
import Derived.Test.YteajefmnbalofaaOpI2
import Derived.Test.YteajefmnbalofaaRdL
import Derived.Test.YteajefmnbalofaaTab
namespace Go.Proofs.Yteajefmnbalofaa.OpA
open Go.RowKit Mem Gx Sls Bytes Rd
set_option linter.unusedVariables false
set_option linter.unusedSimpArgs false
set_option maxRecDepth 100000
set_option maxHeartbeats 4000000
abbrev nS : SlV := ⟨none, 0, 0⟩
/-- The bytes of what an operation looks at. -/
def putPl (o : OpD) (l : List Nat) : List Int := putL ⟨o.k, if 118 ∈ l then o.v else 0, if 105 ∈ l then o.i else 0, if 98 ∈ l then o.b else 0, if 110 ∈ l then o.c else 0, if 112 ∈ l then o.p else 0, nS, if 100 ∈ l then o.D else [], nS, if 109 ∈ l then o.M else []⟩
theorem putPl_of {o p : OpD} {l : List Nat} (h : PlainAt o l p) : putL p = putPl o l := by
  unfold putPl putL headL
  rw [h.ek, h.ev, h.ei, h.eb, h.ec, h.ep, h.eD, h.eM]
theorem putPl_same {o q : OpD} (h : sameP o q) (l : List Nat) : putPl o l = putPl q l := by
  obtain ⟨a1, a2, a3, a4, a5, a6, a7, a8⟩ := h
  unfold putPl
  rw [a1, a2, a3, a4, a5, a6, a7, a8]
theorem rright_same {o q : OpD} (h : sameP o q) : rrightB o = rrightB q := by
  obtain ⟨a1, a2, a3, a4, a5, a6, a7, a8⟩ := h
  unfold rrightB mayB
  rw [a1, a2, a3, a4, a5, a7, a8]
theorem decM_snoc : ∀ (j : Nat) (X : List Int), decM X (j + 1) = decM X j ++ [num ((X.drop (2 * j)).take 2)]
  | 0, X => by show [num (X.take 2)] = [num ((X.drop 0).take 2)]; rw [List.drop_zero]
  | j + 1, X => by
    have e : 2 * (j + 1) = 2 + 2 * j := by omega
    show num (X.take 2) :: decM (X.drop 2) (j + 1) = (num (X.take 2) :: decM (X.drop 2) j) ++ _
    rw [decM_snoc j (X.drop 2), List.drop_drop, List.cons_append, e]
/-- May the bytes be an event, as it stands? -/
def okP (L : List Int) : Prop := (1 ≤ (dec L nS nS).k ∧ (dec L nS nS).k ≤ 14) ∧ rrightB (dec L nS nS) = true ∧ putPl (dec L nS nS) (looks (dec L nS nS).k) = L
noncomputable def codeL (L : List Int) : Int := if L.length < 17 ∨ L.length < 17 + dn L + 2 * dm L then 20 else if 17 + dn L + 2 * dm L < L.length ∨ ¬ tB (okP L) = true then 21 else 0
structure GetI (L : List Int) (s : OpD × Int) : Prop where
  ok : s.1.Ok
  code : s.2 = codeL L
  yes : codeL L = 0 → sameP s.1 (dec L nS nS)
  no : codeL L ≠ 0 → sameP s.1 (kindO 0)
theorem code_short {L : List Int} {n m : Nat} (h1 : 16 ≤ L.length → 17 ≤ L.length → n = dn L ∧ m = dm L) (h : L.length < 17 + n + 2 * m) : codeL L = 20 := by
  unfold codeL
  rw [if_pos]
  by_cases h17 : 17 ≤ L.length
  · obtain ⟨rfl, rfl⟩ := h1 (by omega) h17
    exact .inr h
  · exact .inl (by omega)
theorem code_long {L : List Int} (h17 : 17 ≤ L.length) (h : 17 + dn L + 2 * dm L < L.length) : codeL L = 21 := by
  unfold codeL
  rw [if_neg (by omega), if_pos (.inl h)]
theorem code_full {L : List Int} (h17 : 17 ≤ L.length) (h : L.length = 17 + dn L + 2 * dm L) : codeL L = if ¬ tB (okP L) = true then 21 else 0 := by
  unfold codeL
  rw [if_neg (by omega)]
  by_cases hg : tB (okP L) = true
  · rw [if_neg (by rw [not_or]; exact ⟨by omega, fun h => h hg⟩), if_neg (fun h => h hg)]
  · rw [if_pos (.inr hg), if_pos hg]
theorem calls_i {P : Program} {fid : FuncId} {args : Array Value} {w : World} {k : IntKind} {a b : Int} (e0 : a = b) (h : Calls P fid args w fun e w' => e = .returned (.int k a) ∧ Below w.heap.size w w') : Calls P fid args w fun e w' => e = .returned (.int k b) ∧ Below w.heap.size w w' := e0 ▸ h
theorem putPl_isB {o : OpD} {l : List Nat} {p : OpD} (hp : PlainAt o l p) (hf : Fits p) (hD : IsB o.D) : IsB (putPl o l) := by
  rw [← putPl_of hp]
  have hpD : IsB p.D := by
    rw [hp.eD]; split
    · exact hD
    · exact IsB.nil
  obtain ⟨f1, f2, f3, f4, f5, f6, f7, f8, f9⟩ := hf
  have hM : ∀ M : List Int, IsB (memL M) := fun M => by
    intro x hx
    obtain ⟨y, _, hy⟩ := List.mem_flatMap.1 hx
    exact le_isB y 2 x hy
  unfold putL headL
  refine IsB.append (IsB.append (IsB.append (IsB.append (IsB.append (IsB.append (IsB.append ?_ (le_isB _ _)) (le_isB _ _)) ?_) (le_isB _ _)) ?_) hpD) (hM _)
  · exact IsB.cons (by omega) IsB.nil
  · exact IsB.cons (by omega) (IsB.cons (by omega) IsB.nil)
  · exact IsB.cons (by omega) (IsB.cons (by omega) IsB.nil)
theorem exists_plain (o : OpD) (l : List Nat) (h1 : o.D.length ≤ 100000) (h2 : o.M.length ≤ 100000) : ∃ p, PlainAt o l p := by
  refine ⟨⟨o.k, if 118 ∈ l then o.v else 0, if 105 ∈ l then o.i else 0, if 98 ∈ l then o.b else 0, if 110 ∈ l then o.c else 0, if 112 ∈ l then o.p else 0, ⟨some ⟨0, 0, none⟩, (if 100 ∈ l then o.D else []).length, (if 100 ∈ l then o.D else []).length⟩, if 100 ∈ l then o.D else [], ⟨some ⟨0, 0, none⟩, (if 109 ∈ l then o.M else []).length, (if 109 ∈ l then o.M else []).length⟩, if 109 ∈ l then o.M else []⟩, rfl, rfl, rfl, rfl, rfl, rfl, rfl, rfl, ⟨⟨rfl, Nat.le_refl _, ?_, fun h => by cases h⟩, ⟨rfl, Nat.le_refl _, ?_, fun h => by cases h⟩⟩⟩
  · unfold maxLen
    show (if 100 ∈ l then o.D else []).length ≤ _
    split
    · omega
    · simp
  · unfold maxLen
    show (if 109 ∈ l then o.M else []).length ≤ _
    split
    · omega
    · simp
theorem get_any (s0 : SlV) (L : List Int) (w : World) (hs0 : s0.Ok L.length) (hL : Sl w s0.A 1 (IE .u8) L) (hB : IsB L) (h9 : L.length ≤ 10000) :
    Calls Try.prog 78 [s0.v].toArray w (Ret (GetI L) (fun s => .tuple #[s.1.val, .int .i64 s.2]) (fun s => s.1.fs) w) := by
  have h99 : L.length ≤ 100000 := by omega
  refine g_enter0 T [] [] [sl s0.A 1 (IE .u8) L] Try.func78 rfl Try.ntmps78 rfl ((Kn.start w).argR hL (by decide) (fun _ h => by cases h)) ?_
  (repeat (first | refine g_nil ?_ | refine g_pure true hT rfl rfl rfl sI ?_ | refine g_skip rfl rfl ?_ | refine g_skip0 rfl rfl ?_ | refine gk_region rfl ?_ | refine gk_cond_t rfl rfl ?_ | refine gk_cond_f rfl rfl ?_ | refine g_yd rfl rfl (yd_load_blk hT rfl rfl mE rfl rfl) ?_ | refine g_yd rfl rfl (yd_load_row hT rfl rfl mE rfl rfl) ?_ | refine g_yd rfl rfl (yd_load_row0 hT rfl rfl mE rfl rfl) ?_ | refine g_yd rfl rfl (yd_eql rfl rfl rfl rfl rfl (by kernel_rfl)) ?_ | refine g_yd rfl rfl (yd_neq rfl rfl rfl rfl rfl (by kernel_rfl)) ?_ | refine g_yd rfl rfl (yd_index hT rfl rfl rfl sI rfl) ?_ | refine g_yd rfl rfl (yd_slice_nil hT rfl rfl rfl rfl) ?_ | refine g_yd rfl rfl (yd_build_arr hT rfl rfl rfl rfl rfl rfl) ?_ | (refine g_mv rfl ?_; first | (refine mv_box rfl rfl rfl rfl ?_; intro _) | (refine mv_alloc rfl hT rfl rfl ?_; intro _) | refine mv_store hT rfl rfl rfl rfl rfl rfl sO rfl ?_ | (refine mv_buildSlice rfl hT rfl rfl rfl rfl rfl rfl rfl rfl ?_; intro _)) | refine g_yd rfl rfl (Ys.yd (ys_str_eql hT rfl rfl rfl rfl)) ?_ | refine g_yd rfl rfl (Ys.yd (ys_str_neq hT rfl rfl rfl rfl)) ?_))
  rename_i g2
  refine g_mv rfl ?_; refine mv_call_rt (fun w hk => new_rd s0 w) rfl rfl rfl rfl rfl (by kernel_rfl) (fun _ => rfl) (fun gr _ => ?_)
  (repeat (first | refine g_nil ?_ | refine g_pure true hT rfl rfl rfl sI ?_ | refine g_skip rfl rfl ?_ | refine g_skip0 rfl rfl ?_ | refine gk_region rfl ?_ | refine gk_cond_t rfl rfl ?_ | refine gk_cond_f rfl rfl ?_ | refine g_yd rfl rfl (yd_load_blk hT rfl rfl mE rfl rfl) ?_ | refine g_yd rfl rfl (yd_load_row hT rfl rfl mE rfl rfl) ?_ | refine g_yd rfl rfl (yd_load_row0 hT rfl rfl mE rfl rfl) ?_ | refine g_yd rfl rfl (yd_eql rfl rfl rfl rfl rfl (by kernel_rfl)) ?_ | refine g_yd rfl rfl (yd_neq rfl rfl rfl rfl rfl (by kernel_rfl)) ?_ | refine g_yd rfl rfl (yd_index hT rfl rfl rfl sI rfl) ?_ | refine g_yd rfl rfl (yd_slice_nil hT rfl rfl rfl rfl) ?_ | refine g_yd rfl rfl (yd_build_arr hT rfl rfl rfl rfl rfl rfl) ?_ | (refine g_mv rfl ?_; first | (refine mv_box rfl rfl rfl rfl ?_; intro _) | (refine mv_alloc rfl hT rfl rfl ?_; intro _) | refine mv_store hT rfl rfl rfl rfl rfl rfl sO rfl ?_ | (refine mv_buildSlice rfl hT rfl rfl rfl rfl rfl rfl rfl rfl ?_; intro _)) | refine g_yd rfl rfl (Ys.yd (ys_str_eql hT rfl rfl rfl rfl)) ?_ | refine g_yd rfl rfl (Ys.yd (ys_str_neq hT rfl rfl rfl rfl)) ?_))
  refine g_mv rfl ?_; refine mv_call_w (fun w hk => u8_p L L gr 0 s0 false w h99 (pos_start hB) (in_of hk hs0 mE mE)) rfl rfl rfl rfl rfl (by kernel_rfl) (by intro _; repeat (first | exact Upd.here _ | apply Upd.there)) (fun ψ hψ => by obtain rfl := List.mem_singleton.1 hψ; exact mE) (fun _ => rfl) (fun _ => rfl) (fun r1 h1 => ?_)
  (repeat (first | refine g_nil ?_ | refine g_pure true hT rfl rfl rfl sI ?_ | refine g_skip rfl rfl ?_ | refine g_skip0 rfl rfl ?_ | refine gk_region rfl ?_ | refine gk_cond_t rfl rfl ?_ | refine gk_cond_f rfl rfl ?_ | refine g_yd rfl rfl (yd_load_blk hT rfl rfl mE rfl rfl) ?_ | refine g_yd rfl rfl (yd_load_row hT rfl rfl mE rfl rfl) ?_ | refine g_yd rfl rfl (yd_load_row0 hT rfl rfl mE rfl rfl) ?_ | refine g_yd rfl rfl (yd_eql rfl rfl rfl rfl rfl (by kernel_rfl)) ?_ | refine g_yd rfl rfl (yd_neq rfl rfl rfl rfl rfl (by kernel_rfl)) ?_ | refine g_yd rfl rfl (yd_index hT rfl rfl rfl sI rfl) ?_ | refine g_yd rfl rfl (yd_slice_nil hT rfl rfl rfl rfl) ?_ | refine g_yd rfl rfl (yd_build_arr hT rfl rfl rfl rfl rfl rfl) ?_ | (refine g_mv rfl ?_; first | (refine mv_box rfl rfl rfl rfl ?_; intro _) | (refine mv_alloc rfl hT rfl rfl ?_; intro _) | refine mv_store hT rfl rfl rfl rfl rfl rfl sO rfl ?_ | (refine mv_buildSlice rfl hT rfl rfl rfl rfl rfl rfl rfl rfl ?_; intro _)) | refine g_yd rfl rfl (Ys.yd (ys_str_eql hT rfl rfl rfl rfl)) ?_ | refine g_yd rfl rfl (Ys.yd (ys_str_neq hT rfl rfl rfl rfl)) ?_))
  refine g_mv rfl ?_; refine mv_call_w (fun w hk => u16_p L r1.M gr 1 r1.q r1.bad w h99 h1.pos (in_of hk h1.nx.ok mE mE)) rfl rfl rfl rfl rfl (by kernel_rfl) (by intro _; repeat (first | exact Upd.here _ | apply Upd.there)) (fun ψ hψ => by obtain rfl := List.mem_singleton.1 hψ; exact mE) (fun _ => rfl) (fun _ => rfl) (fun r2 h2 => ?_)
  (repeat (first | refine g_nil ?_ | refine g_pure true hT rfl rfl rfl sI ?_ | refine g_skip rfl rfl ?_ | refine g_skip0 rfl rfl ?_ | refine gk_region rfl ?_ | refine gk_cond_t rfl rfl ?_ | refine gk_cond_f rfl rfl ?_ | refine g_yd rfl rfl (yd_load_blk hT rfl rfl mE rfl rfl) ?_ | refine g_yd rfl rfl (yd_load_row hT rfl rfl mE rfl rfl) ?_ | refine g_yd rfl rfl (yd_load_row0 hT rfl rfl mE rfl rfl) ?_ | refine g_yd rfl rfl (yd_eql rfl rfl rfl rfl rfl (by kernel_rfl)) ?_ | refine g_yd rfl rfl (yd_neq rfl rfl rfl rfl rfl (by kernel_rfl)) ?_ | refine g_yd rfl rfl (yd_index hT rfl rfl rfl sI rfl) ?_ | refine g_yd rfl rfl (yd_slice_nil hT rfl rfl rfl rfl) ?_ | refine g_yd rfl rfl (yd_build_arr hT rfl rfl rfl rfl rfl rfl) ?_ | (refine g_mv rfl ?_; first | (refine mv_box rfl rfl rfl rfl ?_; intro _) | (refine mv_alloc rfl hT rfl rfl ?_; intro _) | refine mv_store hT rfl rfl rfl rfl rfl rfl sO rfl ?_ | (refine mv_buildSlice rfl hT rfl rfl rfl rfl rfl rfl rfl rfl ?_; intro _)) | refine g_yd rfl rfl (Ys.yd (ys_str_eql hT rfl rfl rfl rfl)) ?_ | refine g_yd rfl rfl (Ys.yd (ys_str_neq hT rfl rfl rfl rfl)) ?_))
  refine g_mv rfl ?_; refine mv_call_w (fun w hk => u16_p L r2.M gr 3 r2.q r2.bad w h99 h2.pos (in_of hk h2.nx.ok mE mE)) rfl rfl rfl rfl rfl (by kernel_rfl) (by intro _; repeat (first | exact Upd.here _ | apply Upd.there)) (fun ψ hψ => by obtain rfl := List.mem_singleton.1 hψ; exact mE) (fun _ => rfl) (fun _ => rfl) (fun r3 h3 => ?_)
  (repeat (first | refine g_nil ?_ | refine g_pure true hT rfl rfl rfl sI ?_ | refine g_skip rfl rfl ?_ | refine g_skip0 rfl rfl ?_ | refine gk_region rfl ?_ | refine gk_cond_t rfl rfl ?_ | refine gk_cond_f rfl rfl ?_ | refine g_yd rfl rfl (yd_load_blk hT rfl rfl mE rfl rfl) ?_ | refine g_yd rfl rfl (yd_load_row hT rfl rfl mE rfl rfl) ?_ | refine g_yd rfl rfl (yd_load_row0 hT rfl rfl mE rfl rfl) ?_ | refine g_yd rfl rfl (yd_eql rfl rfl rfl rfl rfl (by kernel_rfl)) ?_ | refine g_yd rfl rfl (yd_neq rfl rfl rfl rfl rfl (by kernel_rfl)) ?_ | refine g_yd rfl rfl (yd_index hT rfl rfl rfl sI rfl) ?_ | refine g_yd rfl rfl (yd_slice_nil hT rfl rfl rfl rfl) ?_ | refine g_yd rfl rfl (yd_build_arr hT rfl rfl rfl rfl rfl rfl) ?_ | (refine g_mv rfl ?_; first | (refine mv_box rfl rfl rfl rfl ?_; intro _) | (refine mv_alloc rfl hT rfl rfl ?_; intro _) | refine mv_store hT rfl rfl rfl rfl rfl rfl sO rfl ?_ | (refine mv_buildSlice rfl hT rfl rfl rfl rfl rfl rfl rfl rfl ?_; intro _)) | refine g_yd rfl rfl (Ys.yd (ys_str_eql hT rfl rfl rfl rfl)) ?_ | refine g_yd rfl rfl (Ys.yd (ys_str_neq hT rfl rfl rfl rfl)) ?_))
  refine g_mv rfl ?_; refine mv_call_w (fun w hk => u8_p L r3.M gr 5 r3.q r3.bad w h99 h3.pos (in_of hk h3.nx.ok mE mE)) rfl rfl rfl rfl rfl (by kernel_rfl) (by intro _; repeat (first | exact Upd.here _ | apply Upd.there)) (fun ψ hψ => by obtain rfl := List.mem_singleton.1 hψ; exact mE) (fun _ => rfl) (fun _ => rfl) (fun r4 h4 => ?_)
  (repeat (first | refine g_nil ?_ | refine g_pure true hT rfl rfl rfl sI ?_ | refine g_skip rfl rfl ?_ | refine g_skip0 rfl rfl ?_ | refine gk_region rfl ?_ | refine gk_cond_t rfl rfl ?_ | refine gk_cond_f rfl rfl ?_ | refine g_yd rfl rfl (yd_load_blk hT rfl rfl mE rfl rfl) ?_ | refine g_yd rfl rfl (yd_load_row hT rfl rfl mE rfl rfl) ?_ | refine g_yd rfl rfl (yd_load_row0 hT rfl rfl mE rfl rfl) ?_ | refine g_yd rfl rfl (yd_eql rfl rfl rfl rfl rfl (by kernel_rfl)) ?_ | refine g_yd rfl rfl (yd_neq rfl rfl rfl rfl rfl (by kernel_rfl)) ?_ | refine g_yd rfl rfl (yd_index hT rfl rfl rfl sI rfl) ?_ | refine g_yd rfl rfl (yd_slice_nil hT rfl rfl rfl rfl) ?_ | refine g_yd rfl rfl (yd_build_arr hT rfl rfl rfl rfl rfl rfl) ?_ | (refine g_mv rfl ?_; first | (refine mv_box rfl rfl rfl rfl ?_; intro _) | (refine mv_alloc rfl hT rfl rfl ?_; intro _) | refine mv_store hT rfl rfl rfl rfl rfl rfl sO rfl ?_ | (refine mv_buildSlice rfl hT rfl rfl rfl rfl rfl rfl rfl rfl ?_; intro _)) | refine g_yd rfl rfl (Ys.yd (ys_str_eql hT rfl rfl rfl rfl)) ?_ | refine g_yd rfl rfl (Ys.yd (ys_str_neq hT rfl rfl rfl rfl)) ?_))
  refine g_mv rfl ?_; refine mv_call_w (fun w hk => u8_p L r4.M gr 6 r4.q r4.bad w h99 h4.pos (in_of hk h4.nx.ok mE mE)) rfl rfl rfl rfl rfl (by kernel_rfl) (by intro _; repeat (first | exact Upd.here _ | apply Upd.there)) (fun ψ hψ => by obtain rfl := List.mem_singleton.1 hψ; exact mE) (fun _ => rfl) (fun _ => rfl) (fun r5 h5 => ?_)
  (repeat (first | refine g_nil ?_ | refine g_pure true hT rfl rfl rfl sI ?_ | refine g_skip rfl rfl ?_ | refine g_skip0 rfl rfl ?_ | refine gk_region rfl ?_ | refine gk_cond_t rfl rfl ?_ | refine gk_cond_f rfl rfl ?_ | refine g_yd rfl rfl (yd_load_blk hT rfl rfl mE rfl rfl) ?_ | refine g_yd rfl rfl (yd_load_row hT rfl rfl mE rfl rfl) ?_ | refine g_yd rfl rfl (yd_load_row0 hT rfl rfl mE rfl rfl) ?_ | refine g_yd rfl rfl (yd_eql rfl rfl rfl rfl rfl (by kernel_rfl)) ?_ | refine g_yd rfl rfl (yd_neq rfl rfl rfl rfl rfl (by kernel_rfl)) ?_ | refine g_yd rfl rfl (yd_index hT rfl rfl rfl sI rfl) ?_ | refine g_yd rfl rfl (yd_slice_nil hT rfl rfl rfl rfl) ?_ | refine g_yd rfl rfl (yd_build_arr hT rfl rfl rfl rfl rfl rfl) ?_ | (refine g_mv rfl ?_; first | (refine mv_box rfl rfl rfl rfl ?_; intro _) | (refine mv_alloc rfl hT rfl rfl ?_; intro _) | refine mv_store hT rfl rfl rfl rfl rfl rfl sO rfl ?_ | (refine mv_buildSlice rfl hT rfl rfl rfl rfl rfl rfl rfl rfl ?_; intro _)) | refine g_yd rfl rfl (Ys.yd (ys_str_eql hT rfl rfl rfl rfl)) ?_ | refine g_yd rfl rfl (Ys.yd (ys_str_neq hT rfl rfl rfl rfl)) ?_))
  refine g_mv rfl ?_; refine mv_call_w (fun w hk => u64_p L r5.M gr 7 r5.q r5.bad w h99 h5.pos (in_of hk h5.nx.ok mE mE)) rfl rfl rfl rfl rfl (by kernel_rfl) (by intro _; repeat (first | exact Upd.here _ | apply Upd.there)) (fun ψ hψ => by obtain rfl := List.mem_singleton.1 hψ; exact mE) (fun _ => rfl) (fun _ => rfl) (fun r6 h6 => ?_)
  (repeat (first | refine g_nil ?_ | refine g_pure true hT rfl rfl rfl sI ?_ | refine g_skip rfl rfl ?_ | refine g_skip0 rfl rfl ?_ | refine gk_region rfl ?_ | refine gk_cond_t rfl rfl ?_ | refine gk_cond_f rfl rfl ?_ | refine g_yd rfl rfl (yd_load_blk hT rfl rfl mE rfl rfl) ?_ | refine g_yd rfl rfl (yd_load_row hT rfl rfl mE rfl rfl) ?_ | refine g_yd rfl rfl (yd_load_row0 hT rfl rfl mE rfl rfl) ?_ | refine g_yd rfl rfl (yd_eql rfl rfl rfl rfl rfl (by kernel_rfl)) ?_ | refine g_yd rfl rfl (yd_neq rfl rfl rfl rfl rfl (by kernel_rfl)) ?_ | refine g_yd rfl rfl (yd_index hT rfl rfl rfl sI rfl) ?_ | refine g_yd rfl rfl (yd_slice_nil hT rfl rfl rfl rfl) ?_ | refine g_yd rfl rfl (yd_build_arr hT rfl rfl rfl rfl rfl rfl) ?_ | (refine g_mv rfl ?_; first | (refine mv_box rfl rfl rfl rfl ?_; intro _) | (refine mv_alloc rfl hT rfl rfl ?_; intro _) | refine mv_store hT rfl rfl rfl rfl rfl rfl sO rfl ?_ | (refine mv_buildSlice rfl hT rfl rfl rfl rfl rfl rfl rfl rfl ?_; intro _)) | refine g_yd rfl rfl (Ys.yd (ys_str_eql hT rfl rfl rfl rfl)) ?_ | refine g_yd rfl rfl (Ys.yd (ys_str_neq hT rfl rfl rfl rfl)) ?_))
  rename_i g5
  refine g_mv rfl ?_; refine mv_call_w (fun w hk => u8_p L r6.M gr 15 r6.q r6.bad w h99 h6.pos (in_of hk h6.nx.ok mE mE)) rfl rfl rfl rfl rfl (by kernel_rfl) (by intro _; repeat (first | exact Upd.here _ | apply Upd.there)) (fun ψ hψ => by obtain rfl := List.mem_singleton.1 hψ; exact mE) (fun _ => rfl) (fun _ => rfl) (fun r7 h7 => ?_)
  (repeat (first | refine g_nil ?_ | refine g_pure true hT rfl rfl rfl sI ?_ | refine g_skip rfl rfl ?_ | refine g_skip0 rfl rfl ?_ | refine gk_region rfl ?_ | refine gk_cond_t rfl rfl ?_ | refine gk_cond_f rfl rfl ?_ | refine g_yd rfl rfl (yd_load_blk hT rfl rfl mE rfl rfl) ?_ | refine g_yd rfl rfl (yd_load_row hT rfl rfl mE rfl rfl) ?_ | refine g_yd rfl rfl (yd_load_row0 hT rfl rfl mE rfl rfl) ?_ | refine g_yd rfl rfl (yd_eql rfl rfl rfl rfl rfl (by kernel_rfl)) ?_ | refine g_yd rfl rfl (yd_neq rfl rfl rfl rfl rfl (by kernel_rfl)) ?_ | refine g_yd rfl rfl (yd_index hT rfl rfl rfl sI rfl) ?_ | refine g_yd rfl rfl (yd_slice_nil hT rfl rfl rfl rfl) ?_ | refine g_yd rfl rfl (yd_build_arr hT rfl rfl rfl rfl rfl rfl) ?_ | (refine g_mv rfl ?_; first | (refine mv_box rfl rfl rfl rfl ?_; intro _) | (refine mv_alloc rfl hT rfl rfl ?_; intro _) | refine mv_store hT rfl rfl rfl rfl rfl rfl sO rfl ?_ | (refine mv_buildSlice rfl hT rfl rfl rfl rfl rfl rfl rfl rfl ?_; intro _)) | refine g_yd rfl rfl (Ys.yd (ys_str_eql hT rfl rfl rfl rfl)) ?_ | refine g_yd rfl rfl (Ys.yd (ys_str_neq hT rfl rfl rfl rfl)) ?_))
  refine g_mv rfl ?_; refine mv_call_w (fun w hk => u8_p L r7.M gr 16 r7.q r7.bad w h99 h7.pos (in_of hk h7.nx.ok mE mE)) rfl rfl rfl rfl rfl (by kernel_rfl) (by intro _; repeat (first | exact Upd.here _ | apply Upd.there)) (fun ψ hψ => by obtain rfl := List.mem_singleton.1 hψ; exact mE) (fun _ => rfl) (fun _ => rfl) (fun r8 h8 => ?_)
  (repeat (first | refine g_nil ?_ | refine g_pure true hT rfl rfl rfl sI ?_ | refine g_skip rfl rfl ?_ | refine g_skip0 rfl rfl ?_ | refine gk_region rfl ?_ | refine gk_cond_t rfl rfl ?_ | refine gk_cond_f rfl rfl ?_ | refine g_yd rfl rfl (yd_load_blk hT rfl rfl mE rfl rfl) ?_ | refine g_yd rfl rfl (yd_load_row hT rfl rfl mE rfl rfl) ?_ | refine g_yd rfl rfl (yd_load_row0 hT rfl rfl mE rfl rfl) ?_ | refine g_yd rfl rfl (yd_eql rfl rfl rfl rfl rfl (by kernel_rfl)) ?_ | refine g_yd rfl rfl (yd_neq rfl rfl rfl rfl rfl (by kernel_rfl)) ?_ | refine g_yd rfl rfl (yd_index hT rfl rfl rfl sI rfl) ?_ | refine g_yd rfl rfl (yd_slice_nil hT rfl rfl rfl rfl) ?_ | refine g_yd rfl rfl (yd_build_arr hT rfl rfl rfl rfl rfl rfl) ?_ | (refine g_mv rfl ?_; first | (refine mv_box rfl rfl rfl rfl ?_; intro _) | (refine mv_alloc rfl hT rfl rfl ?_; intro _) | refine mv_store hT rfl rfl rfl rfl rfl rfl sO rfl ?_ | (refine mv_buildSlice rfl hT rfl rfl rfl rfl rfl rfl rfl rfl ?_; intro _)) | refine g_yd rfl rfl (Ys.yd (ys_str_eql hT rfl rfl rfl rfl)) ?_ | refine g_yd rfl rfl (Ys.yd (ys_str_neq hT rfl rfl rfl rfl)) ?_))
  obtain ⟨n, hn⟩ := Int.eq_ofNat_of_zero_le h7.x.1
  obtain ⟨m, hm⟩ := Int.eq_ofNat_of_zero_le h8.x.1
  have hn9 := h7.x.2
  have hm9 := h8.x.2
  refine g_mv rfl ?_; refine mv_call_w (fun w hk => bytes_p L r8.M gr 17 n r8.q r8.bad w r7.x hn h99 (by omega) h8.pos (in_of hk h8.nx.ok mE mE)) rfl rfl rfl rfl rfl (by kernel_rfl) (by intro _; repeat (first | exact Upd.here _ | apply Upd.there)) (fun ψ hψ => by obtain rfl := List.mem_singleton.1 hψ; exact mE) (fun _ => rfl) (fun _ => rfl) (fun r9 k9 => ?_)
  (repeat (first | refine g_nil ?_ | refine g_pure true hT rfl rfl rfl sI ?_ | refine g_skip rfl rfl ?_ | refine g_skip0 rfl rfl ?_ | refine gk_region rfl ?_ | refine gk_cond_t rfl rfl ?_ | refine gk_cond_f rfl rfl ?_ | refine g_yd rfl rfl (yd_load_blk hT rfl rfl mE rfl rfl) ?_ | refine g_yd rfl rfl (yd_load_row hT rfl rfl mE rfl rfl) ?_ | refine g_yd rfl rfl (yd_load_row0 hT rfl rfl mE rfl rfl) ?_ | refine g_yd rfl rfl (yd_eql rfl rfl rfl rfl rfl (by kernel_rfl)) ?_ | refine g_yd rfl rfl (yd_neq rfl rfl rfl rfl rfl (by kernel_rfl)) ?_ | refine g_yd rfl rfl (yd_index hT rfl rfl rfl sI rfl) ?_ | refine g_yd rfl rfl (yd_slice_nil hT rfl rfl rfl rfl) ?_ | refine g_yd rfl rfl (yd_build_arr hT rfl rfl rfl rfl rfl rfl) ?_ | (refine g_mv rfl ?_; first | (refine mv_box rfl rfl rfl rfl ?_; intro _) | (refine mv_alloc rfl hT rfl rfl ?_; intro _) | refine mv_store hT rfl rfl rfl rfl rfl rfl sO rfl ?_ | (refine mv_buildSlice rfl hT rfl rfl rfl rfl rfl rfl rfl rfl ?_; intro _)) | refine g_yd rfl rfl (Ys.yd (ys_str_eql hT rfl rfl rfl rfl)) ?_ | refine g_yd rfl rfl (Ys.yd (ys_str_neq hT rfl rfl rfl rfl)) ?_))
  refine gk_own 0 3 1 (IE .i64) ?_
  refine gk_loop_sel (fun (q : Nat × SlV × (List Int) × Bool × Value × (List Int)) => match q with | (j, q, Mr, bd, V, Ml) => j ≤ m ∧ q.Ok Mr.length ∧ Pos L (17 + n + 2 * j) Mr bd ∧ Ml.length = j ∧ (∀ x ∈ Ml, 0 ≤ x ∧ x ≤ 65535) ∧ (17 + n + 2 * j ≤ L.length → Ml = decM (L.drop (17 + n)) j)) (fun (q : Nat × SlV × (List Int) × Bool × Value × (List Int)) => match q with | (j, q, Mr, bd, V, Ml) => [(0, s0.v), (2, .pointer (some ⟨g2, 0, none⟩)), (4, .pointer (some ⟨gr, 0, none⟩)), (5, .pointer (some ⟨g5, 0, none⟩)), (34, .int .i64 r8.x), (35, .int .i64 j)]) (fun (q : Nat × SlV × (List Int) × Bool × Value × (List Int)) => match q with | (j, q, Mr, bd, V, Ml) => [own 0 3 1 V (IE .i64) Ml, blk gr [q.v, .bool bd] 157, blk g5 [.int .i64 r1.x, .int .i64 r2.x, .int .i64 r3.x, .int .i64 r4.x, .int .i64 r5.x, .int .u64 r6.x, r9.d.v, V] 39, sl r9.d.A 1 (IE .u8) r9.D, blk g2 [.int .i64 0, .int .i64 0, .int .i64 0, .int .i64 0, .int .i64 0, .int .u64 0, .slice none 0 0, .slice none 0 0] 39]) (fun (q : Nat × SlV × (List Int) × Bool × Value × (List Int)) => match q with | (j, q, Mr, bd, V, Ml) => [sl q.A 1 (IE .u8) Mr, sl s0.A 1 (IE .u8) L]) (fun (q : Nat × SlV × (List Int) × Bool × Value × (List Int)) => match q with | (j, q, Mr, bd, V, Ml) => m - j) (0, r9.q, r9.M, r9.bad, .slice none 0 0, []) rfl ⟨Nat.zero_le _, k9.nx.ok, k9.pos, rfl, (fun x hx => by cases hx), fun _ => rfl⟩ (by repeat (first | exact trivial | refine ⟨rfl, ?_⟩)) sA sS ?_
  rintro ⟨j, q, Mr, bd, V, Ml⟩ hI
  replace hI : j ≤ m ∧ q.Ok Mr.length ∧ Pos L (17 + n + 2 * j) Mr bd ∧ Ml.length = j ∧ (∀ x ∈ Ml, 0 ≤ x ∧ x ≤ 65535) ∧ (17 + n + 2 * j ≤ L.length → Ml = decM (L.drop (17 + n)) j) := hI
  change GK _ _ [(0, s0.v), (2, .pointer (some ⟨g2, 0, none⟩)), (4, .pointer (some ⟨gr, 0, none⟩)), (5, .pointer (some ⟨g5, 0, none⟩)), (34, .int .i64 r8.x), (35, .int .i64 j)] [own 0 3 1 V (IE .i64) Ml, blk gr [q.v, .bool bd] 157, blk g5 [.int .i64 r1.x, .int .i64 r2.x, .int .i64 r3.x, .int .i64 r4.x, .int .i64 r5.x, .int .u64 r6.x, r9.d.v, V] 39, sl r9.d.A 1 (IE .u8) r9.D, blk g2 [.int .i64 0, .int .i64 0, .int .i64 0, .int .i64 0, .int .i64 0, .int .u64 0, .slice none 0 0, .slice none 0 0] 39] [sl q.A 1 (IE .u8) Mr, sl s0.A 1 (IE .u8) L]
  obtain ⟨hj, hq, hpos, hMl, hM2, hMv⟩ := hI
  (repeat (first | refine g_nil ?_ | refine g_pure true hT rfl rfl rfl sI ?_ | refine g_skip rfl rfl ?_ | refine g_skip0 rfl rfl ?_ | refine gk_region rfl ?_ | refine gk_cond_t rfl rfl ?_ | refine gk_cond_f rfl rfl ?_ | refine g_yd rfl rfl (yd_load_blk hT rfl rfl mE rfl rfl) ?_ | refine g_yd rfl rfl (yd_load_row hT rfl rfl mE rfl rfl) ?_ | refine g_yd rfl rfl (yd_load_row0 hT rfl rfl mE rfl rfl) ?_ | refine g_yd rfl rfl (yd_eql rfl rfl rfl rfl rfl (by kernel_rfl)) ?_ | refine g_yd rfl rfl (yd_neq rfl rfl rfl rfl rfl (by kernel_rfl)) ?_ | refine g_yd rfl rfl (yd_index hT rfl rfl rfl sI rfl) ?_ | refine g_yd rfl rfl (yd_slice_nil hT rfl rfl rfl rfl) ?_ | refine g_yd rfl rfl (yd_build_arr hT rfl rfl rfl rfl rfl rfl) ?_ | (refine g_mv rfl ?_; first | (refine mv_box rfl rfl rfl rfl ?_; intro _) | (refine mv_alloc rfl hT rfl rfl ?_; intro _) | refine mv_store hT rfl rfl rfl rfl rfl rfl sO rfl ?_ | (refine mv_buildSlice rfl hT rfl rfl rfl rfl rfl rfl rfl rfl ?_; intro _)) | refine g_yd rfl rfl (Ys.yd (ys_str_eql hT rfl rfl rfl rfl)) ?_ | refine g_yd rfl rfl (Ys.yd (ys_str_neq hT rfl rfl rfl rfl)) ?_))
  refine gk_cond rfl rfl (tells_tB _) (fun hlt => ?_) (fun hlt => ?_)
  · refine gk_any [] (Cut _ (fun p : { p : RS × Value // PS L q Mr (17 + n + 2 * j) 2 65536 p.1 } => [(0, s0.v), (2, .pointer (some ⟨g2, 0, none⟩)), (4, .pointer (some ⟨gr, 0, none⟩)), (5, .pointer (some ⟨g5, 0, none⟩)), (34, .int .i64 r8.x), (35, .int .i64 j)]) (fun p => [own 0 3 1 p.1.2 (IE .i64) (Ml ++ [p.1.1.x]), blk gr [p.1.1.q.v, .bool p.1.1.bad] 157, blk g5 [.int .i64 r1.x, .int .i64 r2.x, .int .i64 r3.x, .int .i64 r4.x, .int .i64 r5.x, .int .u64 r6.x, r9.d.v, p.1.2] 39, sl r9.d.A 1 (IE .u8) r9.D, blk g2 [.int .i64 0, .int .i64 0, .int .i64 0, .int .i64 0, .int .i64 0, .int .u64 0, .slice none 0 0, .slice none 0 0] 39]) (fun p => [sl p.1.1.q.A 1 (IE .u8) p.1.1.M, sl s0.A 1 (IE .u8) L])) rfl rfl (by kernel_rfl) ?_ (cut_k fun p => ?_)
    · skip
      refine gb_take 0 rfl (by decide +kernel) rfl rfl (ys_ev (nw := true) hT rfl sI) sF ?_
      refine gb_take 2 rfl (by decide +kernel) rfl rfl (ys_ev (nw := true) hT rfl sI) sF ?_
      refine gb_all (by decide +kernel) ?_
      refine gball_not (by decide +kernel) ?_
      refine gball_yes rfl rfl ?_ ?_
      · refine mv_yd rfl (yd_load_blk hT rfl rfl mE rfl rfl) ?_
        refine ⟨sF, ?_⟩
        refine gb_only 3 (by decide +kernel) rfl rfl ?_
        refine mv_call_w (fun w hk => u16_p L Mr gr (17 + n + 2 * j) q bd w h99 hpos (in_of hk hq mE mE)) rfl rfl rfl rfl rfl (by kernel_rfl) (by intro _; repeat (first | exact Upd.here _ | apply Upd.there)) (fun ψ hψ => by obtain rfl := List.mem_singleton.1 hψ; exact mE) (fun _ => rfl) (fun _ => rfl) (fun r hr => ?_)
        refine ⟨sF, ?_⟩
        refine gb_only 4 (by decide +kernel) rfl rfl ?_
        (refine mv_buildSlice (len := 1) rfl hT rfl rfl rfl rfl rfl rfl rfl rfl ?_; intro gs)
        refine ⟨sF, ?_⟩
        refine gb_only 5 (by decide +kernel) rfl rfl ?_
        refine mv_append rfl [r.x] rfl rfl rfl rfl elt_I (by intro _; repeat (first | exact Upd.here _ | apply Upd.there)) (src_blk mE rfl) rfl (by intro x j; rfl) (by simp only [maxLen, List.length_cons, List.length_nil]; omega) (by simp only [List.length_cons, List.length_nil]; omega) (Nat.zero_le _) (fun v' => ?_)
        refine ⟨sF, ?_⟩
        refine gb_ownv v' mE (fun A' c' hv _ _ _ => ?_); subst hv
        refine gb_take 6 rfl (by decide +kernel) rfl rfl (ys_ev (nw := true) hT rfl sI) sF ?_
        refine gb_only 7 (by decide +kernel) rfl rfl ?_
        first | (refine mv_box rfl rfl rfl rfl ?_; intro _) | (refine mv_alloc rfl hT rfl rfl ?_; intro _) | refine mv_store hT rfl rfl rfl rfl rfl rfl sO rfl ?_ | (refine mv_buildSlice rfl hT rfl rfl rfl rfl rfl rfl rfl rfl ?_; intro _)
        refine ⟨sF, ?_⟩
        refine gb_nil (by decide +kernel) ?_
        exact ⟨⟨(r, .slice A' (Ml ++ [r.x]).length c'), hr⟩, (by repeat (first | exact trivial | refine ⟨rfl, ?_⟩)), sA, sS⟩
      refine gball_not (by decide +kernel) ?_
      refine gball_yes rfl rfl ?_ ?_
      · refine mv_call_w (fun w hk => u16_p L Mr gr (17 + n + 2 * j) q bd w h99 hpos (in_of hk hq mE mE)) rfl rfl rfl rfl rfl (by kernel_rfl) (by intro _; repeat (first | exact Upd.here _ | apply Upd.there)) (fun ψ hψ => by obtain rfl := List.mem_singleton.1 hψ; exact mE) (fun _ => rfl) (fun _ => rfl) (fun r hr => ?_)
        refine ⟨sF, ?_⟩
        refine gb_all (by decide +kernel) ?_
        refine gball_not (by decide +kernel) ?_
        refine gball_yes rfl rfl ?_ ?_
        · refine mv_yd rfl (yd_load_blk hT rfl rfl mE rfl rfl) ?_
          refine ⟨sF, ?_⟩
          refine gb_only 4 (by decide +kernel) rfl rfl ?_
          (refine mv_buildSlice (len := 1) rfl hT rfl rfl rfl rfl rfl rfl rfl rfl ?_; intro gs)
          refine ⟨sF, ?_⟩
          refine gb_only 5 (by decide +kernel) rfl rfl ?_
          refine mv_append rfl [r.x] rfl rfl rfl rfl elt_I (by intro _; repeat (first | exact Upd.here _ | apply Upd.there)) (src_blk mE rfl) rfl (by intro x j; rfl) (by simp only [maxLen, List.length_cons, List.length_nil]; omega) (by simp only [List.length_cons, List.length_nil]; omega) (Nat.zero_le _) (fun v' => ?_)
          refine ⟨sF, ?_⟩
          refine gb_ownv v' mE (fun A' c' hv _ _ _ => ?_); subst hv
          refine gb_take 6 rfl (by decide +kernel) rfl rfl (ys_ev (nw := true) hT rfl sI) sF ?_
          refine gb_only 7 (by decide +kernel) rfl rfl ?_
          first | (refine mv_box rfl rfl rfl rfl ?_; intro _) | (refine mv_alloc rfl hT rfl rfl ?_; intro _) | refine mv_store hT rfl rfl rfl rfl rfl rfl sO rfl ?_ | (refine mv_buildSlice rfl hT rfl rfl rfl rfl rfl rfl rfl rfl ?_; intro _)
          refine ⟨sF, ?_⟩
          refine gb_nil (by decide +kernel) ?_
          exact ⟨⟨(r, .slice A' (Ml ++ [r.x]).length c'), hr⟩, (by repeat (first | exact trivial | refine ⟨rfl, ?_⟩)), sA, sS⟩
        refine gball_not (by decide +kernel) ?_
        refine gball_not (by decide +kernel) ?_
        refine gball_yes rfl rfl ?_ ?_
        · (refine mv_buildSlice (len := 1) rfl hT rfl rfl rfl rfl rfl rfl rfl rfl ?_; intro gs)
          refine ⟨sF, ?_⟩
          refine gb_only 1 (by decide +kernel) rfl rfl ?_
          refine mv_yd rfl (yd_load_blk hT rfl rfl mE rfl rfl) ?_
          refine ⟨sF, ?_⟩
          refine gb_only 5 (by decide +kernel) rfl rfl ?_
          refine mv_append rfl [r.x] rfl rfl rfl rfl elt_I (by intro _; repeat (first | exact Upd.here _ | apply Upd.there)) (src_blk mE rfl) rfl (by intro x j; rfl) (by simp only [maxLen, List.length_cons, List.length_nil]; omega) (by simp only [List.length_cons, List.length_nil]; omega) (Nat.zero_le _) (fun v' => ?_)
          refine ⟨sF, ?_⟩
          refine gb_ownv v' mE (fun A' c' hv _ _ _ => ?_); subst hv
          refine gb_take 6 rfl (by decide +kernel) rfl rfl (ys_ev (nw := true) hT rfl sI) sF ?_
          refine gb_only 7 (by decide +kernel) rfl rfl ?_
          first | (refine mv_box rfl rfl rfl rfl ?_; intro _) | (refine mv_alloc rfl hT rfl rfl ?_; intro _) | refine mv_store hT rfl rfl rfl rfl rfl rfl sO rfl ?_ | (refine mv_buildSlice rfl hT rfl rfl rfl rfl rfl rfl rfl rfl ?_; intro _)
          refine ⟨sF, ?_⟩
          refine gb_nil (by decide +kernel) ?_
          exact ⟨⟨(r, .slice A' (Ml ++ [r.x]).length c'), hr⟩, (by repeat (first | exact trivial | refine ⟨rfl, ?_⟩)), sA, sS⟩
        refine gball_not (by decide +kernel) ?_
        refine gball_not (by decide +kernel) ?_
        refine gball_not (by decide +kernel) ?_
        exact gball_end (by decide +kernel)
      refine gball_not (by decide +kernel) ?_
      refine gball_not (by decide +kernel) ?_
      refine gball_not (by decide +kernel) ?_
      refine gball_not (by decide +kernel) ?_
      exact gball_end (by decide +kernel)
    · obtain ⟨⟨r, v'⟩, hr⟩ := p
      change GK _ _ [(0, s0.v), (2, .pointer (some ⟨g2, 0, none⟩)), (4, .pointer (some ⟨gr, 0, none⟩)), (5, .pointer (some ⟨g5, 0, none⟩)), (34, .int .i64 r8.x), (35, .int .i64 j)] [own 0 3 1 v' (IE .i64) (Ml ++ [r.x]), blk gr [r.q.v, .bool r.bad] 157, blk g5 [.int .i64 r1.x, .int .i64 r2.x, .int .i64 r3.x, .int .i64 r4.x, .int .i64 r5.x, .int .u64 r6.x, r9.d.v, v'] 39, sl r9.d.A 1 (IE .u8) r9.D, blk g2 [.int .i64 0, .int .i64 0, .int .i64 0, .int .i64 0, .int .i64 0, .int .u64 0, .slice none 0 0, .slice none 0 0] 39] [sl r.q.A 1 (IE .u8) r.M, sl s0.A 1 (IE .u8) L]
      dsimp only at hr
      (repeat (first | refine g_nil ?_ | refine g_pure true hT rfl rfl rfl sI ?_ | refine g_skip rfl rfl ?_ | refine g_skip0 rfl rfl ?_ | refine gk_region rfl ?_ | refine gk_cond_t rfl rfl ?_ | refine gk_cond_f rfl rfl ?_ | refine g_yd rfl rfl (yd_load_blk hT rfl rfl mE rfl rfl) ?_ | refine g_yd rfl rfl (yd_load_row hT rfl rfl mE rfl rfl) ?_ | refine g_yd rfl rfl (yd_load_row0 hT rfl rfl mE rfl rfl) ?_ | refine g_yd rfl rfl (yd_eql rfl rfl rfl rfl rfl (by kernel_rfl)) ?_ | refine g_yd rfl rfl (yd_neq rfl rfl rfl rfl rfl (by kernel_rfl)) ?_ | refine g_yd rfl rfl (yd_index hT rfl rfl rfl sI rfl) ?_ | refine g_yd rfl rfl (yd_slice_nil hT rfl rfl rfl rfl) ?_ | refine g_yd rfl rfl (yd_build_arr hT rfl rfl rfl rfl rfl rfl) ?_ | (refine g_mv rfl ?_; first | (refine mv_box rfl rfl rfl rfl ?_; intro _) | (refine mv_alloc rfl hT rfl rfl ?_; intro _) | refine mv_store hT rfl rfl rfl rfl rfl rfl sO rfl ?_ | (refine mv_buildSlice rfl hT rfl rfl rfl rfl rfl rfl rfl rfl ?_; intro _)) | refine g_yd rfl rfl (Ys.yd (ys_str_eql hT rfl rfl rfl rfl)) ?_ | refine g_yd rfl rfl (Ys.yd (ys_str_neq hT rfl rfl rfl rfl)) ?_))
      have hsum : 17 + n + 2 * (j + 1) = 17 + n + 2 * j + 2 := by omega
      have hx9 := hr.x
      refine gk_again_sel rfl (j + 1, r.q, r.M, r.bad, v', Ml ++ [r.x]) ⟨by omega, hr.nx.ok, by rw [hsum]; exact hr.pos, by rw [List.length_append, hMl]; rfl, (fun x hx => by
        rcases List.mem_append.1 hx with h | h
        · exact hM2 x h
        · obtain rfl := List.mem_singleton.1 h
          omega), fun hl => by rw [decM_snoc, hMv (by omega), hr.val (by omega), List.drop_drop]⟩ (by dsimp only; omega) (by repeat (first | exact trivial | refine ⟨rfl, ?_⟩)) sA sS
  · have hjm : j = m := by omega
    subst hjm
    have hd : 17 ≤ L.length → n = dn L ∧ j = dm L := fun hl => by
      have e1 := h7.val (by omega)
      have e2 := h8.val (by omega)
      refine ⟨?_, ?_⟩
      · unfold dn at_; rw [← e1, hn]; rfl
      · unfold dm at_; rw [← e2, hm]; rfl
    by_cases hA : L.length < 17 + n + 2 * j
    · have hcode : codeL L = 20 := code_short (fun _ h => hd h) hA
      (repeat' (first | (first | refine g_nil ?_ | refine g_pure true hT rfl rfl rfl sI ?_ | refine g_skip rfl rfl ?_ | refine g_skip0 rfl rfl ?_ | refine gk_region rfl ?_ | refine gk_cond_t rfl rfl ?_ | refine gk_cond_f rfl rfl ?_ | refine g_yd rfl rfl (yd_load_blk hT rfl rfl mE rfl rfl) ?_ | refine g_yd rfl rfl (yd_load_row hT rfl rfl mE rfl rfl) ?_ | refine g_yd rfl rfl (yd_load_row0 hT rfl rfl mE rfl rfl) ?_ | refine g_yd rfl rfl (yd_eql rfl rfl rfl rfl rfl (by kernel_rfl)) ?_ | refine g_yd rfl rfl (yd_neq rfl rfl rfl rfl rfl (by kernel_rfl)) ?_ | refine g_yd rfl rfl (yd_index hT rfl rfl rfl sI rfl) ?_ | refine g_yd rfl rfl (yd_slice_nil hT rfl rfl rfl rfl) ?_ | refine g_yd rfl rfl (yd_build_arr hT rfl rfl rfl rfl rfl rfl) ?_ | (refine g_mv rfl ?_; first | (refine mv_box rfl rfl rfl rfl ?_; intro _) | (refine mv_alloc rfl hT rfl rfl ?_; intro _) | refine mv_store hT rfl rfl rfl rfl rfl rfl sO rfl ?_ | (refine mv_buildSlice rfl hT rfl rfl rfl rfl rfl rfl rfl rfl ?_; intro _)) | refine g_yd rfl rfl (Ys.yd (ys_str_eql hT rfl rfl rfl rfl)) ?_ | refine g_yd rfl rfl (Ys.yd (ys_str_neq hT rfl rfl rfl rfl)) ?_) | (refine g_mv rfl ?_; first | refine mv_call_bel (fun w hk => calls_i (if_pos hA) (end_p L Mr gr (17 + n + 2 * j) q bd w h99 hpos (in_of hk hq mE mE))) rfl rfl rfl rfl rfl (by kernel_rfl) ?_) | ((first | refine g_split rfl rfl tE (fun _ => ?_) (fun _ => ?_) | refine gk_cond rfl rfl tE (fun _ => ?_) (fun _ => ?_)) <;> (try first | (exfalso; omega; done) | (rename_i hx; exact absurd rfl hx) | (rename_i hx; cases hx; done)))))
      refine gk_nilsl none 1 (IE .u8) ?_
      refine gk_nilsl none 1 (IE .i64) ?_
      refine gk_ret hT rfl rfl (.cell rfl mE rfl rfl (.tmp rfl .nil)) (fun w' hk => ?_)
      exact Ret.mk (kindO 0, 20) ⟨kind_ok 0, (hcode).symm, (fun h => by rw [hcode] at h; omega), fun _ => ⟨rfl, rfl, rfl, rfl, rfl, rfl, rfl, rfl⟩⟩ rfl hk sA
    · obtain ⟨en, em⟩ := hd (by omega)
      by_cases hBig : 17 + n + 2 * j < L.length
      · have hcode : codeL L = 21 := code_long (by omega) (by rw [← en, ← em]; exact hBig)
        (repeat' (first | (first | refine g_nil ?_ | refine g_pure true hT rfl rfl rfl sI ?_ | refine g_skip rfl rfl ?_ | refine g_skip0 rfl rfl ?_ | refine gk_region rfl ?_ | refine gk_cond_t rfl rfl ?_ | refine gk_cond_f rfl rfl ?_ | refine g_yd rfl rfl (yd_load_blk hT rfl rfl mE rfl rfl) ?_ | refine g_yd rfl rfl (yd_load_row hT rfl rfl mE rfl rfl) ?_ | refine g_yd rfl rfl (yd_load_row0 hT rfl rfl mE rfl rfl) ?_ | refine g_yd rfl rfl (yd_eql rfl rfl rfl rfl rfl (by kernel_rfl)) ?_ | refine g_yd rfl rfl (yd_neq rfl rfl rfl rfl rfl (by kernel_rfl)) ?_ | refine g_yd rfl rfl (yd_index hT rfl rfl rfl sI rfl) ?_ | refine g_yd rfl rfl (yd_slice_nil hT rfl rfl rfl rfl) ?_ | refine g_yd rfl rfl (yd_build_arr hT rfl rfl rfl rfl rfl rfl) ?_ | (refine g_mv rfl ?_; first | (refine mv_box rfl rfl rfl rfl ?_; intro _) | (refine mv_alloc rfl hT rfl rfl ?_; intro _) | refine mv_store hT rfl rfl rfl rfl rfl rfl sO rfl ?_ | (refine mv_buildSlice rfl hT rfl rfl rfl rfl rfl rfl rfl rfl ?_; intro _)) | refine g_yd rfl rfl (Ys.yd (ys_str_eql hT rfl rfl rfl rfl)) ?_ | refine g_yd rfl rfl (Ys.yd (ys_str_neq hT rfl rfl rfl rfl)) ?_) | (refine g_mv rfl ?_; first | refine mv_call_bel (fun w hk => calls_i (by rw [if_neg hA, if_pos hBig]) (end_p L Mr gr (17 + n + 2 * j) q bd w h99 hpos (in_of hk hq mE mE))) rfl rfl rfl rfl rfl (by kernel_rfl) ?_) | ((first | refine g_split rfl rfl tE (fun _ => ?_) (fun _ => ?_) | refine gk_cond rfl rfl tE (fun _ => ?_) (fun _ => ?_)) <;> (try first | (exfalso; omega; done) | (rename_i hx; exact absurd rfl hx) | (rename_i hx; cases hx; done)))))
        refine gk_nilsl none 1 (IE .u8) ?_
        refine gk_nilsl none 1 (IE .i64) ?_
        refine gk_ret hT rfl rfl (.cell rfl mE rfl rfl (.tmp rfl .nil)) (fun w' hk => ?_)
        exact Ret.mk (kindO 0, 21) ⟨kind_ok 0, (hcode).symm, (fun h => by rw [hcode] at h; omega), fun _ => ⟨rfl, rfl, rfl, rfl, rfl, rfl, rfl, rfl⟩⟩ rfl hk sA
      · have hlen : L.length = 17 + dn L + 2 * dm L := by omega
        refine gk_freeze _ (by intro _; repeat (first | exact Upd.here _ | apply Upd.there)) (fun A2 c2 hA2 hA21 hA22 hA23 => ?_); subst hA2
        let oD : OpD := ⟨r1.x, r2.x, r3.x, r4.x, r5.x, r6.x, r9.d, r9.D, ⟨A2, Ml.length, c2⟩, Ml⟩
        have hok : oD.Ok := ⟨k9.ok, ⟨rfl, hA21, hA22, hA23⟩⟩
        have hsame : sameP oD (dec L nS nS) := ⟨h1.val (by omega), h2.val (by omega), h3.val (by omega), h4.val (by omega), h5.val (by omega), h6.val (by omega), by show r9.D = (L.drop 17).take (dn L); rw [← en]; exact k9.val (by omega), by show Ml = decM (L.drop (17 + dn L)) (dm L); rw [← en, ← em]; exact hMv (by omega)⟩
        have hcode : codeL L = if ¬ tB (okP L) = true then 21 else 0 := code_full (by omega) hlen
        have hsk : oD.k = (dec L nS nS).k := hsame.1
        have hD9 : oD.D.length ≤ 100000 := by have := k9.len; show r9.D.length ≤ _; omega
        have hM9 : oD.M.length ≤ 100000 := by show Ml.length ≤ _; omega
        have hpp : 0 ≤ oD.p ∧ oD.p ≤ 18446744073709551615 := ⟨h6.x.1, by have := h6.x.2; show r6.x ≤ _; omega⟩
        (repeat' (first | (first | refine g_nil ?_ | refine g_pure true hT rfl rfl rfl sI ?_ | refine g_skip rfl rfl ?_ | refine g_skip0 rfl rfl ?_ | refine gk_region rfl ?_ | refine gk_cond_t rfl rfl ?_ | refine gk_cond_f rfl rfl ?_ | refine g_yd rfl rfl (yd_load_blk hT rfl rfl mE rfl rfl) ?_ | refine g_yd rfl rfl (yd_load_row hT rfl rfl mE rfl rfl) ?_ | refine g_yd rfl rfl (yd_load_row0 hT rfl rfl mE rfl rfl) ?_ | refine g_yd rfl rfl (yd_eql rfl rfl rfl rfl rfl (by kernel_rfl)) ?_ | refine g_yd rfl rfl (yd_neq rfl rfl rfl rfl rfl (by kernel_rfl)) ?_ | refine g_yd rfl rfl (yd_index hT rfl rfl rfl sI rfl) ?_ | refine g_yd rfl rfl (yd_slice_nil hT rfl rfl rfl rfl) ?_ | refine g_yd rfl rfl (yd_build_arr hT rfl rfl rfl rfl rfl rfl) ?_ | (refine g_mv rfl ?_; first | (refine mv_box rfl rfl rfl rfl ?_; intro _) | (refine mv_alloc rfl hT rfl rfl ?_; intro _) | refine mv_store hT rfl rfl rfl rfl rfl rfl sO rfl ?_ | (refine mv_buildSlice rfl hT rfl rfl rfl rfl rfl rfl rfl rfl ?_; intro _)) | refine g_yd rfl rfl (Ys.yd (ys_str_eql hT rfl rfl rfl rfl)) ?_ | refine g_yd rfl rfl (Ys.yd (ys_str_neq hT rfl rfl rfl rfl)) ?_) | (refine g_mv rfl ?_; first | refine mv_call_bel (fun w hk => calls_i (by rw [if_neg hA, if_neg hBig]) (end_p L Mr gr (17 + n + 2 * j) q bd w h99 hpos (in_of hk hq mE mE))) rfl rfl rfl rfl rfl (by kernel_rfl) ?_) | ((first | refine g_split rfl rfl tE (fun _ => ?_) (fun _ => ?_) | refine gk_cond rfl rfl tE (fun _ => ?_) (fun _ => ?_)) <;> (try first | (exfalso; omega; done) | (rename_i hx; exact absurd rfl hx) | (rename_i hx; cases hx; done)))))
        by_cases hg : 1 ≤ oD.k ∧ oD.k ≤ 14 ∧ rrightB oD = true
        · refine g_mv rfl ?_; refine mv_call_rt (fun w hk => put_yes oD w hok ⟨hk.pO (sl r9.d.A 1 (IE .u8) r9.D) mE, hk.pO (sl A2 1 (IE .i64) Ml) mE⟩ hD9 hM9 hpp hg (putPl oD (looks oD.k)) (fun p hp => putPl_of hp)) rfl rfl rfl rfl rfl (by kernel_rfl) (fun _ => rfl) (fun sb hsb => ?_)
          by_cases heq : putPl oD (looks oD.k) = L
          · have hS : strOfNums (putPl oD (looks oD.k)) = strOfNums L := by rw [heq]
            have hcode0 : codeL L = 0 := by
              rw [hcode, if_neg]
              intro h
              exact h (tB_iff.2 ⟨⟨by rw [← hsk]; exact hg.1, by rw [← hsk]; exact hg.2.1⟩, by rw [← rright_same hsame]; exact hg.2.2, by rw [← hsk, ← putPl_same hsame]; exact heq⟩)
            (repeat' (first | (first | refine g_nil ?_ | refine g_pure true hT rfl rfl rfl sI ?_ | refine g_skip rfl rfl ?_ | refine g_skip0 rfl rfl ?_ | refine gk_region rfl ?_ | refine gk_cond_t rfl rfl ?_ | refine gk_cond_f rfl rfl ?_ | refine g_yd rfl rfl (yd_load_blk hT rfl rfl mE rfl rfl) ?_ | refine g_yd rfl rfl (yd_load_row hT rfl rfl mE rfl rfl) ?_ | refine g_yd rfl rfl (yd_load_row0 hT rfl rfl mE rfl rfl) ?_ | refine g_yd rfl rfl (yd_eql rfl rfl rfl rfl rfl (by kernel_rfl)) ?_ | refine g_yd rfl rfl (yd_neq rfl rfl rfl rfl rfl (by kernel_rfl)) ?_ | refine g_yd rfl rfl (yd_index hT rfl rfl rfl sI rfl) ?_ | refine g_yd rfl rfl (yd_slice_nil hT rfl rfl rfl rfl) ?_ | refine g_yd rfl rfl (yd_build_arr hT rfl rfl rfl rfl rfl rfl) ?_ | (refine g_mv rfl ?_; first | (refine mv_box rfl rfl rfl rfl ?_; intro _) | (refine mv_alloc rfl hT rfl rfl ?_; intro _) | refine mv_store hT rfl rfl rfl rfl rfl rfl sO rfl ?_ | (refine mv_buildSlice rfl hT rfl rfl rfl rfl rfl rfl rfl rfl ?_; intro _)) | refine g_yd rfl rfl (Ys.yd (ys_str_eql hT rfl rfl rfl rfl)) ?_ | refine g_yd rfl rfl (Ys.yd (ys_str_neq hT rfl rfl rfl rfl)) ?_) | ((first | refine g_split rfl rfl tE (fun _ => ?_) (fun _ => ?_) | refine gk_cond rfl rfl tE (fun _ => ?_) (fun _ => ?_)) <;> (try first | (exfalso; omega; done) | (rename_i hx; exact absurd rfl hx) | (rename_i hx; cases hx; done)))))
            refine g_yd rfl rfl (yd_conv_bytes hT (.inl (show sl sb.A 1 (IE .u8) (putPl oD (looks oD.k)) ∈ _ from mE)) hsb.n rfl rfl rfl rfl rfl) ?_
            (repeat (first | refine g_nil ?_ | refine g_pure true hT rfl rfl rfl sI ?_ | refine g_skip rfl rfl ?_ | refine g_skip0 rfl rfl ?_ | refine gk_region rfl ?_ | refine gk_cond_t rfl rfl ?_ | refine gk_cond_f rfl rfl ?_ | refine g_yd rfl rfl (yd_load_blk hT rfl rfl mE rfl rfl) ?_ | refine g_yd rfl rfl (yd_load_row hT rfl rfl mE rfl rfl) ?_ | refine g_yd rfl rfl (yd_load_row0 hT rfl rfl mE rfl rfl) ?_ | refine g_yd rfl rfl (yd_eql rfl rfl rfl rfl rfl (by kernel_rfl)) ?_ | refine g_yd rfl rfl (yd_neq rfl rfl rfl rfl rfl (by kernel_rfl)) ?_ | refine g_yd rfl rfl (yd_index hT rfl rfl rfl sI rfl) ?_ | refine g_yd rfl rfl (yd_slice_nil hT rfl rfl rfl rfl) ?_ | refine g_yd rfl rfl (yd_build_arr hT rfl rfl rfl rfl rfl rfl) ?_ | (refine g_mv rfl ?_; first | (refine mv_box rfl rfl rfl rfl ?_; intro _) | (refine mv_alloc rfl hT rfl rfl ?_; intro _) | refine mv_store hT rfl rfl rfl rfl rfl rfl sO rfl ?_ | (refine mv_buildSlice rfl hT rfl rfl rfl rfl rfl rfl rfl rfl ?_; intro _)) | refine g_yd rfl rfl (Ys.yd (ys_str_eql hT rfl rfl rfl rfl)) ?_ | refine g_yd rfl rfl (Ys.yd (ys_str_neq hT rfl rfl rfl rfl)) ?_))
            refine g_yd rfl rfl (yd_conv_bytes hT (.inr (show sl s0.A 1 (IE .u8) L ∈ _ from mE)) hs0.n rfl rfl rfl rfl rfl) ?_
            (repeat' (first | (first | refine g_nil ?_ | refine g_pure true hT rfl rfl rfl sI ?_ | refine g_skip rfl rfl ?_ | refine g_skip0 rfl rfl ?_ | refine gk_region rfl ?_ | refine gk_cond_t rfl rfl ?_ | refine gk_cond_f rfl rfl ?_ | refine g_yd rfl rfl (yd_load_blk hT rfl rfl mE rfl rfl) ?_ | refine g_yd rfl rfl (yd_load_row hT rfl rfl mE rfl rfl) ?_ | refine g_yd rfl rfl (yd_load_row0 hT rfl rfl mE rfl rfl) ?_ | refine g_yd rfl rfl (yd_eql rfl rfl rfl rfl rfl (by kernel_rfl)) ?_ | refine g_yd rfl rfl (yd_neq rfl rfl rfl rfl rfl (by kernel_rfl)) ?_ | refine g_yd rfl rfl (yd_index hT rfl rfl rfl sI rfl) ?_ | refine g_yd rfl rfl (yd_slice_nil hT rfl rfl rfl rfl) ?_ | refine g_yd rfl rfl (yd_build_arr hT rfl rfl rfl rfl rfl rfl) ?_ | (refine g_mv rfl ?_; first | (refine mv_box rfl rfl rfl rfl ?_; intro _) | (refine mv_alloc rfl hT rfl rfl ?_; intro _) | refine mv_store hT rfl rfl rfl rfl rfl rfl sO rfl ?_ | (refine mv_buildSlice rfl hT rfl rfl rfl rfl rfl rfl rfl rfl ?_; intro _)) | refine g_yd rfl rfl (Ys.yd (ys_str_eql hT rfl rfl rfl rfl)) ?_ | refine g_yd rfl rfl (Ys.yd (ys_str_neq hT rfl rfl rfl rfl)) ?_) | ((first | refine g_split rfl rfl tE (fun _ => ?_) (fun _ => ?_) | refine gk_cond rfl rfl tE (fun _ => ?_) (fun _ => ?_)) <;> (try first | (exfalso; omega; done) | (rename_i hx; exact absurd rfl hx) | (rename_i hx; cases hx; done)))))
            all_goals first
              | (rename_i hx; exact absurd hS hx)
              | skip
            refine gk_ret hT rfl rfl (.cell rfl mE rfl rfl (.tmp rfl .nil)) (fun w' hk => ?_)
            exact Ret.mk (oD, 0) ⟨hok, hcode0.symm, fun _ => hsame, fun h => absurd hcode0 h⟩ rfl hk sA
          · obtain ⟨p, hp⟩ := exists_plain oD (looks oD.k) hD9 hM9
            have hS : ¬ strOfNums (putPl oD (looks oD.k)) = strOfNums L := fun e => heq (strOf_inj (putPl_isB hp (fits_of hg.2.1 hg.2.2 hp hpp) k9.isB) hB e)
            have hcode1 : codeL L = 21 := by
              rw [hcode, if_pos]
              intro h
              have h := tB_iff.1 h
              exact heq (by rw [putPl_same hsame, hsk]; exact h.2.2)
            (repeat' (first | (first | refine g_nil ?_ | refine g_pure true hT rfl rfl rfl sI ?_ | refine g_skip rfl rfl ?_ | refine g_skip0 rfl rfl ?_ | refine gk_region rfl ?_ | refine gk_cond_t rfl rfl ?_ | refine gk_cond_f rfl rfl ?_ | refine g_yd rfl rfl (yd_load_blk hT rfl rfl mE rfl rfl) ?_ | refine g_yd rfl rfl (yd_load_row hT rfl rfl mE rfl rfl) ?_ | refine g_yd rfl rfl (yd_load_row0 hT rfl rfl mE rfl rfl) ?_ | refine g_yd rfl rfl (yd_eql rfl rfl rfl rfl rfl (by kernel_rfl)) ?_ | refine g_yd rfl rfl (yd_neq rfl rfl rfl rfl rfl (by kernel_rfl)) ?_ | refine g_yd rfl rfl (yd_index hT rfl rfl rfl sI rfl) ?_ | refine g_yd rfl rfl (yd_slice_nil hT rfl rfl rfl rfl) ?_ | refine g_yd rfl rfl (yd_build_arr hT rfl rfl rfl rfl rfl rfl) ?_ | (refine g_mv rfl ?_; first | (refine mv_box rfl rfl rfl rfl ?_; intro _) | (refine mv_alloc rfl hT rfl rfl ?_; intro _) | refine mv_store hT rfl rfl rfl rfl rfl rfl sO rfl ?_ | (refine mv_buildSlice rfl hT rfl rfl rfl rfl rfl rfl rfl rfl ?_; intro _)) | refine g_yd rfl rfl (Ys.yd (ys_str_eql hT rfl rfl rfl rfl)) ?_ | refine g_yd rfl rfl (Ys.yd (ys_str_neq hT rfl rfl rfl rfl)) ?_) | ((first | refine g_split rfl rfl tE (fun _ => ?_) (fun _ => ?_) | refine gk_cond rfl rfl tE (fun _ => ?_) (fun _ => ?_)) <;> (try first | (exfalso; omega; done) | (rename_i hx; exact absurd rfl hx) | (rename_i hx; cases hx; done)))))
            refine g_yd rfl rfl (yd_conv_bytes hT (.inl (show sl sb.A 1 (IE .u8) (putPl oD (looks oD.k)) ∈ _ from mE)) hsb.n rfl rfl rfl rfl rfl) ?_
            (repeat (first | refine g_nil ?_ | refine g_pure true hT rfl rfl rfl sI ?_ | refine g_skip rfl rfl ?_ | refine g_skip0 rfl rfl ?_ | refine gk_region rfl ?_ | refine gk_cond_t rfl rfl ?_ | refine gk_cond_f rfl rfl ?_ | refine g_yd rfl rfl (yd_load_blk hT rfl rfl mE rfl rfl) ?_ | refine g_yd rfl rfl (yd_load_row hT rfl rfl mE rfl rfl) ?_ | refine g_yd rfl rfl (yd_load_row0 hT rfl rfl mE rfl rfl) ?_ | refine g_yd rfl rfl (yd_eql rfl rfl rfl rfl rfl (by kernel_rfl)) ?_ | refine g_yd rfl rfl (yd_neq rfl rfl rfl rfl rfl (by kernel_rfl)) ?_ | refine g_yd rfl rfl (yd_index hT rfl rfl rfl sI rfl) ?_ | refine g_yd rfl rfl (yd_slice_nil hT rfl rfl rfl rfl) ?_ | refine g_yd rfl rfl (yd_build_arr hT rfl rfl rfl rfl rfl rfl) ?_ | (refine g_mv rfl ?_; first | (refine mv_box rfl rfl rfl rfl ?_; intro _) | (refine mv_alloc rfl hT rfl rfl ?_; intro _) | refine mv_store hT rfl rfl rfl rfl rfl rfl sO rfl ?_ | (refine mv_buildSlice rfl hT rfl rfl rfl rfl rfl rfl rfl rfl ?_; intro _)) | refine g_yd rfl rfl (Ys.yd (ys_str_eql hT rfl rfl rfl rfl)) ?_ | refine g_yd rfl rfl (Ys.yd (ys_str_neq hT rfl rfl rfl rfl)) ?_))
            refine g_yd rfl rfl (yd_conv_bytes hT (.inr (show sl s0.A 1 (IE .u8) L ∈ _ from mE)) hs0.n rfl rfl rfl rfl rfl) ?_
            (repeat' (first | (first | refine g_nil ?_ | refine g_pure true hT rfl rfl rfl sI ?_ | refine g_skip rfl rfl ?_ | refine g_skip0 rfl rfl ?_ | refine gk_region rfl ?_ | refine gk_cond_t rfl rfl ?_ | refine gk_cond_f rfl rfl ?_ | refine g_yd rfl rfl (yd_load_blk hT rfl rfl mE rfl rfl) ?_ | refine g_yd rfl rfl (yd_load_row hT rfl rfl mE rfl rfl) ?_ | refine g_yd rfl rfl (yd_load_row0 hT rfl rfl mE rfl rfl) ?_ | refine g_yd rfl rfl (yd_eql rfl rfl rfl rfl rfl (by kernel_rfl)) ?_ | refine g_yd rfl rfl (yd_neq rfl rfl rfl rfl rfl (by kernel_rfl)) ?_ | refine g_yd rfl rfl (yd_index hT rfl rfl rfl sI rfl) ?_ | refine g_yd rfl rfl (yd_slice_nil hT rfl rfl rfl rfl) ?_ | refine g_yd rfl rfl (yd_build_arr hT rfl rfl rfl rfl rfl rfl) ?_ | (refine g_mv rfl ?_; first | (refine mv_box rfl rfl rfl rfl ?_; intro _) | (refine mv_alloc rfl hT rfl rfl ?_; intro _) | refine mv_store hT rfl rfl rfl rfl rfl rfl sO rfl ?_ | (refine mv_buildSlice rfl hT rfl rfl rfl rfl rfl rfl rfl rfl ?_; intro _)) | refine g_yd rfl rfl (Ys.yd (ys_str_eql hT rfl rfl rfl rfl)) ?_ | refine g_yd rfl rfl (Ys.yd (ys_str_neq hT rfl rfl rfl rfl)) ?_) | ((first | refine g_split rfl rfl tE (fun _ => ?_) (fun _ => ?_) | refine gk_cond rfl rfl tE (fun _ => ?_) (fun _ => ?_)) <;> (try first | (exfalso; omega; done) | (rename_i hx; exact absurd rfl hx) | (rename_i hx; cases hx; done)))))
            all_goals first
              | (rename_i hx; exact absurd hS hx)
              | skip
            refine gk_nilsl none 1 (IE .u8) ?_
            refine gk_nilsl none 1 (IE .i64) ?_
            refine gk_ret hT rfl rfl (.cell rfl mE rfl rfl (.tmp rfl .nil)) (fun w' hk => ?_)
            exact Ret.mk (kindO 0, 21) ⟨kind_ok 0, (hcode1).symm, (fun h => by rw [hcode1] at h; omega), fun _ => ⟨rfl, rfl, rfl, rfl, rfl, rfl, rfl, rfl⟩⟩ rfl hk sA
        · have hcode1 : codeL L = 21 := by
            rw [hcode, if_pos]
            intro h
            have h := tB_iff.1 h
            refine hg ⟨by rw [hsk]; exact h.1.1, by rw [hsk]; exact h.1.2, by rw [rright_same hsame]; exact h.2.1⟩
          (repeat' (first | (first | refine g_nil ?_ | refine g_pure true hT rfl rfl rfl sI ?_ | refine g_skip rfl rfl ?_ | refine g_skip0 rfl rfl ?_ | refine gk_region rfl ?_ | refine gk_cond_t rfl rfl ?_ | refine gk_cond_f rfl rfl ?_ | refine g_yd rfl rfl (yd_load_blk hT rfl rfl mE rfl rfl) ?_ | refine g_yd rfl rfl (yd_load_row hT rfl rfl mE rfl rfl) ?_ | refine g_yd rfl rfl (yd_load_row0 hT rfl rfl mE rfl rfl) ?_ | refine g_yd rfl rfl (yd_eql rfl rfl rfl rfl rfl (by kernel_rfl)) ?_ | refine g_yd rfl rfl (yd_neq rfl rfl rfl rfl rfl (by kernel_rfl)) ?_ | refine g_yd rfl rfl (yd_index hT rfl rfl rfl sI rfl) ?_ | refine g_yd rfl rfl (yd_slice_nil hT rfl rfl rfl rfl) ?_ | refine g_yd rfl rfl (yd_build_arr hT rfl rfl rfl rfl rfl rfl) ?_ | (refine g_mv rfl ?_; first | (refine mv_box rfl rfl rfl rfl ?_; intro _) | (refine mv_alloc rfl hT rfl rfl ?_; intro _) | refine mv_store hT rfl rfl rfl rfl rfl rfl sO rfl ?_ | (refine mv_buildSlice rfl hT rfl rfl rfl rfl rfl rfl rfl rfl ?_; intro _)) | refine g_yd rfl rfl (Ys.yd (ys_str_eql hT rfl rfl rfl rfl)) ?_ | refine g_yd rfl rfl (Ys.yd (ys_str_neq hT rfl rfl rfl rfl)) ?_) | (refine g_mv rfl ?_; first | refine mv_call_bel (fun w hk => put_no oD w hok ⟨hk.pO (sl r9.d.A 1 (IE .u8) r9.D) mE, hk.pO (sl A2 1 (IE .i64) Ml) mE⟩ hM9 hg) rfl rfl rfl rfl rfl (by kernel_rfl) ?_) | ((first | refine g_split rfl rfl tE (fun _ => ?_) (fun _ => ?_) | refine gk_cond rfl rfl tE (fun _ => ?_) (fun _ => ?_)) <;> (try first | (exfalso; omega; done) | (rename_i hx; exact absurd rfl hx) | (rename_i hx; cases hx; done)))))
          refine gk_nilsl none 1 (IE .u8) ?_
          refine gk_nilsl none 1 (IE .i64) ?_
          refine gk_ret hT rfl rfl (.cell rfl mE rfl rfl (.tmp rfl .nil)) (fun w' hk => ?_)
          exact Ret.mk (kindO 0, 21) ⟨kind_ok 0, (hcode1).symm, (fun h => by rw [hcode1] at h; omega), fun _ => ⟨rfl, rfl, rfl, rfl, rfl, rfl, rfl, rfl⟩⟩ rfl hk sA
end Go.Proofs.Yteajefmnbalofaa.OpA
