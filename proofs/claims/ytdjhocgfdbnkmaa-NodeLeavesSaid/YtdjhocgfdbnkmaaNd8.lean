/- key.Put; are entries in order. -/
import Derived.Test.YtdjhocgfdbnkmaaNd
import Derived.Test.YtdjhocgfdbnkmaaFix
import Derived.Test.YtdjhocgfdbnkmaaGxE
namespace Go.Proofs.Ytdjhocgfdbnkmaa.Nd
open Go.RowKit Mem Gx Bytes
set_option linter.unusedVariables false
set_option linter.unusedSimpArgs false
set_option maxRecDepth 100000
set_option maxHeartbeats 4000000
def keyB (k : KeyD) : List Int := le k.v 2 ++ le k.b 4 ++ le k.s 8
theorem keyB_len (k : KeyD) : (keyB k).length = 14 := by simp [keyB, le_length]
theorem kput_any (base : Nat) (v : Value) (L : List Int) (k : KeyD) (w : World) (hk : k.Bd) (h : OwnL w base 5 1 v (IE .u8) L) (hL : L.length ≤ 10000) (hb : base ≤ w.heap.size) :
    Calls Try.prog 172 [v, k.val].toArray w fun e w' => ∃ v', e = .returned v' ∧ OwnL w' base 5 1 v' (IE .u8) (L ++ keyB k) ∧ Grew w w' v v' := by
  have k1 := hk.v
  have k2 := hk.b
  have k3 := hk.s
  refine g_enter0 T (ownE v) [own base 5 1 v (IE .u8) L] [] Try.func172 rfl Try.ntmps172 rfl (Kn.startG h) ?_
  (repeat (first | refine g_nil ?_ | refine g_pure true hT rfl rfl rfl sI ?_ | refine g_skip rfl rfl ?_ | refine g_skip0 rfl rfl ?_ | refine gk_region rfl ?_ | refine gk_cond_t rfl rfl ?_ | refine gk_cond_f rfl rfl ?_ | refine g_yd rfl rfl (yd_load_blk hT rfl rfl mE rfl rfl) ?_ | refine g_yd rfl rfl (yd_load_row hT rfl rfl mE rfl rfl) ?_ | refine g_yd rfl rfl (yd_load_row0 hT rfl rfl mE rfl rfl) ?_ | refine g_yd rfl rfl (yd_eql rfl rfl rfl rfl rfl (by kernel_rfl)) ?_ | refine g_yd rfl rfl (yd_neq rfl rfl rfl rfl rfl (by kernel_rfl)) ?_ | refine g_yd rfl rfl (yd_index hT rfl rfl rfl sI rfl) ?_ | refine g_yd rfl rfl (yd_slice_nil hT rfl rfl rfl rfl) ?_ | refine g_yd rfl rfl (yd_build_arr hT rfl rfl rfl rfl rfl rfl) ?_ | (refine g_mv rfl ?_; first | (refine mv_box rfl rfl rfl rfl ?_; intro _) | (refine mv_alloc rfl hT rfl rfl ?_; intro _) | refine mv_store hT rfl rfl rfl rfl rfl rfl sO rfl ?_ | (refine mv_buildSlice rfl hT rfl rfl rfl rfl rfl rfl rfl rfl ?_; intro _)) | refine g_yd rfl rfl (Ys.yd (ys_str_eql hT rfl rfl rfl rfl)) ?_ | refine g_yd rfl rfl (Ys.yd (ys_str_neq hT rfl rfl rfl rfl)) ?_))
  refine g_mv rfl ?_; refine mv_call_grow (fun w hk => Fix.put_any base v L k.v 2 2 w rfl (by omega) (by omega) (hk.pO (own base 5 1 v (IE .u8) L) mE) (by omega) (Nat.le_trans hb hk.size)) rfl rfl rfl rfl rfl (by kernel_rfl) (by intro _; repeat (first | exact Upd.here _ | apply Upd.there)) (fun v1 => ?_)
  (repeat (first | refine g_nil ?_ | refine g_pure true hT rfl rfl rfl sI ?_ | refine g_skip rfl rfl ?_ | refine g_skip0 rfl rfl ?_ | refine gk_region rfl ?_ | refine gk_cond_t rfl rfl ?_ | refine gk_cond_f rfl rfl ?_ | refine g_yd rfl rfl (yd_load_blk hT rfl rfl mE rfl rfl) ?_ | refine g_yd rfl rfl (yd_load_row hT rfl rfl mE rfl rfl) ?_ | refine g_yd rfl rfl (yd_load_row0 hT rfl rfl mE rfl rfl) ?_ | refine g_yd rfl rfl (yd_eql rfl rfl rfl rfl rfl (by kernel_rfl)) ?_ | refine g_yd rfl rfl (yd_neq rfl rfl rfl rfl rfl (by kernel_rfl)) ?_ | refine g_yd rfl rfl (yd_index hT rfl rfl rfl sI rfl) ?_ | refine g_yd rfl rfl (yd_slice_nil hT rfl rfl rfl rfl) ?_ | refine g_yd rfl rfl (yd_build_arr hT rfl rfl rfl rfl rfl rfl) ?_ | (refine g_mv rfl ?_; first | (refine mv_box rfl rfl rfl rfl ?_; intro _) | (refine mv_alloc rfl hT rfl rfl ?_; intro _) | refine mv_store hT rfl rfl rfl rfl rfl rfl sO rfl ?_ | (refine mv_buildSlice rfl hT rfl rfl rfl rfl rfl rfl rfl rfl ?_; intro _)) | refine g_yd rfl rfl (Ys.yd (ys_str_eql hT rfl rfl rfl rfl)) ?_ | refine g_yd rfl rfl (Ys.yd (ys_str_neq hT rfl rfl rfl rfl)) ?_))
  refine g_mv rfl ?_; refine mv_call_grow (fun w hk => Fix.put_any base v1 (L ++ le k.v 2) k.b 4 4 w rfl (by omega) (by omega) (hk.pO (own base 5 1 v1 (IE .u8) (L ++ le k.v 2)) mE) (by simp only [List.length_append, le_length]; omega) (Nat.le_trans hb hk.size)) rfl rfl rfl rfl rfl (by kernel_rfl) (by intro _; repeat (first | exact Upd.here _ | apply Upd.there)) (fun v2 => ?_)
  (repeat (first | refine g_nil ?_ | refine g_pure true hT rfl rfl rfl sI ?_ | refine g_skip rfl rfl ?_ | refine g_skip0 rfl rfl ?_ | refine gk_region rfl ?_ | refine gk_cond_t rfl rfl ?_ | refine gk_cond_f rfl rfl ?_ | refine g_yd rfl rfl (yd_load_blk hT rfl rfl mE rfl rfl) ?_ | refine g_yd rfl rfl (yd_load_row hT rfl rfl mE rfl rfl) ?_ | refine g_yd rfl rfl (yd_load_row0 hT rfl rfl mE rfl rfl) ?_ | refine g_yd rfl rfl (yd_eql rfl rfl rfl rfl rfl (by kernel_rfl)) ?_ | refine g_yd rfl rfl (yd_neq rfl rfl rfl rfl rfl (by kernel_rfl)) ?_ | refine g_yd rfl rfl (yd_index hT rfl rfl rfl sI rfl) ?_ | refine g_yd rfl rfl (yd_slice_nil hT rfl rfl rfl rfl) ?_ | refine g_yd rfl rfl (yd_build_arr hT rfl rfl rfl rfl rfl rfl) ?_ | (refine g_mv rfl ?_; first | (refine mv_box rfl rfl rfl rfl ?_; intro _) | (refine mv_alloc rfl hT rfl rfl ?_; intro _) | refine mv_store hT rfl rfl rfl rfl rfl rfl sO rfl ?_ | (refine mv_buildSlice rfl hT rfl rfl rfl rfl rfl rfl rfl rfl ?_; intro _)) | refine g_yd rfl rfl (Ys.yd (ys_str_eql hT rfl rfl rfl rfl)) ?_ | refine g_yd rfl rfl (Ys.yd (ys_str_neq hT rfl rfl rfl rfl)) ?_))
  refine g_mv rfl ?_; refine mv_call_grow (fun w hk => Fix.put_any base v2 (L ++ le k.v 2 ++ le k.b 4) k.s 8 8 w rfl (by omega) (by omega) (hk.pO (own base 5 1 v2 (IE .u8) (L ++ le k.v 2 ++ le k.b 4)) mE) (by simp only [List.length_append, le_length]; omega) (Nat.le_trans hb hk.size)) rfl rfl rfl rfl rfl (by kernel_rfl) (by intro _; repeat (first | exact Upd.here _ | apply Upd.there)) (fun v3 => ?_)
  (repeat (first | refine g_nil ?_ | refine g_pure true hT rfl rfl rfl sI ?_ | refine g_skip rfl rfl ?_ | refine g_skip0 rfl rfl ?_ | refine gk_region rfl ?_ | refine gk_cond_t rfl rfl ?_ | refine gk_cond_f rfl rfl ?_ | refine g_yd rfl rfl (yd_load_blk hT rfl rfl mE rfl rfl) ?_ | refine g_yd rfl rfl (yd_load_row hT rfl rfl mE rfl rfl) ?_ | refine g_yd rfl rfl (yd_load_row0 hT rfl rfl mE rfl rfl) ?_ | refine g_yd rfl rfl (yd_eql rfl rfl rfl rfl rfl (by kernel_rfl)) ?_ | refine g_yd rfl rfl (yd_neq rfl rfl rfl rfl rfl (by kernel_rfl)) ?_ | refine g_yd rfl rfl (yd_index hT rfl rfl rfl sI rfl) ?_ | refine g_yd rfl rfl (yd_slice_nil hT rfl rfl rfl rfl) ?_ | refine g_yd rfl rfl (yd_build_arr hT rfl rfl rfl rfl rfl rfl) ?_ | (refine g_mv rfl ?_; first | (refine mv_box rfl rfl rfl rfl ?_; intro _) | (refine mv_alloc rfl hT rfl rfl ?_; intro _) | refine mv_store hT rfl rfl rfl rfl rfl rfl sO rfl ?_ | (refine mv_buildSlice rfl hT rfl rfl rfl rfl rfl rfl rfl rfl ?_; intro _)) | refine g_yd rfl rfl (Ys.yd (ys_str_eql hT rfl rfl rfl rfl)) ?_ | refine g_yd rfl rfl (Ys.yd (ys_str_neq hT rfl rfl rfl rfl)) ?_))
  refine gk_ret hT rfl rfl (.tmp rfl .nil) (fun w' hk => ?_)
  obtain ⟨h1, h2⟩ := Kn.outG (L := L ++ le k.v 2 ++ le k.b 4 ++ le k.s 8) (base := base) (e := 5) (sz := 1) (enc := IE .u8) (v' := v3) hk mE (by simp only [List.length_append, le_length]; omega)
  refine ⟨v3, rfl, ?_, h2⟩
  have e : L ++ keyB k = L ++ le k.v 2 ++ le k.b 4 ++ le k.s 8 := by unfold keyB; simp only [List.append_assoc]
  rw [e]
  exact h1
/-- Entries whose keys rise. -/
def Asc (L : List EntD) : Prop := ∀ i, 0 < i → i < L.length → klt (L.getD (i - 1) default).k (L.getD i default).k
theorem calls_b' {P : Program} {fid : FuncId} {args : Array Value} {w : World} {a b : Bool} (e0 : a = b) (h : Calls P fid args w fun e w' => e = .returned (.bool a) ∧ Below w.heap.size w w') : Calls P fid args w fun e w' => e = .returned (.bool b) ∧ Below w.heap.size w w' := e0 ▸ h
theorem rises_any (A : Option Addr) (n c : Nat) (L : List EntD) (m : Nat) (w : World) (hn : n = L.length) (h9 : n ≤ 9223372036854775807) (hs : Sl w A 4 EE L) :
    Calls Try.prog 15 [.slice A n c, .int .i64 m].toArray w fun e w' => e = .returned (.bool (tB (L.length ≤ m ∧ Asc L))) ∧ Below w.heap.size w w' := by
  refine g_enter0 T [] [] [sl A 4 EE L] Try.func15 rfl Try.ntmps15 rfl ((Kn.start w).argR hs (by decide) (fun _ h => by cases h)) ?_
  by_cases hm : m < n
  · (repeat' (first | (first | refine g_nil ?_ | refine g_pure true hT rfl rfl rfl sI ?_ | refine g_skip rfl rfl ?_ | refine g_skip0 rfl rfl ?_ | refine gk_region rfl ?_ | refine gk_cond_t rfl rfl ?_ | refine gk_cond_f rfl rfl ?_ | refine g_yd rfl rfl (yd_load_blk hT rfl rfl mE rfl rfl) ?_ | refine g_yd rfl rfl (yd_load_row hT rfl rfl mE rfl rfl) ?_ | refine g_yd rfl rfl (yd_load_row0 hT rfl rfl mE rfl rfl) ?_ | refine g_yd rfl rfl (yd_eql rfl rfl rfl rfl rfl (by kernel_rfl)) ?_ | refine g_yd rfl rfl (yd_neq rfl rfl rfl rfl rfl (by kernel_rfl)) ?_ | refine g_yd rfl rfl (yd_index hT rfl rfl rfl sI rfl) ?_ | refine g_yd rfl rfl (yd_slice_nil hT rfl rfl rfl rfl) ?_ | refine g_yd rfl rfl (yd_build_arr hT rfl rfl rfl rfl rfl rfl) ?_ | (refine g_mv rfl ?_; first | (refine mv_box rfl rfl rfl rfl ?_; intro _) | (refine mv_alloc rfl hT rfl rfl ?_; intro _) | refine mv_store hT rfl rfl rfl rfl rfl rfl sO rfl ?_ | (refine mv_buildSlice rfl hT rfl rfl rfl rfl rfl rfl rfl rfl ?_; intro _)) | refine g_yd rfl rfl (Ys.yd (ys_str_eql hT rfl rfl rfl rfl)) ?_ | refine g_yd rfl rfl (Ys.yd (ys_str_neq hT rfl rfl rfl rfl)) ?_) | ((first | refine g_split rfl rfl tE (fun _ => ?_) (fun _ => ?_) | refine gk_cond rfl rfl tE (fun _ => ?_) (fun _ => ?_)) <;> (try first | (exfalso; omega; done) | (rename_i hx; exact absurd rfl hx) | (rename_i hx; cases hx; done)))))
    refine gk_ret hT rfl rfl (.tmp rfl .nil) (fun w' hk => ?_)
    refine ⟨?_, hk.toBelow⟩
    rw [tB_false (show ¬ (L.length ≤ m ∧ Asc L) from fun h => by have := h.1; omega)]
    rfl
  (repeat' (first | (first | refine g_nil ?_ | refine g_pure true hT rfl rfl rfl sI ?_ | refine g_skip rfl rfl ?_ | refine g_skip0 rfl rfl ?_ | refine gk_region rfl ?_ | refine gk_cond_t rfl rfl ?_ | refine gk_cond_f rfl rfl ?_ | refine g_yd rfl rfl (yd_load_blk hT rfl rfl mE rfl rfl) ?_ | refine g_yd rfl rfl (yd_load_row hT rfl rfl mE rfl rfl) ?_ | refine g_yd rfl rfl (yd_load_row0 hT rfl rfl mE rfl rfl) ?_ | refine g_yd rfl rfl (yd_eql rfl rfl rfl rfl rfl (by kernel_rfl)) ?_ | refine g_yd rfl rfl (yd_neq rfl rfl rfl rfl rfl (by kernel_rfl)) ?_ | refine g_yd rfl rfl (yd_index hT rfl rfl rfl sI rfl) ?_ | refine g_yd rfl rfl (yd_slice_nil hT rfl rfl rfl rfl) ?_ | refine g_yd rfl rfl (yd_build_arr hT rfl rfl rfl rfl rfl rfl) ?_ | (refine g_mv rfl ?_; first | (refine mv_box rfl rfl rfl rfl ?_; intro _) | (refine mv_alloc rfl hT rfl rfl ?_; intro _) | refine mv_store hT rfl rfl rfl rfl rfl rfl sO rfl ?_ | (refine mv_buildSlice rfl hT rfl rfl rfl rfl rfl rfl rfl rfl ?_; intro _)) | refine g_yd rfl rfl (Ys.yd (ys_str_eql hT rfl rfl rfl rfl)) ?_ | refine g_yd rfl rfl (Ys.yd (ys_str_neq hT rfl rfl rfl rfl)) ?_) | ((first | refine g_split rfl rfl tE (fun _ => ?_) (fun _ => ?_) | refine gk_cond rfl rfl tE (fun _ => ?_) (fun _ => ?_)) <;> (try first | (exfalso; omega; done) | (rename_i hx; exact absurd rfl hx) | (rename_i hx; cases hx; done)))))
  refine gk_loop_sel (fun (i : Nat) => 1 ≤ i ∧ (i ≤ n ∨ i = 1) ∧ ∀ j, 0 < j → j < i → j < L.length → klt (L.getD (j - 1) default).k (L.getD j default).k) (fun (i : Nat) => [(0, .slice A n c), (5, .int .i64 i)]) (fun (i : Nat) => []) (fun (i : Nat) => [sl A 4 EE L]) (fun (i : Nat) => n + 1 - i) 1 rfl ⟨Nat.le_refl _, .inr rfl, fun j h1 h2 => by omega⟩ (by repeat (first | exact trivial | refine ⟨rfl, ?_⟩)) sA sS ?_
  rintro i hI
  replace hI : 1 ≤ i ∧ (i ≤ n ∨ i = 1) ∧ ∀ j, 0 < j → j < i → j < L.length → klt (L.getD (j - 1) default).k (L.getD j default).k := hI
  change GK _ _ [(0, .slice A n c), (5, .int .i64 i)] [] [sl A 4 EE L]
  obtain ⟨hi1, hi2, hp⟩ := hI
  (repeat (first | refine g_nil ?_ | refine g_pure true hT rfl rfl rfl sI ?_ | refine g_skip rfl rfl ?_ | refine g_skip0 rfl rfl ?_ | refine gk_region rfl ?_ | refine gk_cond_t rfl rfl ?_ | refine gk_cond_f rfl rfl ?_ | refine g_yd rfl rfl (yd_load_blk hT rfl rfl mE rfl rfl) ?_ | refine g_yd rfl rfl (yd_load_row hT rfl rfl mE rfl rfl) ?_ | refine g_yd rfl rfl (yd_load_row0 hT rfl rfl mE rfl rfl) ?_ | refine g_yd rfl rfl (yd_eql rfl rfl rfl rfl rfl (by kernel_rfl)) ?_ | refine g_yd rfl rfl (yd_neq rfl rfl rfl rfl rfl (by kernel_rfl)) ?_ | refine g_yd rfl rfl (yd_index hT rfl rfl rfl sI rfl) ?_ | refine g_yd rfl rfl (yd_slice_nil hT rfl rfl rfl rfl) ?_ | refine g_yd rfl rfl (yd_build_arr hT rfl rfl rfl rfl rfl rfl) ?_ | (refine g_mv rfl ?_; first | (refine mv_box rfl rfl rfl rfl ?_; intro _) | (refine mv_alloc rfl hT rfl rfl ?_; intro _) | refine mv_store hT rfl rfl rfl rfl rfl rfl sO rfl ?_ | (refine mv_buildSlice rfl hT rfl rfl rfl rfl rfl rfl rfl rfl ?_; intro _)) | refine g_yd rfl rfl (Ys.yd (ys_str_eql hT rfl rfl rfl rfl)) ?_ | refine g_yd rfl rfl (Ys.yd (ys_str_neq hT rfl rfl rfl rfl)) ?_))
  refine gk_cond rfl rfl (tells_tB _) (fun h1 => ?_) (fun h1 => ?_)
  · have hiL : i < L.length := by omega
    obtain ⟨y, hy⟩ : ∃ y, L[i]? = some y := ⟨L[i], List.getElem?_eq_getElem hiL⟩
    obtain ⟨x, hx⟩ : ∃ x, L[i - 1]? = some x := ⟨L[i - 1], List.getElem?_eq_getElem (by omega)⟩
    refine gk_elem (enc := EE) (L := L) i mE (by omega) (by decide) (fun b0 o0 y' eA hy' => ?_)
    subst eA
    obtain ⟨b2, k2⟩ : ∃ v, tB (klt x.k y.k) = v := ⟨_, rfl⟩
    have hxy : klt (L.getD (i - 1) default).k (L.getD i default).k ↔ klt x.k y.k := by
      rw [List.getD_eq_getElem?_getD, List.getD_eq_getElem?_getD, hy, hx]; rfl
    refine gk_any [1] (Cut _ (fun _ : Unit => [(0, .slice (some ⟨b0, o0, none⟩) n c), (5, .int .i64 i), (28, .bool (!b2))]) (fun _ => []) (fun _ => [sl (some ⟨b0, o0, none⟩) 4 EE L])) rfl rfl (by kernel_rfl) ?_ (cut_k fun _ => ?_)
    · skip
      refine gb_take 0 rfl (by decide +kernel) rfl rfl (ys_ev (nw := true) hT rfl sI) sF ?_
      refine gb_take 1 rfl (by decide +kernel) rfl rfl (ys_ev (nw := true) hT rfl sI) sF ?_
      refine gb_take 2 rfl (by decide +kernel) rfl rfl (ys_ev (nw := true) hT rfl sI) sF ?_
      refine gb_take 3 rfl (by decide +kernel) rfl rfl (ys_ev (nw := true) hT rfl sI) sF ?_
      refine gb_take 4 rfl (by decide +kernel) rfl rfl (ys_ev (nw := true) hT rfl sI) sF ?_
      refine gb_take 5 rfl (by decide +kernel) rfl rfl (ys_load_el (o0 := o0) (sz := 4) (enc := EE) (L := L) hT (i - 1) x 0 rfl rfl rfl (by omega) hx (at_sl mE) rfl rfl) sF ?_
      refine gb_take 6 rfl (by decide +kernel) rfl rfl (ys_ev (nw := true) hT rfl sI) sF ?_
      refine gb_take 7 rfl (by decide +kernel) rfl rfl (ys_ev (nw := true) hT rfl sI) sF ?_
      refine gb_take 8 rfl (by decide +kernel) rfl rfl (ys_ev (nw := true) hT rfl sI) sF ?_
      refine gb_take 9 rfl (by decide +kernel) rfl rfl (ys_ev (nw := true) hT rfl sI) sF ?_
      refine gb_take 10 rfl (by decide +kernel) rfl rfl (ys_load_el (o0 := o0) (sz := 4) (enc := EE) (L := L) hT i y 0 rfl rfl rfl (by omega) hy (at_sl mE) rfl rfl) sF ?_
      refine gb_only 11 (by decide +kernel) rfl rfl ?_
      refine mv_call_bel (fun w hk => calls_b' k2 (rless_any x.k y.k w)) rfl rfl rfl rfl rfl (by kernel_rfl) ?_
      refine ⟨sF, ?_⟩
      refine gb_take 12 rfl (by decide +kernel) rfl rfl (ys_ev (nw := true) hT rfl sI) sF ?_
      refine gb_nil (by decide +kernel) ?_
      exact ⟨(), (by repeat (first | exact trivial | refine ⟨rfl, ?_⟩)), sA, sS⟩
    · cases b2 with
      | false =>
        (repeat (first | refine g_nil ?_ | refine g_pure true hT rfl rfl rfl sI ?_ | refine g_skip rfl rfl ?_ | refine g_skip0 rfl rfl ?_ | refine gk_region rfl ?_ | refine gk_cond_t rfl rfl ?_ | refine gk_cond_f rfl rfl ?_ | refine g_yd rfl rfl (yd_load_blk hT rfl rfl mE rfl rfl) ?_ | refine g_yd rfl rfl (yd_load_row hT rfl rfl mE rfl rfl) ?_ | refine g_yd rfl rfl (yd_load_row0 hT rfl rfl mE rfl rfl) ?_ | refine g_yd rfl rfl (yd_eql rfl rfl rfl rfl rfl (by kernel_rfl)) ?_ | refine g_yd rfl rfl (yd_neq rfl rfl rfl rfl rfl (by kernel_rfl)) ?_ | refine g_yd rfl rfl (yd_index hT rfl rfl rfl sI rfl) ?_ | refine g_yd rfl rfl (yd_slice_nil hT rfl rfl rfl rfl) ?_ | refine g_yd rfl rfl (yd_build_arr hT rfl rfl rfl rfl rfl rfl) ?_ | (refine g_mv rfl ?_; first | (refine mv_box rfl rfl rfl rfl ?_; intro _) | (refine mv_alloc rfl hT rfl rfl ?_; intro _) | refine mv_store hT rfl rfl rfl rfl rfl rfl sO rfl ?_ | (refine mv_buildSlice rfl hT rfl rfl rfl rfl rfl rfl rfl rfl ?_; intro _)) | refine g_yd rfl rfl (Ys.yd (ys_str_eql hT rfl rfl rfl rfl)) ?_ | refine g_yd rfl rfl (Ys.yd (ys_str_neq hT rfl rfl rfl rfl)) ?_))
        refine gk_ret hT rfl rfl (.tmp rfl .nil) (fun w' hk => ?_)
        refine ⟨?_, hk.toBelow⟩
        rw [tB_false (fun h => by
          have := hxy.1 (h.2 i (by omega) hiL)
          rw [tB_true this] at k2; cases k2)]
        rfl
      | true =>
        (repeat (first | refine g_nil ?_ | refine g_pure true hT rfl rfl rfl sI ?_ | refine g_skip rfl rfl ?_ | refine g_skip0 rfl rfl ?_ | refine gk_region rfl ?_ | refine gk_cond_t rfl rfl ?_ | refine gk_cond_f rfl rfl ?_ | refine g_yd rfl rfl (yd_load_blk hT rfl rfl mE rfl rfl) ?_ | refine g_yd rfl rfl (yd_load_row hT rfl rfl mE rfl rfl) ?_ | refine g_yd rfl rfl (yd_load_row0 hT rfl rfl mE rfl rfl) ?_ | refine g_yd rfl rfl (yd_eql rfl rfl rfl rfl rfl (by kernel_rfl)) ?_ | refine g_yd rfl rfl (yd_neq rfl rfl rfl rfl rfl (by kernel_rfl)) ?_ | refine g_yd rfl rfl (yd_index hT rfl rfl rfl sI rfl) ?_ | refine g_yd rfl rfl (yd_slice_nil hT rfl rfl rfl rfl) ?_ | refine g_yd rfl rfl (yd_build_arr hT rfl rfl rfl rfl rfl rfl) ?_ | (refine g_mv rfl ?_; first | (refine mv_box rfl rfl rfl rfl ?_; intro _) | (refine mv_alloc rfl hT rfl rfl ?_; intro _) | refine mv_store hT rfl rfl rfl rfl rfl rfl sO rfl ?_ | (refine mv_buildSlice rfl hT rfl rfl rfl rfl rfl rfl rfl rfl ?_; intro _)) | refine g_yd rfl rfl (Ys.yd (ys_str_eql hT rfl rfl rfl rfl)) ?_ | refine g_yd rfl rfl (Ys.yd (ys_str_neq hT rfl rfl rfl rfl)) ?_))
        refine gk_again_sel rfl (i + 1) ⟨by omega, by omega, fun j j1 j2 j3 => by
          by_cases e : j = i
          · subst e; exact hxy.2 (tB_iff.1 k2)
          · exact hp j j1 (by omega) j3⟩ (by omega) (by repeat (first | exact trivial | refine ⟨rfl, ?_⟩)) sA sS
  · (repeat (first | refine g_nil ?_ | refine g_pure true hT rfl rfl rfl sI ?_ | refine g_skip rfl rfl ?_ | refine g_skip0 rfl rfl ?_ | refine gk_region rfl ?_ | refine gk_cond_t rfl rfl ?_ | refine gk_cond_f rfl rfl ?_ | refine g_yd rfl rfl (yd_load_blk hT rfl rfl mE rfl rfl) ?_ | refine g_yd rfl rfl (yd_load_row hT rfl rfl mE rfl rfl) ?_ | refine g_yd rfl rfl (yd_load_row0 hT rfl rfl mE rfl rfl) ?_ | refine g_yd rfl rfl (yd_eql rfl rfl rfl rfl rfl (by kernel_rfl)) ?_ | refine g_yd rfl rfl (yd_neq rfl rfl rfl rfl rfl (by kernel_rfl)) ?_ | refine g_yd rfl rfl (yd_index hT rfl rfl rfl sI rfl) ?_ | refine g_yd rfl rfl (yd_slice_nil hT rfl rfl rfl rfl) ?_ | refine g_yd rfl rfl (yd_build_arr hT rfl rfl rfl rfl rfl rfl) ?_ | (refine g_mv rfl ?_; first | (refine mv_box rfl rfl rfl rfl ?_; intro _) | (refine mv_alloc rfl hT rfl rfl ?_; intro _) | refine mv_store hT rfl rfl rfl rfl rfl rfl sO rfl ?_ | (refine mv_buildSlice rfl hT rfl rfl rfl rfl rfl rfl rfl rfl ?_; intro _)) | refine g_yd rfl rfl (Ys.yd (ys_str_eql hT rfl rfl rfl rfl)) ?_ | refine g_yd rfl rfl (Ys.yd (ys_str_neq hT rfl rfl rfl rfl)) ?_))
    refine gk_ret hT rfl rfl (.tmp rfl .nil) (fun w' hk => ?_)
    refine ⟨?_, hk.toBelow⟩
    rw [tB_true (show L.length ≤ m ∧ Asc L from ⟨by omega, fun j j1 j2 => hp j j1 (by omega) j2⟩)]
    rfl
end Go.Proofs.Ytdjhocgfdbnkmaa.Nd
