/- Blocks that are free: the list's state; Len, Has, Give, Take. -/
import Derived.Test.YtdkgmgfadpnhbaaFr2
import Derived.Test.YtdkgmgfadpnhbaaGxN
namespace Go.Proofs.Ytdkgmgfadpnhbaa.Hp
open Go.RowKit Mem Gx
set_option linter.unusedVariables false
set_option linter.unusedSimpArgs false
set_option maxRecDepth 100000
set_option maxHeartbeats 1000000
abbrev one : Value := .int .i64 1
def kv (K : List Int) : List (Int × Value) := K.map fun k => (k, one)
theorem lkp_out {b : Int} : ∀ {K : List Int} {i : Nat}, b ∉ K → lkp b (kv K) i = none
  | [], _, _ => rfl
  | x :: r, i, h => by
    show (if b = x then _ else _) = _
    rw [if_neg (fun e => h (by rw [e]; exact .head _))]
    exact lkp_out (K := r) (i := i + 1) fun h1 => h (.tail _ h1)
theorem lkp_in {b : Int} : ∀ {K : List Int} {i : Nat}, b ∈ K → ∃ n, lkp b (kv K) i = some (i + n, one) ∧ K[n]? = some b
  | [], _, h => by cases h
  | x :: r, i, h => by
    by_cases e : b = x
    · refine ⟨0, ?_, by simp [e]⟩
      show (if b = x then _ else _) = _
      rw [if_pos e]
      rfl
    · obtain ⟨n, h1, h2⟩ := lkp_in (K := r) (i := i + 1) (by cases h with | head => exact absurd rfl e | tail _ h => exact h)
      refine ⟨n + 1, ?_, by simpa using h2⟩
      show (if b = x then _ else lkp b (kv r) (i + 1)) = _
      rw [if_neg e, h1, show i + 1 + n = i + (n + 1) by omega]
theorem kv_set {b : Int} {K : List Int} (h : b ∉ K) : mset b one (kv K) = kv (K ++ [b]) := by
  rw [mset_none (lkp_out (i := 0) h)]
  unfold kv
  rw [List.map_append]
  rfl
theorem perm_eraseIdx {α : Type} : ∀ {L : List α} {n : Nat} {x : α}, L[n]? = some x → (x :: L.eraseIdx n).Perm L
  | [], n, x, h => by simp at h
  | y :: r, 0, x, h => by
    obtain rfl : y = x := by simpa using h
    exact List.Perm.refl _
  | y :: r, n + 1, x, h => by
    have := perm_eraseIdx (L := r) (n := n) (by simpa using h)
    exact (List.Perm.swap y x _).trans (this.cons y)
theorem kv_del {b : Int} {K : List Int} (h : b ∈ K) : ∃ K', mdel b (kv K) = kv K' ∧ (b :: K').Perm K := by
  obtain ⟨n, h1, h2⟩ := lkp_in (i := 0) h
  refine ⟨K.eraseIdx n, ?_, perm_eraseIdx h2⟩
  unfold mdel
  rw [h1]
  simp only [Nat.zero_add]
  unfold kv
  apply List.ext_getElem?
  intro k
  simp only [List.getElem?_eraseIdx, List.getElem?_map]
  split <;> rfl
theorem has_val {b : Int} {K : List Int} : ((lkp b (kv K) 0).map (·.2)).getD (.int .i64 0) = .int .i64 (if b ∈ K then 1 else 0) := by
  by_cases h : b ∈ K
  · obtain ⟨n, h1, _⟩ := lkp_in (i := 0) h
    rw [h1, if_pos h]
    rfl
  · rw [lkp_out h, if_neg h]
    rfl
/-- The map, if there is one. -/
def mpo (mo : Option Nat) (K : List Int) : Fact := match mo with
  | some r => mp r .u32 (kv K)
  | none => ⟨fun _ => False, fun _ => K = [], fun _ _ _ h => h⟩
/-- Where a list of blocks lies. -/
structure FrS where
  mo : Option Nat
  v : Value
  L : List Int
  K : List Int
def frF (g : Nat) (s : FrS) : List Fact := [packF (frL g [.map s.mo] 230 s.v s.L), mpo s.mo s.K]
/-- What it says. -/
structure FrOk (s : FrS) (S : List Int) : Prop where
  l : s.L.Perm S
  k : s.K.Perm S
  sorted : S.Pairwise (· < ·)
  heap : HeapN (fun x y : Int => x < y) s.L s.L.length
  nil : s.mo = none → S = []
  len : S.length ≤ 10000
theorem frF_fin (g : Nat) (s : FrS) : ∀ b, (packF (frF g s)).S b ↔ b ∈ (g :: ownE s.v) ++ s.mo.toList := fun b => by
  obtain ⟨mo, v, L, K⟩ := s
  constructor
  · rintro ⟨φ, hφ, hb⟩
    rcases List.mem_cons.1 hφ with rfl | hφ
    · exact List.mem_append_left _ ((fr_fin g [.map mo] 230 v L b).1 hb)
    · obtain rfl := List.mem_singleton.1 hφ
      cases mo with
      | none => exact hb.elim
      | some r =>
        have : b = r := hb
        subst this
        exact List.mem_append_right _ (.head _)
  · intro hb
    rcases List.mem_append.1 hb with hb | hb
    · exact ⟨_, .head _, (fr_fin g [.map mo] 230 v L b).2 hb⟩
    · cases mo with
      | none => cases hb
      | some r =>
        obtain rfl := List.mem_singleton.1 hb
        exact ⟨_, .tail _ (.head _), rfl⟩
theorem z_int : ∀ w, (zeroValue 3).run Try.prog w = .ok (.int .i64 0) w := fun w => by kernel_rfl
theorem llen_any (g : Nat) (s : FrS) (w : World) (h : Rd1 w (packF (frF g s))) (hl : s.L.length ≤ 100000) :
    Calls Try.prog 109 [.pointer (some ⟨g, 0, none⟩)].toArray w fun e w' => e = .returned (.int .i64 (s.L.length : Int)) ∧ Below w.heap.size w w' := by
  obtain ⟨mo, v, L, K⟩ := s
  obtain ⟨A, c, hv, hc, hm, hA, hs⟩ := own_rdv ((h.unpack (.head _)).unpack (.tail _ (.head _)))
  replace hv : v = .slice A L.length c := hv
  subst hv
  have hb : Rd1 w (blk g [.slice A L.length c, .map mo] 230) := (h.unpack (.head _)).unpack (.head _)
  refine g_enter0 T [] [] [row g 0 [.slice A L.length c, .map mo]] Try.func109 rfl Try.ntmps109 rfl (Rds.cons hb.row .nil).kn ?_
  (repeat' (first | (first | refine g_nil ?_ | refine g_pure true hT rfl rfl rfl sI ?_ | refine g_skip rfl rfl ?_ | refine g_skip0 rfl rfl ?_ | refine gk_region rfl ?_ | refine gk_cond_t rfl rfl ?_ | refine gk_cond_f rfl rfl ?_ | refine g_yd rfl rfl (yd_load_blk hT rfl rfl mE rfl rfl) ?_ | refine g_yd rfl rfl (yd_load_row hT rfl rfl mE rfl rfl) ?_ | refine g_yd rfl rfl (yd_load_row0 hT rfl rfl mE rfl rfl) ?_ | refine g_yd rfl rfl (yd_eql rfl rfl rfl rfl rfl (by kernel_rfl)) ?_ | refine g_yd rfl rfl (yd_neq rfl rfl rfl rfl rfl (by kernel_rfl)) ?_ | refine g_yd rfl rfl (yd_index hT rfl rfl rfl sI rfl) ?_ | refine g_yd rfl rfl (yd_slice_nil hT rfl rfl rfl rfl) ?_ | refine g_yd rfl rfl (yd_build_arr hT rfl rfl rfl rfl rfl rfl) ?_ | (refine g_mv rfl ?_; first | (refine mv_box rfl rfl rfl rfl ?_; intro _) | (refine mv_alloc rfl hT rfl rfl ?_; intro _) | refine mv_store hT rfl rfl rfl rfl rfl rfl sO rfl ?_ | (refine mv_buildSlice rfl hT rfl rfl rfl rfl rfl rfl rfl rfl ?_; intro _)) | refine g_yd rfl rfl (Ys.yd (ys_str_eql hT rfl rfl rfl rfl)) ?_ | refine g_yd rfl rfl (Ys.yd (ys_str_neq hT rfl rfl rfl rfl)) ?_) | ((first | refine g_split rfl rfl tE (fun _ => ?_) (fun _ => ?_) | refine gk_cond rfl rfl tE (fun _ => ?_) (fun _ => ?_)) <;> (try first | (exfalso; omega; done) | (rename_i hx; exact absurd rfl hx) | (rename_i hx; cases hx; done)))))
  refine gk_ret hT rfl rfl (.tmp rfl .nil) (fun w' hk => ?_)
  exact ⟨rfl, hk.toBelow⟩
theorem lhas_any (g : Nat) (s : FrS) (b : Int) (w : World) (h : Rd1 w (packF (frF g s))) (hn : s.mo = none → s.K = []) :
    Calls Try.prog 110 [.pointer (some ⟨g, 0, none⟩), .int .u32 b].toArray w fun e w' => e = .returned (.bool (tB (b ∈ s.K))) ∧ Below w.heap.size w w' := by
  obtain ⟨mo, v, L, K⟩ := s
  have hb : Rd1 w (row g 0 [v, .map mo]) := ((h.unpack (.head _)).unpack (.head _)).row
  cases mo with
  | none =>
    obtain rfl : K = [] := hn rfl
    refine g_enter0 T [] [] [row g 0 [v, .map none]] Try.func110 rfl Try.ntmps110 rfl (Rds.cons hb .nil).kn ?_
    (repeat' (first | (first | refine g_nil ?_ | refine g_pure true hT rfl rfl rfl sI ?_ | refine g_skip rfl rfl ?_ | refine g_skip0 rfl rfl ?_ | refine gk_region rfl ?_ | refine gk_cond_t rfl rfl ?_ | refine gk_cond_f rfl rfl ?_ | refine g_yd rfl rfl (yd_load_blk hT rfl rfl mE rfl rfl) ?_ | refine g_yd rfl rfl (yd_load_row hT rfl rfl mE rfl rfl) ?_ | refine g_yd rfl rfl (yd_load_row0 hT rfl rfl mE rfl rfl) ?_ | refine g_yd rfl rfl (yd_eql rfl rfl rfl rfl rfl (by kernel_rfl)) ?_ | refine g_yd rfl rfl (yd_neq rfl rfl rfl rfl rfl (by kernel_rfl)) ?_ | refine g_yd rfl rfl (yd_index hT rfl rfl rfl sI rfl) ?_ | refine g_yd rfl rfl (yd_slice_nil hT rfl rfl rfl rfl) ?_ | refine g_yd rfl rfl (yd_build_arr hT rfl rfl rfl rfl rfl rfl) ?_ | (refine g_mv rfl ?_; first | (refine mv_box rfl rfl rfl rfl ?_; intro _) | (refine mv_alloc rfl hT rfl rfl ?_; intro _) | refine mv_store hT rfl rfl rfl rfl rfl rfl sO rfl ?_ | (refine mv_buildSlice rfl hT rfl rfl rfl rfl rfl rfl rfl rfl ?_; intro _)) | refine g_yd rfl rfl (Ys.yd (ys_str_eql hT rfl rfl rfl rfl)) ?_ | refine g_yd rfl rfl (Ys.yd (ys_str_neq hT rfl rfl rfl rfl)) ?_) | ((first | refine g_split rfl rfl tE (fun _ => ?_) (fun _ => ?_) | refine gk_cond rfl rfl tE (fun _ => ?_) (fun _ => ?_)) <;> (try first | (exfalso; omega; done) | (rename_i hx; exact absurd rfl hx) | (rename_i hx; cases hx; done)))))
    refine g_yd rfl rfl (Ys.yd (ys_lookup_nil rfl rfl rfl Try.underlying81 Try.underlying87 z_int)) ?_
    (repeat' (first | (first | refine g_nil ?_ | refine g_pure true hT rfl rfl rfl sI ?_ | refine g_skip rfl rfl ?_ | refine g_skip0 rfl rfl ?_ | refine gk_region rfl ?_ | refine gk_cond_t rfl rfl ?_ | refine gk_cond_f rfl rfl ?_ | refine g_yd rfl rfl (yd_load_blk hT rfl rfl mE rfl rfl) ?_ | refine g_yd rfl rfl (yd_load_row hT rfl rfl mE rfl rfl) ?_ | refine g_yd rfl rfl (yd_load_row0 hT rfl rfl mE rfl rfl) ?_ | refine g_yd rfl rfl (yd_eql rfl rfl rfl rfl rfl (by kernel_rfl)) ?_ | refine g_yd rfl rfl (yd_neq rfl rfl rfl rfl rfl (by kernel_rfl)) ?_ | refine g_yd rfl rfl (yd_index hT rfl rfl rfl sI rfl) ?_ | refine g_yd rfl rfl (yd_slice_nil hT rfl rfl rfl rfl) ?_ | refine g_yd rfl rfl (yd_build_arr hT rfl rfl rfl rfl rfl rfl) ?_ | (refine g_mv rfl ?_; first | (refine mv_box rfl rfl rfl rfl ?_; intro _) | (refine mv_alloc rfl hT rfl rfl ?_; intro _) | refine mv_store hT rfl rfl rfl rfl rfl rfl sO rfl ?_ | (refine mv_buildSlice rfl hT rfl rfl rfl rfl rfl rfl rfl rfl ?_; intro _)) | refine g_yd rfl rfl (Ys.yd (ys_str_eql hT rfl rfl rfl rfl)) ?_ | refine g_yd rfl rfl (Ys.yd (ys_str_neq hT rfl rfl rfl rfl)) ?_) | ((first | refine g_split rfl rfl tE (fun _ => ?_) (fun _ => ?_) | refine gk_cond rfl rfl tE (fun _ => ?_) (fun _ => ?_)) <;> (try first | (exfalso; omega; done) | (rename_i hx; exact absurd rfl hx) | (rename_i hx; cases hx; done)))))
    refine gk_ret hT rfl rfl (.tmp rfl .nil) (fun w' hk => ?_)
    exact ⟨ret_bool (by simp [tB_eq]), hk.toBelow⟩
  | some r =>
    have hm : Rd1 w (mp r .u32 (kv K)) := h.unpack (.tail _ (.head _))
    refine g_enter0 T [] [] [row g 0 [v, .map (some r)], mp r .u32 (kv K)] Try.func110 rfl Try.ntmps110 rfl (Rds.cons hb (.cons hm .nil)).kn ?_
    (repeat' (first | (first | refine g_nil ?_ | refine g_pure true hT rfl rfl rfl sI ?_ | refine g_skip rfl rfl ?_ | refine g_skip0 rfl rfl ?_ | refine gk_region rfl ?_ | refine gk_cond_t rfl rfl ?_ | refine gk_cond_f rfl rfl ?_ | refine g_yd rfl rfl (yd_load_blk hT rfl rfl mE rfl rfl) ?_ | refine g_yd rfl rfl (yd_load_row hT rfl rfl mE rfl rfl) ?_ | refine g_yd rfl rfl (yd_load_row0 hT rfl rfl mE rfl rfl) ?_ | refine g_yd rfl rfl (yd_eql rfl rfl rfl rfl rfl (by kernel_rfl)) ?_ | refine g_yd rfl rfl (yd_neq rfl rfl rfl rfl rfl (by kernel_rfl)) ?_ | refine g_yd rfl rfl (yd_index hT rfl rfl rfl sI rfl) ?_ | refine g_yd rfl rfl (yd_slice_nil hT rfl rfl rfl rfl) ?_ | refine g_yd rfl rfl (yd_build_arr hT rfl rfl rfl rfl rfl rfl) ?_ | (refine g_mv rfl ?_; first | (refine mv_box rfl rfl rfl rfl ?_; intro _) | (refine mv_alloc rfl hT rfl rfl ?_; intro _) | refine mv_store hT rfl rfl rfl rfl rfl rfl sO rfl ?_ | (refine mv_buildSlice rfl hT rfl rfl rfl rfl rfl rfl rfl rfl ?_; intro _)) | refine g_yd rfl rfl (Ys.yd (ys_str_eql hT rfl rfl rfl rfl)) ?_ | refine g_yd rfl rfl (Ys.yd (ys_str_neq hT rfl rfl rfl rfl)) ?_) | ((first | refine g_split rfl rfl tE (fun _ => ?_) (fun _ => ?_) | refine gk_cond rfl rfl tE (fun _ => ?_) (fun _ => ?_)) <;> (try first | (exfalso; omega; done) | (rename_i hx; exact absurd rfl hx) | (rename_i hx; cases hx; done)))))
    refine g_yd rfl rfl ((ys_lookup (S := [mp r .u32 (kv K)]) rfl rfl rfl Try.underlying81 Try.underlying87 z_int mE).ydS sF) ?_
    refine g_say 10 (.int .i64 (if b ∈ K then 1 else 0)) rfl has_val ?_
    (repeat' (first | (first | refine g_nil ?_ | refine g_pure true hT rfl rfl rfl sI ?_ | refine g_skip rfl rfl ?_ | refine g_skip0 rfl rfl ?_ | refine gk_region rfl ?_ | refine gk_cond_t rfl rfl ?_ | refine gk_cond_f rfl rfl ?_ | refine g_yd rfl rfl (yd_load_blk hT rfl rfl mE rfl rfl) ?_ | refine g_yd rfl rfl (yd_load_row hT rfl rfl mE rfl rfl) ?_ | refine g_yd rfl rfl (yd_load_row0 hT rfl rfl mE rfl rfl) ?_ | refine g_yd rfl rfl (yd_eql rfl rfl rfl rfl rfl (by kernel_rfl)) ?_ | refine g_yd rfl rfl (yd_neq rfl rfl rfl rfl rfl (by kernel_rfl)) ?_ | refine g_yd rfl rfl (yd_index hT rfl rfl rfl sI rfl) ?_ | refine g_yd rfl rfl (yd_slice_nil hT rfl rfl rfl rfl) ?_ | refine g_yd rfl rfl (yd_build_arr hT rfl rfl rfl rfl rfl rfl) ?_ | (refine g_mv rfl ?_; first | (refine mv_box rfl rfl rfl rfl ?_; intro _) | (refine mv_alloc rfl hT rfl rfl ?_; intro _) | refine mv_store hT rfl rfl rfl rfl rfl rfl sO rfl ?_ | (refine mv_buildSlice rfl hT rfl rfl rfl rfl rfl rfl rfl rfl ?_; intro _)) | refine g_yd rfl rfl (Ys.yd (ys_str_eql hT rfl rfl rfl rfl)) ?_ | refine g_yd rfl rfl (Ys.yd (ys_str_neq hT rfl rfl rfl rfl)) ?_) | ((first | refine g_split rfl rfl tE (fun _ => ?_) (fun _ => ?_) | refine gk_cond rfl rfl tE (fun _ => ?_) (fun _ => ?_)) <;> (try first | (exfalso; omega; done) | (rename_i hx; exact absurd rfl hx) | (rename_i hx; cases hx; done)))))
    refine gk_ret hT rfl rfl (.tmp rfl .nil) (fun w' hk => ?_)
    exact ⟨ret_bool (by by_cases hk : b ∈ K <;> simp [tB_eq, hk]), hk.toBelow⟩
end Go.Proofs.Ytdkgmgfadpnhbaa.Hp

