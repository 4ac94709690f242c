/- The walk by reckoned steps: more. Keys and entries as data; their order (cmp.Compare, cmp.Or, key.Compare, key.Less, the reference's Less). -/
import Derived.Test.YtaghmffgoomebaaGreatTab
namespace Go.Proofs.YtaghmffgoomebaaGreat.Gx
open Go.RowKit Mem
set_option linter.unusedVariables false
set_option linter.unusedSimpArgs false
/-- Two ways that lead to one place: 'refine join1 (p := ?G) (fun J => ?r) ?g'; at the end of each way: g_wk ..; exact J.out. (J is shut: else a tactic that looks for False takes it.) -/
structure Later (p : Prop) : Prop where
  out : p
/-- As many steps as can be reckoned at once: 'refine gG ?_' (up to a new block, whose number is to be named). -/
theorem gG {p q : Prop} (g : q) (h : Later q → p := by
    intro h
    (first | refine g_nil ?_ | refine g_pure true hT rfl rfl rfl sI ?_ | refine g_skip rfl rfl ?_ | refine g_skip0 rfl rfl ?_ | refine gk_region rfl ?_ | refine gk_cond_t rfl rfl ?_ | refine gk_cond_f rfl rfl ?_ | refine g_yd rfl rfl (yd_load_blk hT rfl rfl mE rfl rfl) ?_ | refine g_yd rfl rfl (yd_load_row hT rfl rfl mE rfl rfl) ?_ | refine g_yd rfl rfl (yd_load_row0 hT rfl rfl mE rfl rfl) ?_ | refine g_yd rfl rfl (yd_eql rfl rfl rfl rfl rfl (by kernel_rfl)) ?_ | refine g_yd rfl rfl (yd_neq rfl rfl rfl rfl rfl (by kernel_rfl)) ?_ | refine g_yd rfl rfl (yd_index hT rfl rfl rfl sI rfl) ?_ | refine g_yd rfl rfl (yd_slice_nil hT rfl rfl rfl rfl) ?_ | refine g_yd rfl rfl (yd_build_arr hT rfl rfl rfl rfl rfl rfl) ?_ | (refine g_mv rfl ?_; first | (refine mv_box rfl rfl rfl rfl ?_) | (refine mv_alloc rfl hT rfl rfl ?_) | refine mv_store hT rfl rfl rfl rfl rfl rfl sO rfl ?_ | (refine mv_buildSlice rfl hT rfl rfl rfl rfl rfl rfl rfl rfl ?_)) | refine g_yd rfl rfl (Ys.yd (ys_str_eql hT rfl rfl rfl rfl)) ?_ | refine g_yd rfl rfl (Ys.yd (ys_str_neq hT rfl rfl rfl rfl)) ?_)
    repeat (first | refine g_nil ?_ | refine g_pure true hT rfl rfl rfl sI ?_ | refine g_skip rfl rfl ?_ | refine g_skip0 rfl rfl ?_ | refine gk_region rfl ?_ | refine gk_cond_t rfl rfl ?_ | refine gk_cond_f rfl rfl ?_ | refine g_yd rfl rfl (yd_load_blk hT rfl rfl mE rfl rfl) ?_ | refine g_yd rfl rfl (yd_load_row hT rfl rfl mE rfl rfl) ?_ | refine g_yd rfl rfl (yd_load_row0 hT rfl rfl mE rfl rfl) ?_ | refine g_yd rfl rfl (yd_eql rfl rfl rfl rfl rfl (by kernel_rfl)) ?_ | refine g_yd rfl rfl (yd_neq rfl rfl rfl rfl rfl (by kernel_rfl)) ?_ | refine g_yd rfl rfl (yd_index hT rfl rfl rfl sI rfl) ?_ | refine g_yd rfl rfl (yd_slice_nil hT rfl rfl rfl rfl) ?_ | refine g_yd rfl rfl (yd_build_arr hT rfl rfl rfl rfl rfl rfl) ?_ | (refine g_mv rfl ?_; first | (refine mv_box rfl rfl rfl rfl ?_) | (refine mv_alloc rfl hT rfl rfl ?_) | refine mv_store hT rfl rfl rfl rfl rfl rfl sO rfl ?_ | (refine mv_buildSlice rfl hT rfl rfl rfl rfl rfl rfl rfl rfl ?_)) | refine g_yd rfl rfl (Ys.yd (ys_str_eql hT rfl rfl rfl rfl)) ?_ | refine g_yd rfl rfl (Ys.yd (ys_str_neq hT rfl rfl rfl rfl)) ?_)
    exact h.out) : p := h ⟨g⟩
/-- The same, without literals of slices. -/
theorem gG1 {p q : Prop} (g : q) (h : Later q → p := by
    intro h
    (first | refine g_nil ?_ | refine g_pure true hT rfl rfl rfl sI ?_ | refine g_skip rfl rfl ?_ | refine g_skip0 rfl rfl ?_ | refine gk_region rfl ?_ | refine gk_cond_t rfl rfl ?_ | refine gk_cond_f rfl rfl ?_ | refine g_yd rfl rfl (yd_load_blk hT rfl rfl mE rfl rfl) ?_ | refine g_yd rfl rfl (yd_load_row hT rfl rfl mE rfl rfl) ?_ | refine g_yd rfl rfl (yd_load_row0 hT rfl rfl mE rfl rfl) ?_ | refine g_yd rfl rfl (yd_eql rfl rfl rfl rfl rfl (by kernel_rfl)) ?_ | refine g_yd rfl rfl (yd_neq rfl rfl rfl rfl rfl (by kernel_rfl)) ?_ | refine g_yd rfl rfl (yd_index hT rfl rfl rfl sI rfl) ?_ | refine g_yd rfl rfl (yd_slice_nil hT rfl rfl rfl rfl) ?_ | refine g_yd rfl rfl (yd_build_arr hT rfl rfl rfl rfl rfl rfl) ?_ | (refine g_mv rfl ?_; first | (refine mv_box rfl rfl rfl rfl ?_) | (refine mv_alloc rfl hT rfl rfl ?_) | refine mv_store hT rfl rfl rfl rfl rfl rfl sO rfl ?_) | refine g_yd rfl rfl (Ys.yd (ys_str_eql hT rfl rfl rfl rfl)) ?_ | refine g_yd rfl rfl (Ys.yd (ys_str_neq hT rfl rfl rfl rfl)) ?_)
    repeat (first | refine g_nil ?_ | refine g_pure true hT rfl rfl rfl sI ?_ | refine g_skip rfl rfl ?_ | refine g_skip0 rfl rfl ?_ | refine gk_region rfl ?_ | refine gk_cond_t rfl rfl ?_ | refine gk_cond_f rfl rfl ?_ | refine g_yd rfl rfl (yd_load_blk hT rfl rfl mE rfl rfl) ?_ | refine g_yd rfl rfl (yd_load_row hT rfl rfl mE rfl rfl) ?_ | refine g_yd rfl rfl (yd_load_row0 hT rfl rfl mE rfl rfl) ?_ | refine g_yd rfl rfl (yd_eql rfl rfl rfl rfl rfl (by kernel_rfl)) ?_ | refine g_yd rfl rfl (yd_neq rfl rfl rfl rfl rfl (by kernel_rfl)) ?_ | refine g_yd rfl rfl (yd_index hT rfl rfl rfl sI rfl) ?_ | refine g_yd rfl rfl (yd_slice_nil hT rfl rfl rfl rfl) ?_ | refine g_yd rfl rfl (yd_build_arr hT rfl rfl rfl rfl rfl rfl) ?_ | (refine g_mv rfl ?_; first | (refine mv_box rfl rfl rfl rfl ?_) | (refine mv_alloc rfl hT rfl rfl ?_) | refine mv_store hT rfl rfl rfl rfl rfl rfl sO rfl ?_) | refine g_yd rfl rfl (Ys.yd (ys_str_eql hT rfl rfl rfl rfl)) ?_ | refine g_yd rfl rfl (Ys.yd (ys_str_neq hT rfl rfl rfl rfl)) ?_)
    exact h.out) : p := h ⟨g⟩
end Go.Proofs.YtaghmffgoomebaaGreat.Gx
namespace Go.Proofs.YtaghmffgoomebaaGreat.Nd
open Go.RowKit Mem Gx
set_option linter.unusedVariables false
set_option linter.unusedSimpArgs false
set_option maxRecDepth 100000
set_option maxHeartbeats 4000000
/-- A key; an entry. -/
structure KeyD where
  v : Int
  b : Int
  s : Int
structure EntD where
  k : KeyD
  a : Int
instance : Inhabited KeyD := ⟨⟨0, 0, 0⟩⟩
instance : Inhabited EntD := ⟨⟨⟨0, 0, 0⟩, 0⟩⟩
def KE : KeyD → Nat → Value
  | x, 0 => .int .u16 x.v
  | x, 1 => .int .u32 x.b
  | x, _ + 2 => .int .u64 x.s
def EE : EntD → Nat → Value
  | x, 0 => .int .u16 x.k.v
  | x, 1 => .int .u32 x.k.b
  | x, 2 => .int .u64 x.k.s
  | x, _ + 3 => .int .u32 x.a
abbrev KeyD.val (x : KeyD) : Value := .agg #[.int .u16 x.v, .int .u32 x.b, .int .u64 x.s]
abbrev EntD.val (x : EntD) : Value := .agg #[.int .u16 x.k.v, .int .u32 x.k.b, .int .u64 x.k.s, .int .u32 x.a]
structure KeyD.Bd (x : KeyD) : Prop where
  v : 0 ≤ x.v ∧ x.v < 65536
  b : 0 ≤ x.b ∧ x.b < 4294967296
  s : 0 ≤ x.s ∧ x.s < 18446744073709551616
/-- The order of keys. -/
def klt (x y : KeyD) : Prop := x.v < y.v ∨ (x.v = y.v ∧ (x.b < y.b ∨ (x.b = y.b ∧ x.s < y.s)))
instance (x y : KeyD) : Decidable (klt x y) := by unfold klt; infer_instance
noncomputable def kcmp (x y : KeyD) : Int := if tB (klt x y) = true then -1 else if tB (klt y x) = true then 1 else 0
theorem key_ext {x y : KeyD} (h1 : x.v = y.v) (h2 : x.b = y.b) (h3 : x.s = y.s) : x = y := by
  cases x; cases y; simp_all
theorem kcmp_neg (x y : KeyD) : kcmp x y < 0 ↔ klt x y := by
  unfold kcmp
  by_cases h : klt x y
  · rw [if_pos (tB_true h)]; exact ⟨fun _ => h, fun _ => by decide⟩
  · rw [if_neg (by rw [tB_false h]; decide)]
    split <;> exact ⟨fun h' => by omega, fun h' => absurd h' h⟩
theorem kcmp_zero (x y : KeyD) : kcmp x y = 0 ↔ x = y := by
  unfold kcmp
  by_cases h : klt x y
  · rw [if_pos (tB_true h)]
    refine ⟨fun h' => by omega, fun e => ?_⟩
    subst e
    unfold klt at h
    omega
  · rw [if_neg (by rw [tB_false h]; decide)]
    by_cases h2 : klt y x
    · rw [if_pos (tB_true h2)]
      refine ⟨fun h' => by omega, fun e => ?_⟩
      subst e
      exact absurd h2 h
    · rw [if_neg (by rw [tB_false h2]; decide)]
      refine ⟨fun _ => ?_, fun _ => rfl⟩
      unfold klt at h h2
      exact key_ext (by omega) (by omega) (by omega)
noncomputable def icmp (a b : Int) : Int := if tB (a < b) = true then -1 else if tB (b < a) = true then 1 else 0
theorem nan16_any (a : Int) (w : World) : Calls Tryz.prog 132 [.int .u16 a].toArray w fun e w' => e = .returned (.bool false) ∧ Below w.heap.size w w' := by
  refine g_enter0 T [] [] [] Tryz.func132 rfl Tryz.ntmps132 rfl (Kn.start _) ?_
  (repeat (refine gG ?_; try intro _))
  refine gk_ret hT rfl rfl (.tmp rfl .nil) (fun w' hk => ?_)
  exact ⟨by rw [show tB (¬ a = a) = false from tB_false (fun h => h rfl)]; rfl, hk.toBelow⟩
theorem nan32_any (a : Int) (w : World) : Calls Tryz.prog 133 [.int .u32 a].toArray w fun e w' => e = .returned (.bool false) ∧ Below w.heap.size w w' := by
  refine g_enter0 T [] [] [] Tryz.func133 rfl Tryz.ntmps133 rfl (Kn.start _) ?_
  (repeat (refine gG ?_; try intro _))
  refine gk_ret hT rfl rfl (.tmp rfl .nil) (fun w' hk => ?_)
  exact ⟨by rw [show tB (¬ a = a) = false from tB_false (fun h => h rfl)]; rfl, hk.toBelow⟩
theorem nan64_any (a : Int) (w : World) : Calls Tryz.prog 134 [.int .u64 a].toArray w fun e w' => e = .returned (.bool false) ∧ Below w.heap.size w w' := by
  refine g_enter0 T [] [] [] Tryz.func134 rfl Tryz.ntmps134 rfl (Kn.start _) ?_
  (repeat (refine gG ?_; try intro _))
  refine gk_ret hT rfl rfl (.tmp rfl .nil) (fun w' hk => ?_)
  exact ⟨by rw [show tB (¬ a = a) = false from tB_false (fun h => h rfl)]; rfl, hk.toBelow⟩
theorem icmp_lt {a b : Int} (h : a < b) : icmp a b = -1 := by unfold icmp; rw [if_pos (tB_true h)]
theorem icmp_gt {a b : Int} (h : b < a) : icmp a b = 1 := by unfold icmp; rw [if_neg (by rw [tB_false (by omega)]; decide), if_pos (tB_true h)]
theorem icmp_eq {a b : Int} (h : a = b) : icmp a b = 0 := by unfold icmp; rw [if_neg (by rw [tB_false (by omega)]; decide), if_neg (by rw [tB_false (by omega)]; decide)]
theorem ret_i {k : IntKind} {a b : Int} (h : a = b) : Ending.returned (.int k a) = .returned (.int k b) := by rw [h]
theorem cmp16_any (a b : Int) (w : World) : Calls Tryz.prog 118 [.int .u16 a, .int .u16 b].toArray w fun e w' => e = .returned (.int .i64 (icmp a b)) ∧ Below w.heap.size w w' := by
  refine g_enter0 T [] [] [] Tryz.func118 rfl Tryz.ntmps118 rfl (Kn.start _) ?_
  (repeat' (first | (refine gG ?_; try intro _) | (refine g_mv rfl ?_; first | refine mv_call_bel (fun w hk => nan16_any a w) rfl rfl rfl rfl rfl (by kernel_rfl) ?_ | refine mv_call_bel (fun w hk => nan16_any b w) rfl rfl rfl rfl rfl (by kernel_rfl) ?_) | ((first | refine g_split rfl rfl tE (fun _ => ?_) (fun _ => ?_) | refine gk_cond rfl rfl tE (fun _ => ?_) (fun _ => ?_)) <;> (try first | (exfalso; omega; done) | (rename_i hx; exact absurd rfl hx) | (rename_i hx; cases hx; done)))))
  all_goals (refine gk_ret hT rfl rfl (.tmp rfl .nil) (fun w' hk => ?_); refine ⟨ret_i ?_, hk.toBelow⟩)
  all_goals first
    | exact (icmp_lt (by omega)).symm
    | exact (icmp_gt (by omega)).symm
    | exact (icmp_eq (by omega)).symm
theorem cmp32_any (a b : Int) (w : World) : Calls Tryz.prog 119 [.int .u32 a, .int .u32 b].toArray w fun e w' => e = .returned (.int .i64 (icmp a b)) ∧ Below w.heap.size w w' := by
  refine g_enter0 T [] [] [] Tryz.func119 rfl Tryz.ntmps119 rfl (Kn.start _) ?_
  (repeat' (first | (refine gG ?_; try intro _) | (refine g_mv rfl ?_; first | refine mv_call_bel (fun w hk => nan32_any a w) rfl rfl rfl rfl rfl (by kernel_rfl) ?_ | refine mv_call_bel (fun w hk => nan32_any b w) rfl rfl rfl rfl rfl (by kernel_rfl) ?_) | ((first | refine g_split rfl rfl tE (fun _ => ?_) (fun _ => ?_) | refine gk_cond rfl rfl tE (fun _ => ?_) (fun _ => ?_)) <;> (try first | (exfalso; omega; done) | (rename_i hx; exact absurd rfl hx) | (rename_i hx; cases hx; done)))))
  all_goals (refine gk_ret hT rfl rfl (.tmp rfl .nil) (fun w' hk => ?_); refine ⟨ret_i ?_, hk.toBelow⟩)
  all_goals first
    | exact (icmp_lt (by omega)).symm
    | exact (icmp_gt (by omega)).symm
    | exact (icmp_eq (by omega)).symm
theorem cmp64_any (a b : Int) (w : World) : Calls Tryz.prog 120 [.int .u64 a, .int .u64 b].toArray w fun e w' => e = .returned (.int .i64 (icmp a b)) ∧ Below w.heap.size w w' := by
  refine g_enter0 T [] [] [] Tryz.func120 rfl Tryz.ntmps120 rfl (Kn.start _) ?_
  (repeat' (first | (refine gG ?_; try intro _) | (refine g_mv rfl ?_; first | refine mv_call_bel (fun w hk => nan64_any a w) rfl rfl rfl rfl rfl (by kernel_rfl) ?_ | refine mv_call_bel (fun w hk => nan64_any b w) rfl rfl rfl rfl rfl (by kernel_rfl) ?_) | ((first | refine g_split rfl rfl tE (fun _ => ?_) (fun _ => ?_) | refine gk_cond rfl rfl tE (fun _ => ?_) (fun _ => ?_)) <;> (try first | (exfalso; omega; done) | (rename_i hx; exact absurd rfl hx) | (rename_i hx; cases hx; done)))))
  all_goals (refine gk_ret hT rfl rfl (.tmp rfl .nil) (fun w' hk => ?_); refine ⟨ret_i ?_, hk.toBelow⟩)
  all_goals first
    | exact (icmp_lt (by omega)).symm
    | exact (icmp_gt (by omega)).symm
    | exact (icmp_eq (by omega)).symm
/-- cmp.Or of three. -/
def or3 (a b c : Int) : Int := if a = 0 then if b = 0 then c else b else a
theorem or_any (g : Nat) (a b c : Int) (w : World) (h : Sl w (some ⟨g, 0, none⟩) 1 (IE .i64) [a, b, c]) : Calls Tryz.prog 117 [.slice (some ⟨g, 0, none⟩) 3 3].toArray w fun e w' => e = .returned (.int .i64 (or3 a b c)) ∧ Below w.heap.size w w' := by
  refine g_enter0 T [] [] [sl (some ⟨g, 0, none⟩) 1 (IE .i64) [a, b, c]] Tryz.func117 rfl Tryz.ntmps117 rfl ((Kn.start w).argR h (by decide) (fun _ h => by cases h)) ?_
  refine gk_elem (enc := IE .i64) (L := [a, b, c]) 0 mE (by simp) (by decide) (fun b0 o0 y0 eA hy0 => ?_)
  obtain ⟨rfl, rfl⟩ : g = b0 ∧ 0 = o0 := by injection eA with e; injection e with e1 e2; exact ⟨e1, e2⟩
  clear eA
  refine gk_elem (enc := IE .i64) (L := [a, b, c]) 1 mE (by simp) (by decide) (fun b0 o0 y1 eA hy1 => ?_)
  obtain ⟨rfl, rfl⟩ : g = b0 ∧ 0 = o0 := by injection eA with e; injection e with e1 e2; exact ⟨e1, e2⟩
  clear eA
  refine gk_elem (enc := IE .i64) (L := [a, b, c]) 2 mE (by simp) (by decide) (fun b0 o0 y2 eA hy2 => ?_)
  obtain ⟨rfl, rfl⟩ : g = b0 ∧ 0 = o0 := by injection eA with e; injection e with e1 e2; exact ⟨e1, e2⟩
  clear eA
  obtain rfl : a = y0 := by simpa using hy0
  obtain rfl : b = y1 := by simpa using hy1
  obtain rfl : c = y2 := by simpa using hy2
  clear hy0 hy1 hy2
  (repeat (refine gG ?_; try intro _))
  refine gk_rounds 3 rfl ?_
  by_cases ha : a = 0
  · (repeat' (first | (refine gG ?_; try intro _) | ((first | refine g_split rfl rfl tE (fun _ => ?_) (fun _ => ?_) | refine gk_cond rfl rfl tE (fun _ => ?_) (fun _ => ?_)) <;> (try first | (exfalso; omega; done) | (rename_i hx; exact absurd rfl hx) | (rename_i hx; cases hx; done)))))
    refine gk_next rfl ?_
    by_cases hb : b = 0
    · (repeat' (first | (refine gG ?_; try intro _) | ((first | refine g_split rfl rfl tE (fun _ => ?_) (fun _ => ?_) | refine gk_cond rfl rfl tE (fun _ => ?_) (fun _ => ?_)) <;> (try first | (exfalso; omega; done) | (rename_i hx; exact absurd rfl hx) | (rename_i hx; cases hx; done)))))
      refine gk_next rfl ?_
      by_cases hc : c = 0
      · (repeat' (first | (refine gG ?_; try intro _) | ((first | refine g_split rfl rfl tE (fun _ => ?_) (fun _ => ?_) | refine gk_cond rfl rfl tE (fun _ => ?_) (fun _ => ?_)) <;> (try first | (exfalso; omega; done) | (rename_i hx; exact absurd rfl hx) | (rename_i hx; cases hx; done)))))
        refine gk_next rfl ?_
        (repeat' (first | (refine gG ?_; try intro _) | ((first | refine g_split rfl rfl tE (fun _ => ?_) (fun _ => ?_) | refine gk_cond rfl rfl tE (fun _ => ?_) (fun _ => ?_)) <;> (try first | (exfalso; omega; done) | (rename_i hx; exact absurd rfl hx) | (rename_i hx; cases hx; done)))))
        refine gk_ret hT rfl rfl (.tmp rfl .nil) (fun w' hk => ?_)
        exact ⟨ret_i (by unfold or3; rw [if_pos ha, if_pos hb, hc]), hk.toBelow⟩
      · (repeat' (first | (refine gG ?_; try intro _) | ((first | refine g_split rfl rfl tE (fun _ => ?_) (fun _ => ?_) | refine gk_cond rfl rfl tE (fun _ => ?_) (fun _ => ?_)) <;> (try first | (exfalso; omega; done) | (rename_i hx; exact absurd rfl hx) | (rename_i hx; cases hx; done)))))
        refine gk_ret hT rfl rfl (.tmp rfl .nil) (fun w' hk => ?_)
        exact ⟨ret_i (by unfold or3; rw [if_pos ha, if_pos hb]), hk.toBelow⟩
    · (repeat' (first | (refine gG ?_; try intro _) | ((first | refine g_split rfl rfl tE (fun _ => ?_) (fun _ => ?_) | refine gk_cond rfl rfl tE (fun _ => ?_) (fun _ => ?_)) <;> (try first | (exfalso; omega; done) | (rename_i hx; exact absurd rfl hx) | (rename_i hx; cases hx; done)))))
      refine gk_ret hT rfl rfl (.tmp rfl .nil) (fun w' hk => ?_)
      exact ⟨ret_i (by unfold or3; rw [if_pos ha, if_neg hb]), hk.toBelow⟩
  · (repeat' (first | (refine gG ?_; try intro _) | ((first | refine g_split rfl rfl tE (fun _ => ?_) (fun _ => ?_) | refine gk_cond rfl rfl tE (fun _ => ?_) (fun _ => ?_)) <;> (try first | (exfalso; omega; done) | (rename_i hx; exact absurd rfl hx) | (rename_i hx; cases hx; done)))))
    refine gk_ret hT rfl rfl (.tmp rfl .nil) (fun w' hk => ?_)
    exact ⟨ret_i (by unfold or3; rw [if_neg ha]), hk.toBelow⟩
theorem or3_kcmp (x y : KeyD) : or3 (icmp x.v y.v) (icmp x.b y.b) (icmp x.s y.s) = kcmp x y := by
  unfold or3 kcmp
  rcases Int.lt_trichotomy x.v y.v with h | h | h
  · rw [icmp_lt h, if_neg (by decide), if_pos (tB_true (by unfold klt; omega))]
  · rw [icmp_eq h, if_pos rfl]
    rcases Int.lt_trichotomy x.b y.b with h' | h' | h'
    · rw [icmp_lt h', if_neg (by decide), if_pos (tB_true (by unfold klt; omega))]
    · rw [icmp_eq h', if_pos rfl]
      rcases Int.lt_trichotomy x.s y.s with h'' | h'' | h''
      · rw [icmp_lt h'', if_pos (tB_true (by unfold klt; omega))]
      · rw [icmp_eq h'', if_neg (by rw [tB_false (by unfold klt; omega)]; decide), if_neg (by rw [tB_false (by unfold klt; omega)]; decide)]
      · rw [icmp_gt h'', if_neg (by rw [tB_false (by unfold klt; omega)]; decide), if_pos (tB_true (by unfold klt; omega))]
    · rw [icmp_gt h', if_neg (by decide), if_neg (by rw [tB_false (by unfold klt; omega)]; decide), if_pos (tB_true (by unfold klt; omega))]
  · rw [icmp_gt h, if_neg (by decide), if_neg (by rw [tB_false (by unfold klt; omega)]; decide), if_pos (tB_true (by unfold klt; omega))]
theorem kcmp_any (x y : KeyD) (w : World) : Calls Tryz.prog 90 [x.val, y.val].toArray w fun e w' => e = .returned (.int .i64 (kcmp x y)) ∧ Below w.heap.size w w' := by
  refine g_enter0 T [] [] [] Tryz.func90 rfl Tryz.ntmps90 rfl (Kn.start _) ?_
  (repeat (refine gG ?_; try intro _))
  rename_i g2 g3
  refine gk_any [0, 1] (Cut _ (fun _ : Unit => [(4, .int .i64 (kcmp x y))]) (fun _ => []) (fun _ => [])) rfl rfl (by kernel_rfl) ?_ (cut_k fun _ => ?_)
  · skip
    refine gb_take 0 rfl (by decide +kernel) rfl rfl (ys_ev (nw := true) hT rfl sI) sF ?_
    refine gb_take 1 rfl (by decide +kernel) rfl rfl (by first | exact ys_blk hT rfl rfl mE rfl rfl | exact ys_row hT rfl rfl mE rfl rfl | exact ys_row0 hT rfl rfl mE rfl rfl) sF ?_
    refine gb_take 2 rfl (by decide +kernel) rfl rfl (ys_ev (nw := true) hT rfl sI) sF ?_
    refine gb_take 3 rfl (by decide +kernel) rfl rfl (by first | exact ys_blk hT rfl rfl mE rfl rfl | exact ys_row hT rfl rfl mE rfl rfl | exact ys_row0 hT rfl rfl mE rfl rfl) sF ?_
    refine gb_take 5 rfl (by decide +kernel) rfl rfl (ys_ev (nw := true) hT rfl sI) sF ?_
    refine gb_take 6 rfl (by decide +kernel) rfl rfl (by first | exact ys_blk hT rfl rfl mE rfl rfl | exact ys_row hT rfl rfl mE rfl rfl | exact ys_row0 hT rfl rfl mE rfl rfl) sF ?_
    refine gb_take 7 rfl (by decide +kernel) rfl rfl (ys_ev (nw := true) hT rfl sI) sF ?_
    refine gb_take 8 rfl (by decide +kernel) rfl rfl (by first | exact ys_blk hT rfl rfl mE rfl rfl | exact ys_row hT rfl rfl mE rfl rfl | exact ys_row0 hT rfl rfl mE rfl rfl) sF ?_
    refine gb_take 10 rfl (by decide +kernel) rfl rfl (ys_ev (nw := true) hT rfl sI) sF ?_
    refine gb_take 11 rfl (by decide +kernel) rfl rfl (by first | exact ys_blk hT rfl rfl mE rfl rfl | exact ys_row hT rfl rfl mE rfl rfl | exact ys_row0 hT rfl rfl mE rfl rfl) sF ?_
    refine gb_take 12 rfl (by decide +kernel) rfl rfl (ys_ev (nw := true) hT rfl sI) sF ?_
    refine gb_take 13 rfl (by decide +kernel) rfl rfl (by first | exact ys_blk hT rfl rfl mE rfl rfl | exact ys_row hT rfl rfl mE rfl rfl | exact ys_row0 hT rfl rfl mE rfl rfl) sF ?_
    refine gb_only 4 (by decide +kernel) rfl rfl ?_
    refine mv_call_bel (fun w hk => cmp16_any x.v y.v w) rfl rfl rfl rfl rfl (by kernel_rfl) ?_
    refine ⟨sF, ?_⟩
    refine gb_only 9 (by decide +kernel) rfl rfl ?_
    refine mv_call_bel (fun w hk => cmp32_any x.b y.b w) rfl rfl rfl rfl rfl (by kernel_rfl) ?_
    refine ⟨sF, ?_⟩
    refine gb_only 14 (by decide +kernel) rfl rfl ?_
    refine mv_call_bel (fun w hk => cmp64_any x.s y.s w) rfl rfl rfl rfl rfl (by kernel_rfl) ?_
    refine ⟨sF, ?_⟩
    refine gb_only 15 (by decide +kernel) rfl rfl ?_
    (refine mv_buildSlice (len := 3) rfl hT rfl rfl rfl rfl rfl rfl rfl rfl ?_; intro g4)
    refine ⟨sF, ?_⟩
    refine gb_only 16 (by decide +kernel) rfl rfl ?_
    refine mv_call_bel (fun w hk => or_any g4 (icmp x.v y.v) (icmp x.b y.b) (icmp x.s y.s) w (src_blk (M := [icmp x.v y.v, icmp x.b y.b, icmp x.s y.s]) mE rfl w hk)) rfl rfl rfl rfl rfl (by kernel_rfl) ?_
    refine ⟨sF, ?_⟩
    refine gb_take 17 rfl (by decide +kernel) rfl rfl (ys_ev (nw := true) hT rfl sI) sF ?_
    try (refine gb_say 4 (.int .i64 (kcmp x y)) rfl (by rw [or3_kcmp]) ?_)
    refine gb_nil (by decide +kernel) ?_
    exact ⟨(), (by repeat (first | exact trivial | refine ⟨rfl, ?_⟩)), sA, List.nil_subset _⟩
  · (repeat (refine gG ?_; try intro _))
    refine gk_ret hT rfl rfl (.tmp rfl .nil) (fun w' hk => ?_)
    exact ⟨rfl, hk.toBelow⟩
theorem rless_any (x y : KeyD) (w : World) : Calls Tryz.prog 7 [x.val, y.val].toArray w fun e w' => e = .returned (.bool (tB (klt x y))) ∧ Below w.heap.size w w' := by
  refine g_enter0 T [] [] [] Tryz.func7 rfl Tryz.ntmps7 rfl (Kn.start _) ?_
  (repeat' (first | (refine gG ?_; try intro _) | ((first | refine g_split rfl rfl tE (fun _ => ?_) (fun _ => ?_) | refine gk_cond rfl rfl tE (fun _ => ?_) (fun _ => ?_)) <;> (try first | (exfalso; omega; done) | (rename_i hx; exact absurd rfl hx) | (rename_i hx; cases hx; done)))))
  all_goals (refine gk_ret hT rfl rfl (.tmp rfl .nil) (fun w' hk => ?_); refine ⟨ret_bool ?_, hk.toBelow⟩; rw [tB_iff, tB_iff]; unfold klt; omega)
end Go.Proofs.YtaghmffgoomebaaGreat.Nd
