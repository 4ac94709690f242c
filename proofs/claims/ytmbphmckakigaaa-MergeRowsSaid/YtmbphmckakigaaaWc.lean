/- The law's Compare of keys (layer 04), shared by laws 34 and 17. -/
import Derived.Test.YtmbphmckakigaaaNd2
import Derived.Test.YtmbphmckakigaaaGxW
namespace Go.Proofs.Ytmbphmckakigaaa.Gx
open Go.RowKit Mem
set_option linter.unusedVariables false
set_option linter.unusedSimpArgs false
section
variable {X : Cx} {f : Fr} {o : Oper}
theorem ys_func_nil {S : List Fact} {ty : Nat} {x y : Operand} {yt : TypeId} {fn : Fn} {a1 a2 : Array Value} {pq rq : Array TypeId} {vr : Bool} (ho : o.op = .binOp .eql ty x y yt) (hx : look X.n f x = some (.func fn a1 a2)) (hy : look X.n f y = some .nilFunc) (ht : X.P.underlying ty = some (.func pq rq vr)) : Ys X S f o (.bool false) := fun a w hr hk => by
  have hg : (eqGuard .eql ty x y (.func fn a1 a2) .nilFunc).run X.P w = .ok () w := by
    unfold eqGuard
    split <;> rfl
  have he : (Op.equal ty (.func fn a1 a2) .nilFunc).run X.P w = .ok false w := by
    show (Op.equalIn (9999 + 1) ty (.func fn a1 a2) .nilFunc).run X.P w = _
    generalize 9999 = d
    unfold Op.equalIn
    simp only [Sem.run_bind, run_underlying ht, Result.andThen_ok]
    rfl
  have h3 := bin_eql (P := X.P) w rfl he
  simp only [execOp, ho, hr.look hx, hr.look hy, Sem.run_bind, hg, Result.andThen_ok, h3]
  rfl
end
end Go.Proofs.Ytmbphmckakigaaa.Gx
namespace Go.Proofs.Ytmbphmckakigaaa.Wk
open Go.RowKit Mem Nd Gx
set_option linter.unusedVariables false
set_option linter.unusedSimpArgs false
set_option maxRecDepth 100000
set_option maxHeartbeats 1000000
/-- A key's parts, by number. -/
def KeyD.at3 (x : KeyD) : Nat → Int
  | 0 => x.v
  | 1 => x.b
  | _ => x.s
theorem cmp04_any (x y : KeyD) (w : World) (hx : x.Bd) (hy : y.Bd) : Calls Try.prog 9 [x.val, y.val].toArray w fun e w' => e = .returned (.int .i64 (kcmp x y)) ∧ Below w.heap.size w w' := by
  have x1 := hx.v; have x2 := hx.b; have x3 := hx.s
  have y1 := hy.v; have y2 := hy.b; have y3 := hy.s
  refine g_enter0 T [] [] [] Try.func9 rfl Try.ntmps9 rfl (Kn.start _) ?_
  (repeat (refine gG ?_; try intro _))
  rename_i g2 g3 g5 g6
  refine gk_loop_sel (fun (j : Nat) => (j ≤ 3 ∧ ∀ i, i < j → KeyD.at3 x i = KeyD.at3 y i)) (fun (j : Nat) => [(5, .pointer (some ⟨g5, 0, none⟩)), (6, .pointer (some ⟨g6, 0, none⟩)), (7, .int .i64 j)]) (fun (j : Nat) => [blk g6 [.int .u64 y.v, .int .u64 y.b, .int .u64 y.s] 75, blk g5 [.int .u64 x.v, .int .u64 x.b, .int .u64 x.s] 75]) (fun (j : Nat) => []) (fun (j : Nat) => 3 - j) 0 rfl ⟨by omega, fun i hi => absurd hi (by omega)⟩ (by repeat (first | exact trivial | refine ⟨rfl, ?_⟩)) sA sS ?_
  rintro j hI
  replace hI : (j ≤ 3 ∧ ∀ i, i < j → KeyD.at3 x i = KeyD.at3 y i) := hI
  change GK _ _ [(5, .pointer (some ⟨g5, 0, none⟩)), (6, .pointer (some ⟨g6, 0, none⟩)), (7, .int .i64 j)] [blk g6 [.int .u64 y.v, .int .u64 y.b, .int .u64 y.s] 75, blk g5 [.int .u64 x.v, .int .u64 x.b, .int .u64 x.s] 75] []
  obtain ⟨hj, hE⟩ := hI
  have e0 := hE 0
  have e1 := hE 1
  have e2 := hE 2
  simp only [KeyD.at3] at e0 e1 e2
  have key : ∀ b : Int, (b = -1 → klt x y) → (b = 1 → klt y x) → (b = 0 → ¬ klt x y ∧ ¬ klt y x) → (b = -1 ∨ b = 1 ∨ b = 0) → b = kcmp x y := fun b h1 h2 h3 h4 => by
    have hno : klt x y → ¬ klt y x := by unfold klt; omega
    unfold kcmp
    rcases h4 with rfl | rfl | rfl
    · rw [if_pos (tB_true (h1 rfl))]
    · rw [if_neg (by rw [tB_false (fun h => hno h (h2 rfl))]; decide), if_pos (tB_true (h2 rfl))]
    · rw [if_neg (by rw [tB_false (h3 rfl).1]; decide), if_neg (by rw [tB_false (h3 rfl).2]; decide)]
  have hjj : j = 0 ∨ j = 1 ∨ j = 2 ∨ j = 3 := by omega
  rcases hjj with rfl | rfl | rfl | rfl
  · (repeat' (first | (refine gG ?_; try intro _) | ((first | refine g_split rfl rfl tE (fun _ => ?_) (fun _ => ?_) | refine gk_cond rfl rfl tE (fun _ => ?_) (fun _ => ?_)) <;> (try first | (exfalso; omega; done) | (rename_i hx; exact absurd rfl hx) | (rename_i hx; cases hx; done)))))
    refine gk_drawn_at [0, 1] rfl rfl (by kernel_rfl) ?_
    (repeat (first | refine ga_nil (by decide +kernel) ?_ | refine ga_take (by decide +kernel) rfl rfl (ys_ev (nw := true) hT rfl sI) sF ?_ | refine ga_skip (by decide +kernel) rfl rfl sF ?_ | refine ga_take (by decide +kernel) rfl rfl (ys_blk hT rfl rfl mE rfl rfl) sF ?_ | refine ga_take (by decide +kernel) rfl rfl (ys_row hT rfl rfl mE rfl rfl) sF ?_ | refine ga_take (by decide +kernel) rfl rfl (ys_row0 hT rfl rfl mE rfl rfl) sF ?_ | (refine ga_mv (by decide +kernel) rfl ?_; (first | (refine mv_box rfl rfl rfl rfl ?_; intro _) | (refine mv_alloc rfl hT rfl rfl ?_; intro _) | refine mv_store hT rfl rfl rfl rfl rfl rfl sO rfl ?_ | (refine mv_buildSlice rfl hT rfl rfl rfl rfl rfl rfl rfl rfl ?_; intro _)); refine ⟨sF, ?_⟩) | refine ga_take (by decide +kernel) rfl rfl (ys_eql rfl rfl rfl rfl rfl (by kernel_rfl)) sF ?_ | refine ga_take (by decide +kernel) rfl rfl (ys_neq rfl rfl rfl rfl rfl (by kernel_rfl)) sF ?_))
    refine gk_cond rfl rfl (tells_tB _) (fun hlt => ?_) (fun hlt => ?_)
    · (repeat (refine gG ?_; try intro _))
      refine gk_ret hT rfl rfl (.tmp rfl .nil) (fun w' hk => ?_)
      exact ⟨congrArg (fun q => Ending.returned (.int .i64 q)) (key (-1) (fun _ => by unfold klt; omega) (fun h => absurd h (by decide)) (fun h => absurd h (by decide)) (by omega)), hk.toBelow⟩
    · (repeat (refine gG ?_; try intro _))
      refine gk_drawn_at [0, 1] rfl rfl (by kernel_rfl) ?_
      (repeat (first | refine ga_nil (by decide +kernel) ?_ | refine ga_take (by decide +kernel) rfl rfl (ys_ev (nw := true) hT rfl sI) sF ?_ | refine ga_skip (by decide +kernel) rfl rfl sF ?_ | refine ga_take (by decide +kernel) rfl rfl (ys_blk hT rfl rfl mE rfl rfl) sF ?_ | refine ga_take (by decide +kernel) rfl rfl (ys_row hT rfl rfl mE rfl rfl) sF ?_ | refine ga_take (by decide +kernel) rfl rfl (ys_row0 hT rfl rfl mE rfl rfl) sF ?_ | (refine ga_mv (by decide +kernel) rfl ?_; (first | (refine mv_box rfl rfl rfl rfl ?_; intro _) | (refine mv_alloc rfl hT rfl rfl ?_; intro _) | refine mv_store hT rfl rfl rfl rfl rfl rfl sO rfl ?_ | (refine mv_buildSlice rfl hT rfl rfl rfl rfl rfl rfl rfl rfl ?_; intro _)); refine ⟨sF, ?_⟩) | refine ga_take (by decide +kernel) rfl rfl (ys_eql rfl rfl rfl rfl rfl (by kernel_rfl)) sF ?_ | refine ga_take (by decide +kernel) rfl rfl (ys_neq rfl rfl rfl rfl rfl (by kernel_rfl)) sF ?_))
      refine gk_cond rfl rfl (tells_tB _) (fun hgt => ?_) (fun hgt => ?_)
      · (repeat (refine gG ?_; try intro _))
        refine gk_ret hT rfl rfl (.tmp rfl .nil) (fun w' hk => ?_)
        exact ⟨congrArg (fun q => Ending.returned (.int .i64 q)) (key 1 (fun h => absurd h (by decide)) (fun _ => by unfold klt; omega) (fun h => absurd h (by decide)) (by omega)), hk.toBelow⟩
      · (repeat (refine gG ?_; try intro _))
        refine gk_again_sel rfl 1 ⟨by omega, fun i hi => (by obtain rfl : i = 0 := (by omega); exact (by show x.v = y.v; omega))⟩ (by omega) (by repeat (first | exact trivial | refine ⟨rfl, ?_⟩)) sA sS
  · (repeat' (first | (refine gG ?_; try intro _) | ((first | refine g_split rfl rfl tE (fun _ => ?_) (fun _ => ?_) | refine gk_cond rfl rfl tE (fun _ => ?_) (fun _ => ?_)) <;> (try first | (exfalso; omega; done) | (rename_i hx; exact absurd rfl hx) | (rename_i hx; cases hx; done)))))
    refine gk_drawn_at [0, 1] rfl rfl (by kernel_rfl) ?_
    (repeat (first | refine ga_nil (by decide +kernel) ?_ | refine ga_take (by decide +kernel) rfl rfl (ys_ev (nw := true) hT rfl sI) sF ?_ | refine ga_skip (by decide +kernel) rfl rfl sF ?_ | refine ga_take (by decide +kernel) rfl rfl (ys_blk hT rfl rfl mE rfl rfl) sF ?_ | refine ga_take (by decide +kernel) rfl rfl (ys_row hT rfl rfl mE rfl rfl) sF ?_ | refine ga_take (by decide +kernel) rfl rfl (ys_row0 hT rfl rfl mE rfl rfl) sF ?_ | (refine ga_mv (by decide +kernel) rfl ?_; (first | (refine mv_box rfl rfl rfl rfl ?_; intro _) | (refine mv_alloc rfl hT rfl rfl ?_; intro _) | refine mv_store hT rfl rfl rfl rfl rfl rfl sO rfl ?_ | (refine mv_buildSlice rfl hT rfl rfl rfl rfl rfl rfl rfl rfl ?_; intro _)); refine ⟨sF, ?_⟩) | refine ga_take (by decide +kernel) rfl rfl (ys_eql rfl rfl rfl rfl rfl (by kernel_rfl)) sF ?_ | refine ga_take (by decide +kernel) rfl rfl (ys_neq rfl rfl rfl rfl rfl (by kernel_rfl)) sF ?_))
    refine gk_cond rfl rfl (tells_tB _) (fun hlt => ?_) (fun hlt => ?_)
    · (repeat (refine gG ?_; try intro _))
      refine gk_ret hT rfl rfl (.tmp rfl .nil) (fun w' hk => ?_)
      exact ⟨congrArg (fun q => Ending.returned (.int .i64 q)) (key (-1) (fun _ => by unfold klt; omega) (fun h => absurd h (by decide)) (fun h => absurd h (by decide)) (by omega)), hk.toBelow⟩
    · (repeat (refine gG ?_; try intro _))
      refine gk_drawn_at [0, 1] rfl rfl (by kernel_rfl) ?_
      (repeat (first | refine ga_nil (by decide +kernel) ?_ | refine ga_take (by decide +kernel) rfl rfl (ys_ev (nw := true) hT rfl sI) sF ?_ | refine ga_skip (by decide +kernel) rfl rfl sF ?_ | refine ga_take (by decide +kernel) rfl rfl (ys_blk hT rfl rfl mE rfl rfl) sF ?_ | refine ga_take (by decide +kernel) rfl rfl (ys_row hT rfl rfl mE rfl rfl) sF ?_ | refine ga_take (by decide +kernel) rfl rfl (ys_row0 hT rfl rfl mE rfl rfl) sF ?_ | (refine ga_mv (by decide +kernel) rfl ?_; (first | (refine mv_box rfl rfl rfl rfl ?_; intro _) | (refine mv_alloc rfl hT rfl rfl ?_; intro _) | refine mv_store hT rfl rfl rfl rfl rfl rfl sO rfl ?_ | (refine mv_buildSlice rfl hT rfl rfl rfl rfl rfl rfl rfl rfl ?_; intro _)); refine ⟨sF, ?_⟩) | refine ga_take (by decide +kernel) rfl rfl (ys_eql rfl rfl rfl rfl rfl (by kernel_rfl)) sF ?_ | refine ga_take (by decide +kernel) rfl rfl (ys_neq rfl rfl rfl rfl rfl (by kernel_rfl)) sF ?_))
      refine gk_cond rfl rfl (tells_tB _) (fun hgt => ?_) (fun hgt => ?_)
      · (repeat (refine gG ?_; try intro _))
        refine gk_ret hT rfl rfl (.tmp rfl .nil) (fun w' hk => ?_)
        exact ⟨congrArg (fun q => Ending.returned (.int .i64 q)) (key 1 (fun h => absurd h (by decide)) (fun _ => by unfold klt; omega) (fun h => absurd h (by decide)) (by omega)), hk.toBelow⟩
      · (repeat (refine gG ?_; try intro _))
        refine gk_again_sel rfl 2 ⟨by omega, fun i hi => (by rcases (by omega : i = 0 ∨ i = 1) with rfl | rfl; exact (by show x.v = y.v; omega); exact (by show x.b = y.b; omega))⟩ (by omega) (by repeat (first | exact trivial | refine ⟨rfl, ?_⟩)) sA sS
  · (repeat' (first | (refine gG ?_; try intro _) | ((first | refine g_split rfl rfl tE (fun _ => ?_) (fun _ => ?_) | refine gk_cond rfl rfl tE (fun _ => ?_) (fun _ => ?_)) <;> (try first | (exfalso; omega; done) | (rename_i hx; exact absurd rfl hx) | (rename_i hx; cases hx; done)))))
    refine gk_drawn_at [0, 1] rfl rfl (by kernel_rfl) ?_
    (repeat (first | refine ga_nil (by decide +kernel) ?_ | refine ga_take (by decide +kernel) rfl rfl (ys_ev (nw := true) hT rfl sI) sF ?_ | refine ga_skip (by decide +kernel) rfl rfl sF ?_ | refine ga_take (by decide +kernel) rfl rfl (ys_blk hT rfl rfl mE rfl rfl) sF ?_ | refine ga_take (by decide +kernel) rfl rfl (ys_row hT rfl rfl mE rfl rfl) sF ?_ | refine ga_take (by decide +kernel) rfl rfl (ys_row0 hT rfl rfl mE rfl rfl) sF ?_ | (refine ga_mv (by decide +kernel) rfl ?_; (first | (refine mv_box rfl rfl rfl rfl ?_; intro _) | (refine mv_alloc rfl hT rfl rfl ?_; intro _) | refine mv_store hT rfl rfl rfl rfl rfl rfl sO rfl ?_ | (refine mv_buildSlice rfl hT rfl rfl rfl rfl rfl rfl rfl rfl ?_; intro _)); refine ⟨sF, ?_⟩) | refine ga_take (by decide +kernel) rfl rfl (ys_eql rfl rfl rfl rfl rfl (by kernel_rfl)) sF ?_ | refine ga_take (by decide +kernel) rfl rfl (ys_neq rfl rfl rfl rfl rfl (by kernel_rfl)) sF ?_))
    refine gk_cond rfl rfl (tells_tB _) (fun hlt => ?_) (fun hlt => ?_)
    · (repeat (refine gG ?_; try intro _))
      refine gk_ret hT rfl rfl (.tmp rfl .nil) (fun w' hk => ?_)
      exact ⟨congrArg (fun q => Ending.returned (.int .i64 q)) (key (-1) (fun _ => by unfold klt; omega) (fun h => absurd h (by decide)) (fun h => absurd h (by decide)) (by omega)), hk.toBelow⟩
    · (repeat (refine gG ?_; try intro _))
      refine gk_drawn_at [0, 1] rfl rfl (by kernel_rfl) ?_
      (repeat (first | refine ga_nil (by decide +kernel) ?_ | refine ga_take (by decide +kernel) rfl rfl (ys_ev (nw := true) hT rfl sI) sF ?_ | refine ga_skip (by decide +kernel) rfl rfl sF ?_ | refine ga_take (by decide +kernel) rfl rfl (ys_blk hT rfl rfl mE rfl rfl) sF ?_ | refine ga_take (by decide +kernel) rfl rfl (ys_row hT rfl rfl mE rfl rfl) sF ?_ | refine ga_take (by decide +kernel) rfl rfl (ys_row0 hT rfl rfl mE rfl rfl) sF ?_ | (refine ga_mv (by decide +kernel) rfl ?_; (first | (refine mv_box rfl rfl rfl rfl ?_; intro _) | (refine mv_alloc rfl hT rfl rfl ?_; intro _) | refine mv_store hT rfl rfl rfl rfl rfl rfl sO rfl ?_ | (refine mv_buildSlice rfl hT rfl rfl rfl rfl rfl rfl rfl rfl ?_; intro _)); refine ⟨sF, ?_⟩) | refine ga_take (by decide +kernel) rfl rfl (ys_eql rfl rfl rfl rfl rfl (by kernel_rfl)) sF ?_ | refine ga_take (by decide +kernel) rfl rfl (ys_neq rfl rfl rfl rfl rfl (by kernel_rfl)) sF ?_))
      refine gk_cond rfl rfl (tells_tB _) (fun hgt => ?_) (fun hgt => ?_)
      · (repeat (refine gG ?_; try intro _))
        refine gk_ret hT rfl rfl (.tmp rfl .nil) (fun w' hk => ?_)
        exact ⟨congrArg (fun q => Ending.returned (.int .i64 q)) (key 1 (fun h => absurd h (by decide)) (fun _ => by unfold klt; omega) (fun h => absurd h (by decide)) (by omega)), hk.toBelow⟩
      · (repeat (refine gG ?_; try intro _))
        refine gk_again_sel rfl 3 ⟨by omega, fun i hi => (by rcases (by omega : i = 0 ∨ i = 1 ∨ i = 2) with rfl | rfl | rfl; exact (by show x.v = y.v; omega); exact (by show x.b = y.b; omega); exact (by show x.s = y.s; omega))⟩ (by omega) (by repeat (first | exact trivial | refine ⟨rfl, ?_⟩)) sA sS
  · (repeat' (first | (refine gG ?_; try intro _) | ((first | refine g_split rfl rfl tE (fun _ => ?_) (fun _ => ?_) | refine gk_cond rfl rfl tE (fun _ => ?_) (fun _ => ?_)) <;> (try first | (exfalso; omega; done) | (rename_i hx; exact absurd rfl hx) | (rename_i hx; cases hx; done)))))
    refine gk_ret hT rfl rfl (.tmp rfl .nil) (fun w' hk => ?_)
    exact ⟨congrArg (fun q => Ending.returned (.int .i64 q)) (key 0 (fun h => absurd h (by decide)) (fun h => absurd h (by decide)) (fun _ => by unfold klt; omega) (by omega)), hk.toBelow⟩
theorem kcmp_le {x y : KeyD} : kcmp x y ≤ 0 ↔ ¬ klt y x := by
  unfold kcmp
  by_cases h : klt x y
  · rw [if_pos (tB_true h)]
    exact ⟨fun _ => by unfold klt at *; omega, fun _ => by decide⟩
  · rw [if_neg (by rw [tB_false h]; decide)]
    by_cases h2 : klt y x
    · rw [if_pos (tB_true h2)]; exact ⟨fun h => absurd h (by decide), fun h => absurd h2 h⟩
    · rw [if_neg (by rw [tB_false h2]; decide)]; exact ⟨fun _ => h2, fun _ => by decide⟩
end Go.Proofs.Ytmbphmckakigaaa.Wk

