/- The law's first (layer 34): what is gone through first; within, by the law's Compare (layer 04). -/
import Derived.Test.YtahfjkibononfaaWa
namespace Go.Proofs.Ytahfjkibononfaa.Gx
open Go.RowKit Mem
set_option linter.unusedVariables false
set_option linter.unusedSimpArgs false
section
variable {X : Cx} {f : Fr} {o : Oper}
theorem ys_func_nil {S : List Fact} {ty : Nat} {x y : Operand} {yt : TypeId} {fn : Fn} {a1 a2 : Array Value} {pq rq : Array TypeId} {vr : Bool} (ho : o.op = .binOp .eql ty x y yt) (hx : look X.n f x = some (.func fn a1 a2)) (hy : look X.n f y = some .nilFunc) (ht : X.P.underlying ty = some (.func pq rq vr)) : Ys X S f o (.bool false) := fun a w hr hk => by
  have hg : (eqGuard .eql ty x y (.func fn a1 a2) .nilFunc).run X.P w = .ok () w := by
    unfold eqGuard
    split <;> rfl
  have he : (Op.equal ty (.func fn a1 a2) .nilFunc).run X.P w = .ok false w := by
    show (Op.equalIn (9999 + 1) ty (.func fn a1 a2) .nilFunc).run X.P w = _
    generalize 9999 = d
    unfold Op.equalIn
    simp only [Sem.run_bind, run_underlying ht, Result.andThen_ok]
    rfl
  have h3 := bin_eql (P := X.P) w rfl he
  simp only [execOp, ho, hr.look hx, hr.look hy, Sem.run_bind, hg, Result.andThen_ok, h3]
  rfl
end
end Go.Proofs.Ytahfjkibononfaa.Gx
namespace Go.Proofs.Ytahfjkibononfaa.Wk
open Go.RowKit Mem Nd Gx Sk Tw
open Tr hiding T row
set_option linter.unusedVariables false
set_option linter.unusedSimpArgs false
set_option maxRecDepth 100000
set_option maxHeartbeats 1000000
theorem first_any (a : Option AT) (f t : KeyD) (most : Nat) (tg : Nat) (n : Int) (ys : List (Tr.T 0)) (w : World) (hl : LvO a f ys) (hu : UpTo t (rows ys)) (h9 : (rows ys).length ≤ 10000) (hB : Rd1 w (blk tg [rootV a, .int .i64 n] 63)) (hF : Rd1 w (stF a)) :
    Calls Try.prog 21 [.pointer (some ⟨tg, 0, none⟩), f.val, t.val, .int .i64 (most : Int)].toArray w (Ret (fun _ : Value => True) (fun v => v) (fun v => [own 0 29 4 v EE ((win f t (rows ys)).take most)]) w) := by
  refine g_enter0 T [] [] [blk tg [rootV a, .int .i64 n] 63, stF a] Try.func21 rfl Try.ntmps21 rfl (Rds.cons hB (.cons hF .nil)).kn ?_
  (repeat (refine gG ?_; try intro _))
  rename_i g5 g6 g7
  refine g_mv rfl ?_; refine mv_call_rt (fun w hk => range_any tg f t w) rfl rfl rfl rfl rfl (by kernel_rfl) (fun _ => rfl) (fun s _ => ?_)
  (repeat (refine gG ?_; try intro _))
  obtain ⟨ct, cf, co⟩ := s
  dsimp only
  refine g_share (φ := blk co [.int .u16 t.v, .int .u32 t.b, .int .u64 t.s] 27) (by repeat (first | with_reducible exact Sel.here | with_reducible apply Sel.there)) ?_
  refine g_share (φ := blk cf [.int .u16 f.v, .int .u32 f.b, .int .u64 f.s] 27) (by repeat (first | with_reducible exact Sel.here | with_reducible apply Sel.there)) ?_
  refine g_share (φ := blk ct [.pointer (some ⟨tg, 0, none⟩)] 42) (by repeat (first | with_reducible exact Sel.here | with_reducible apply Sel.there)) ?_
  refine g_share (φ := blk g7 [.int .i64 (most : Int)] 3) (by repeat (first | with_reducible exact Sel.here | with_reducible apply Sel.there)) ?_
  refine g_rowR (g := g7) mE ?_
  refine g_yd rfl rfl (Ys.yd (ys_func_nil rfl rfl rfl Try.underlying80)) ?_
  (repeat (refine gG ?_; try intro _))
  rename_i g10
  have hwl := win_le f t (rows ys)
  refine gk_own 0 29 4 EE ?_
  refine gk_range (σ := Value × List EntD) (σx := Value × List EntD) (α := EntD) (enc := fun e : EntD => [e.val]) (xs := win f t (rows ys)) (RA := rgR a f t tg ct cf co n) (pl := [19]) (gf := 55) (caps := [.pointer (some ⟨ct, 0, none⟩), .pointer (some ⟨cf, 0, none⟩), .pointer (some ⟨co, 0, none⟩)])
    (fun q s => s.2 = (win f t (rows ys)).take q ∧ q ≤ most) (fun s => [blk g10 [s.1] 31, own 0 29 4 s.1 EE s.2]) (fun c y => c = .exit 0 ∧ y.2 = (win f t (rows ys)).take most) (fun _ s => [blk g10 [s.1] 31, own 0 29 4 s.1 EE s.2]) (.slice none 0 0, []) [] rfl rfl (by kernel_rfl) rfl (fun _ => rfl) (fun w hk => range_iter a f t tg ct cf co n ys w hl hu (.cons (hk.rR mE) (.cons (hk.rR mE) (.cons (hk.rR mE) (.cons (hk.rR mE) (.cons (hk.rR mE) .nil)))))) sS ⟨rfl, Nat.zero_le _⟩ sA (fun L p x s w hX hRc hI hOO hOut hOX hx hi hup => ?_) (fun D s hi => ?_) (fun D c y hy => ?_)
  · skip
    obtain ⟨X', l', D, rc, Inv', OO', Out', OX'⟩ := L
    dsimp only at hX hI hOO hOut hOX
    subst hX hI hOO hOut hOX
    obtain ⟨v, M⟩ := s
    dsimp only at hi
    obtain ⟨hi1, hi2⟩ := hi
    subst hi1
    have hp := (List.getElem?_eq_some_iff.1 hx).1
    have htl : ((win f t (rows ys)).take p).length = p := by rw [List.length_take]; omega
    change GK _ _ _ [recF l' (rc .ready none), dfr D, blk g10 [v] 31, own 0 29 4 v EE ((win f t (rows ys)).take p)] _
    (repeat (refine gG ?_; try intro _))
    refine gk_begin rfl (by repeat (first | with_reducible exact Sel.here | with_reducible apply Sel.there)) (hRc.st _ _) (fun bF hbF => ?_)
    (repeat (refine gG ?_; try intro _))
    refine g_ownv v mE (fun A1 c1 hv1 hc1 hc2 _ => ?_)
    subst hv1
    rw [htl]
    by_cases hm : p = most
    · (repeat' (first | (refine gG ?_; try intro _) | ((first | refine g_split rfl rfl tE (fun _ => ?_) (fun _ => ?_) | refine gk_cond rfl rfl tE (fun _ => ?_) (fun _ => ?_)) <;> (try first | (exfalso; omega; done) | (rename_i hx; exact absurd rfl hx) | (rename_i hx; cases hx; done)))))
      refine gk_leaveX hRc (.slice A1 p c1, (win f t (rows ys)).take p) rfl ⟨rfl, by rw [hm]⟩ [blk g10 [.slice A1 p c1] 31, own 0 29 4 (.slice A1 p c1) EE ((win f t (rows ys)).take p)] rfl hbF sA
    · (repeat' (first | (refine gG ?_; try intro _) | ((first | refine g_split rfl rfl tE (fun _ => ?_) (fun _ => ?_) | refine gk_cond rfl rfl tE (fun _ => ?_) (fun _ => ?_)) <;> (try first | (exfalso; omega; done) | (rename_i hx; exact absurd rfl hx) | (rename_i hx; cases hx; done)))))
      refine g_mv rfl (mv_append (L := (win f t (rows ys)).take p) rfl [x] rfl rfl rfl rfl elt_E (by intro _; first | ((repeat (first | with_reducible exact Upd.here _ | with_reducible apply Upd.there)); done) | ((repeat (first | exact Upd.here _ | apply Upd.there)); done) | fail) (src_blk mE rfl) rfl oneE (by simp only [maxLen, List.length_cons, List.length_nil]; omega) (by simp only [List.length_cons, List.length_nil]; omega) (Nat.zero_le _) (fun v1 => ?_))
      have ht1 : (win f t (rows ys)).take p ++ [x] = (win f t (rows ys)).take (p + 1) := by
        obtain ⟨h1, h2⟩ := List.getElem?_eq_some_iff.1 hx
        rw [List.take_succ_eq_append_getElem h1, h2]
      rw [ht1]
      refine g_ownv v1 mE (fun A2 c2 hv2 _ _ _ => ?_)
      subst hv2
      (repeat (refine gG ?_; try intro _))
      refine gk_round hRc (.slice A2 ((win f t (rows ys)).take (p + 1)).length c2, (win f t (rows ys)).take (p + 1)) rfl ⟨rfl, by omega⟩ [blk g10 [.slice A2 ((win f t (rows ys)).take (p + 1)).length c2] 31, own 0 29 4 (.slice A2 ((win f t (rows ys)).take (p + 1)).length c2) EE ((win f t (rows ys)).take (p + 1))] rfl hbF sA
  · obtain ⟨v, M⟩ := s
    dsimp only at hi
    obtain ⟨hi1, hi2⟩ := hi
    rw [List.take_length, ← List.take_of_length_le hi2] at hi1
    subst hi1
    change GK _ _ _ [dfr D, blk g10 [v] 31, own 0 29 4 v EE ((win f t (rows ys)).take most)] _
    (repeat (refine gG ?_; try intro _))
    refine gk_retM hT (.cons (by repeat (first | with_reducible exact Sel.here | with_reducible apply Sel.there)) .nil) rfl rfl (.tmp rfl .nil) (fun w' hk => ?_)
    exact Ret.mk v trivial rfl hk sA
  · obtain ⟨v, M⟩ := y
    obtain ⟨rfl, hy⟩ := hy
    dsimp only at hy
    subst hy
    change GK _ _ _ [dfr D, blk g10 [v] 31, own 0 29 4 v EE ((win f t (rows ys)).take most)] _
    (repeat (refine gG ?_; try intro _))
    refine gk_retM hT (.cons (by repeat (first | with_reducible exact Sel.here | with_reducible apply Sel.there)) .nil) rfl rfl (.tmp rfl .nil) (fun w' hk => ?_)
    exact Ret.mk v trivial rfl hk sA
/-- A key's parts, by number. -/
def KeyD.at3 (x : KeyD) : Nat → Int
  | 0 => x.v
  | 1 => x.b
  | _ => x.s
theorem cmp04_any (x y : KeyD) (w : World) (hx : x.Bd) (hy : y.Bd) : Calls Try.prog 36 [x.val, y.val].toArray w fun e w' => e = .returned (.int .i64 (kcmp x y)) ∧ Below w.heap.size w w' := by
  have x1 := hx.v; have x2 := hx.b; have x3 := hx.s
  have y1 := hy.v; have y2 := hy.b; have y3 := hy.s
  refine g_enter0 T [] [] [] Try.func36 rfl Try.ntmps36 rfl (Kn.start _) ?_
  (repeat (refine gG ?_; try intro _))
  rename_i g2 g3 g5 g6
  refine gk_loop_sel (fun (j : Nat) => (j ≤ 3 ∧ ∀ i, i < j → KeyD.at3 x i = KeyD.at3 y i)) (fun (j : Nat) => [(5, .pointer (some ⟨g5, 0, none⟩)), (6, .pointer (some ⟨g6, 0, none⟩)), (7, .int .i64 j)]) (fun (j : Nat) => [blk g6 [.int .u64 y.v, .int .u64 y.b, .int .u64 y.s] 103, blk g5 [.int .u64 x.v, .int .u64 x.b, .int .u64 x.s] 103]) (fun (j : Nat) => []) (fun (j : Nat) => 3 - j) 0 rfl ⟨by omega, fun i hi => absurd hi (by omega)⟩ (by repeat (first | exact trivial | refine ⟨rfl, ?_⟩)) sA sS ?_
  rintro j hI
  replace hI : (j ≤ 3 ∧ ∀ i, i < j → KeyD.at3 x i = KeyD.at3 y i) := hI
  change GK _ _ [(5, .pointer (some ⟨g5, 0, none⟩)), (6, .pointer (some ⟨g6, 0, none⟩)), (7, .int .i64 j)] [blk g6 [.int .u64 y.v, .int .u64 y.b, .int .u64 y.s] 103, blk g5 [.int .u64 x.v, .int .u64 x.b, .int .u64 x.s] 103] []
  obtain ⟨hj, hE⟩ := hI
  have e0 := hE 0
  have e1 := hE 1
  have e2 := hE 2
  simp only [KeyD.at3] at e0 e1 e2
  have key : ∀ b : Int, (b = -1 → klt x y) → (b = 1 → klt y x) → (b = 0 → ¬ klt x y ∧ ¬ klt y x) → (b = -1 ∨ b = 1 ∨ b = 0) → b = kcmp x y := fun b h1 h2 h3 h4 => by
    have hno : klt x y → ¬ klt y x := by unfold klt; omega
    unfold kcmp
    rcases h4 with rfl | rfl | rfl
    · rw [if_pos (tB_true (h1 rfl))]
    · rw [if_neg (by rw [tB_false (fun h => hno h (h2 rfl))]; decide), if_pos (tB_true (h2 rfl))]
    · rw [if_neg (by rw [tB_false (h3 rfl).1]; decide), if_neg (by rw [tB_false (h3 rfl).2]; decide)]
  have hjj : j = 0 ∨ j = 1 ∨ j = 2 ∨ j = 3 := by omega
  rcases hjj with rfl | rfl | rfl | rfl
  · (repeat' (first | (refine gG ?_; try intro _) | ((first | refine g_split rfl rfl tE (fun _ => ?_) (fun _ => ?_) | refine gk_cond rfl rfl tE (fun _ => ?_) (fun _ => ?_)) <;> (try first | (exfalso; omega; done) | (rename_i hx; exact absurd rfl hx) | (rename_i hx; cases hx; done)))))
    refine gk_drawn_at [0, 1] rfl rfl (by kernel_rfl) ?_
    (repeat (first | refine ga_nil (by decide +kernel) ?_ | refine ga_take (by decide +kernel) rfl rfl (ys_ev (nw := true) hT rfl sI) sF ?_ | refine ga_skip (by decide +kernel) rfl rfl sF ?_ | refine ga_take (by decide +kernel) rfl rfl (ys_blk hT rfl rfl mE rfl rfl) sF ?_ | refine ga_take (by decide +kernel) rfl rfl (ys_row hT rfl rfl mE rfl rfl) sF ?_ | refine ga_take (by decide +kernel) rfl rfl (ys_row0 hT rfl rfl mE rfl rfl) sF ?_ | (refine ga_mv (by decide +kernel) rfl ?_; (first | (refine mv_box rfl rfl rfl rfl ?_; intro _) | (refine mv_alloc rfl hT rfl rfl ?_; intro _) | refine mv_store hT rfl rfl rfl rfl rfl rfl sO rfl ?_ | (refine mv_buildSlice rfl hT rfl rfl rfl rfl rfl rfl rfl rfl ?_; intro _)); refine ⟨sF, ?_⟩) | refine ga_take (by decide +kernel) rfl rfl (ys_eql rfl rfl rfl rfl rfl (by kernel_rfl)) sF ?_ | refine ga_take (by decide +kernel) rfl rfl (ys_neq rfl rfl rfl rfl rfl (by kernel_rfl)) sF ?_))
    refine gk_cond rfl rfl (tells_tB _) (fun hlt => ?_) (fun hlt => ?_)
    · (repeat (refine gG ?_; try intro _))
      refine gk_ret hT rfl rfl (.tmp rfl .nil) (fun w' hk => ?_)
      exact ⟨congrArg (fun q => Ending.returned (.int .i64 q)) (key (-1) (fun _ => by unfold klt; omega) (fun h => absurd h (by decide)) (fun h => absurd h (by decide)) (by omega)), hk.toBelow⟩
    · (repeat (refine gG ?_; try intro _))
      refine gk_drawn_at [0, 1] rfl rfl (by kernel_rfl) ?_
      (repeat (first | refine ga_nil (by decide +kernel) ?_ | refine ga_take (by decide +kernel) rfl rfl (ys_ev (nw := true) hT rfl sI) sF ?_ | refine ga_skip (by decide +kernel) rfl rfl sF ?_ | refine ga_take (by decide +kernel) rfl rfl (ys_blk hT rfl rfl mE rfl rfl) sF ?_ | refine ga_take (by decide +kernel) rfl rfl (ys_row hT rfl rfl mE rfl rfl) sF ?_ | refine ga_take (by decide +kernel) rfl rfl (ys_row0 hT rfl rfl mE rfl rfl) sF ?_ | (refine ga_mv (by decide +kernel) rfl ?_; (first | (refine mv_box rfl rfl rfl rfl ?_; intro _) | (refine mv_alloc rfl hT rfl rfl ?_; intro _) | refine mv_store hT rfl rfl rfl rfl rfl rfl sO rfl ?_ | (refine mv_buildSlice rfl hT rfl rfl rfl rfl rfl rfl rfl rfl ?_; intro _)); refine ⟨sF, ?_⟩) | refine ga_take (by decide +kernel) rfl rfl (ys_eql rfl rfl rfl rfl rfl (by kernel_rfl)) sF ?_ | refine ga_take (by decide +kernel) rfl rfl (ys_neq rfl rfl rfl rfl rfl (by kernel_rfl)) sF ?_))
      refine gk_cond rfl rfl (tells_tB _) (fun hgt => ?_) (fun hgt => ?_)
      · (repeat (refine gG ?_; try intro _))
        refine gk_ret hT rfl rfl (.tmp rfl .nil) (fun w' hk => ?_)
        exact ⟨congrArg (fun q => Ending.returned (.int .i64 q)) (key 1 (fun h => absurd h (by decide)) (fun _ => by unfold klt; omega) (fun h => absurd h (by decide)) (by omega)), hk.toBelow⟩
      · (repeat (refine gG ?_; try intro _))
        refine gk_again_sel rfl 1 ⟨by omega, fun i hi => (by obtain rfl : i = 0 := (by omega); exact (by show x.v = y.v; omega))⟩ (by omega) (by repeat (first | exact trivial | refine ⟨rfl, ?_⟩)) sA sS
  · (repeat' (first | (refine gG ?_; try intro _) | ((first | refine g_split rfl rfl tE (fun _ => ?_) (fun _ => ?_) | refine gk_cond rfl rfl tE (fun _ => ?_) (fun _ => ?_)) <;> (try first | (exfalso; omega; done) | (rename_i hx; exact absurd rfl hx) | (rename_i hx; cases hx; done)))))
    refine gk_drawn_at [0, 1] rfl rfl (by kernel_rfl) ?_
    (repeat (first | refine ga_nil (by decide +kernel) ?_ | refine ga_take (by decide +kernel) rfl rfl (ys_ev (nw := true) hT rfl sI) sF ?_ | refine ga_skip (by decide +kernel) rfl rfl sF ?_ | refine ga_take (by decide +kernel) rfl rfl (ys_blk hT rfl rfl mE rfl rfl) sF ?_ | refine ga_take (by decide +kernel) rfl rfl (ys_row hT rfl rfl mE rfl rfl) sF ?_ | refine ga_take (by decide +kernel) rfl rfl (ys_row0 hT rfl rfl mE rfl rfl) sF ?_ | (refine ga_mv (by decide +kernel) rfl ?_; (first | (refine mv_box rfl rfl rfl rfl ?_; intro _) | (refine mv_alloc rfl hT rfl rfl ?_; intro _) | refine mv_store hT rfl rfl rfl rfl rfl rfl sO rfl ?_ | (refine mv_buildSlice rfl hT rfl rfl rfl rfl rfl rfl rfl rfl ?_; intro _)); refine ⟨sF, ?_⟩) | refine ga_take (by decide +kernel) rfl rfl (ys_eql rfl rfl rfl rfl rfl (by kernel_rfl)) sF ?_ | refine ga_take (by decide +kernel) rfl rfl (ys_neq rfl rfl rfl rfl rfl (by kernel_rfl)) sF ?_))
    refine gk_cond rfl rfl (tells_tB _) (fun hlt => ?_) (fun hlt => ?_)
    · (repeat (refine gG ?_; try intro _))
      refine gk_ret hT rfl rfl (.tmp rfl .nil) (fun w' hk => ?_)
      exact ⟨congrArg (fun q => Ending.returned (.int .i64 q)) (key (-1) (fun _ => by unfold klt; omega) (fun h => absurd h (by decide)) (fun h => absurd h (by decide)) (by omega)), hk.toBelow⟩
    · (repeat (refine gG ?_; try intro _))
      refine gk_drawn_at [0, 1] rfl rfl (by kernel_rfl) ?_
      (repeat (first | refine ga_nil (by decide +kernel) ?_ | refine ga_take (by decide +kernel) rfl rfl (ys_ev (nw := true) hT rfl sI) sF ?_ | refine ga_skip (by decide +kernel) rfl rfl sF ?_ | refine ga_take (by decide +kernel) rfl rfl (ys_blk hT rfl rfl mE rfl rfl) sF ?_ | refine ga_take (by decide +kernel) rfl rfl (ys_row hT rfl rfl mE rfl rfl) sF ?_ | refine ga_take (by decide +kernel) rfl rfl (ys_row0 hT rfl rfl mE rfl rfl) sF ?_ | (refine ga_mv (by decide +kernel) rfl ?_; (first | (refine mv_box rfl rfl rfl rfl ?_; intro _) | (refine mv_alloc rfl hT rfl rfl ?_; intro _) | refine mv_store hT rfl rfl rfl rfl rfl rfl sO rfl ?_ | (refine mv_buildSlice rfl hT rfl rfl rfl rfl rfl rfl rfl rfl ?_; intro _)); refine ⟨sF, ?_⟩) | refine ga_take (by decide +kernel) rfl rfl (ys_eql rfl rfl rfl rfl rfl (by kernel_rfl)) sF ?_ | refine ga_take (by decide +kernel) rfl rfl (ys_neq rfl rfl rfl rfl rfl (by kernel_rfl)) sF ?_))
      refine gk_cond rfl rfl (tells_tB _) (fun hgt => ?_) (fun hgt => ?_)
      · (repeat (refine gG ?_; try intro _))
        refine gk_ret hT rfl rfl (.tmp rfl .nil) (fun w' hk => ?_)
        exact ⟨congrArg (fun q => Ending.returned (.int .i64 q)) (key 1 (fun h => absurd h (by decide)) (fun _ => by unfold klt; omega) (fun h => absurd h (by decide)) (by omega)), hk.toBelow⟩
      · (repeat (refine gG ?_; try intro _))
        refine gk_again_sel rfl 2 ⟨by omega, fun i hi => (by rcases (by omega : i = 0 ∨ i = 1) with rfl | rfl; exact (by show x.v = y.v; omega); exact (by show x.b = y.b; omega))⟩ (by omega) (by repeat (first | exact trivial | refine ⟨rfl, ?_⟩)) sA sS
  · (repeat' (first | (refine gG ?_; try intro _) | ((first | refine g_split rfl rfl tE (fun _ => ?_) (fun _ => ?_) | refine gk_cond rfl rfl tE (fun _ => ?_) (fun _ => ?_)) <;> (try first | (exfalso; omega; done) | (rename_i hx; exact absurd rfl hx) | (rename_i hx; cases hx; done)))))
    refine gk_drawn_at [0, 1] rfl rfl (by kernel_rfl) ?_
    (repeat (first | refine ga_nil (by decide +kernel) ?_ | refine ga_take (by decide +kernel) rfl rfl (ys_ev (nw := true) hT rfl sI) sF ?_ | refine ga_skip (by decide +kernel) rfl rfl sF ?_ | refine ga_take (by decide +kernel) rfl rfl (ys_blk hT rfl rfl mE rfl rfl) sF ?_ | refine ga_take (by decide +kernel) rfl rfl (ys_row hT rfl rfl mE rfl rfl) sF ?_ | refine ga_take (by decide +kernel) rfl rfl (ys_row0 hT rfl rfl mE rfl rfl) sF ?_ | (refine ga_mv (by decide +kernel) rfl ?_; (first | (refine mv_box rfl rfl rfl rfl ?_; intro _) | (refine mv_alloc rfl hT rfl rfl ?_; intro _) | refine mv_store hT rfl rfl rfl rfl rfl rfl sO rfl ?_ | (refine mv_buildSlice rfl hT rfl rfl rfl rfl rfl rfl rfl rfl ?_; intro _)); refine ⟨sF, ?_⟩) | refine ga_take (by decide +kernel) rfl rfl (ys_eql rfl rfl rfl rfl rfl (by kernel_rfl)) sF ?_ | refine ga_take (by decide +kernel) rfl rfl (ys_neq rfl rfl rfl rfl rfl (by kernel_rfl)) sF ?_))
    refine gk_cond rfl rfl (tells_tB _) (fun hlt => ?_) (fun hlt => ?_)
    · (repeat (refine gG ?_; try intro _))
      refine gk_ret hT rfl rfl (.tmp rfl .nil) (fun w' hk => ?_)
      exact ⟨congrArg (fun q => Ending.returned (.int .i64 q)) (key (-1) (fun _ => by unfold klt; omega) (fun h => absurd h (by decide)) (fun h => absurd h (by decide)) (by omega)), hk.toBelow⟩
    · (repeat (refine gG ?_; try intro _))
      refine gk_drawn_at [0, 1] rfl rfl (by kernel_rfl) ?_
      (repeat (first | refine ga_nil (by decide +kernel) ?_ | refine ga_take (by decide +kernel) rfl rfl (ys_ev (nw := true) hT rfl sI) sF ?_ | refine ga_skip (by decide +kernel) rfl rfl sF ?_ | refine ga_take (by decide +kernel) rfl rfl (ys_blk hT rfl rfl mE rfl rfl) sF ?_ | refine ga_take (by decide +kernel) rfl rfl (ys_row hT rfl rfl mE rfl rfl) sF ?_ | refine ga_take (by decide +kernel) rfl rfl (ys_row0 hT rfl rfl mE rfl rfl) sF ?_ | (refine ga_mv (by decide +kernel) rfl ?_; (first | (refine mv_box rfl rfl rfl rfl ?_; intro _) | (refine mv_alloc rfl hT rfl rfl ?_; intro _) | refine mv_store hT rfl rfl rfl rfl rfl rfl sO rfl ?_ | (refine mv_buildSlice rfl hT rfl rfl rfl rfl rfl rfl rfl rfl ?_; intro _)); refine ⟨sF, ?_⟩) | refine ga_take (by decide +kernel) rfl rfl (ys_eql rfl rfl rfl rfl rfl (by kernel_rfl)) sF ?_ | refine ga_take (by decide +kernel) rfl rfl (ys_neq rfl rfl rfl rfl rfl (by kernel_rfl)) sF ?_))
      refine gk_cond rfl rfl (tells_tB _) (fun hgt => ?_) (fun hgt => ?_)
      · (repeat (refine gG ?_; try intro _))
        refine gk_ret hT rfl rfl (.tmp rfl .nil) (fun w' hk => ?_)
        exact ⟨congrArg (fun q => Ending.returned (.int .i64 q)) (key 1 (fun h => absurd h (by decide)) (fun _ => by unfold klt; omega) (fun h => absurd h (by decide)) (by omega)), hk.toBelow⟩
      · (repeat (refine gG ?_; try intro _))
        refine gk_again_sel rfl 3 ⟨by omega, fun i hi => (by rcases (by omega : i = 0 ∨ i = 1 ∨ i = 2) with rfl | rfl | rfl; exact (by show x.v = y.v; omega); exact (by show x.b = y.b; omega); exact (by show x.s = y.s; omega))⟩ (by omega) (by repeat (first | exact trivial | refine ⟨rfl, ?_⟩)) sA sS
  · (repeat' (first | (refine gG ?_; try intro _) | ((first | refine g_split rfl rfl tE (fun _ => ?_) (fun _ => ?_) | refine gk_cond rfl rfl tE (fun _ => ?_) (fun _ => ?_)) <;> (try first | (exfalso; omega; done) | (rename_i hx; exact absurd rfl hx) | (rename_i hx; cases hx; done)))))
    refine gk_ret hT rfl rfl (.tmp rfl .nil) (fun w' hk => ?_)
    exact ⟨congrArg (fun q => Ending.returned (.int .i64 q)) (key 0 (fun h => absurd h (by decide)) (fun h => absurd h (by decide)) (fun _ => by unfold klt; omega) (by omega)), hk.toBelow⟩
theorem kcmp_le {x y : KeyD} : kcmp x y ≤ 0 ↔ ¬ klt y x := by
  unfold kcmp
  by_cases h : klt x y
  · rw [if_pos (tB_true h)]
    exact ⟨fun _ => by unfold klt at *; omega, fun _ => by decide⟩
  · rw [if_neg (by rw [tB_false h]; decide)]
    by_cases h2 : klt y x
    · rw [if_pos (tB_true h2)]; exact ⟨fun h => absurd h (by decide), fun h => absurd h2 h⟩
    · rw [if_neg (by rw [tB_false h2]; decide)]; exact ⟨fun _ => h2, fun _ => by decide⟩
theorem within_any (A : Option Addr) (n c : Nat) (L : List EntD) (f t : KeyD) (w : World) (hn : n = L.length) (h9 : n ≤ 10000) (hf : f.Bd) (ht : t.Bd) (hL : ∀ e ∈ L, e.k.Bd) (hs : Rd1 w (sl A 4 EE L)) :
    Calls Try.prog 20 [.slice A n c, f.val, t.val].toArray w (Ret (fun _ : Value => True) (fun v => v) (fun v => [own 0 29 4 v EE (win f t L)]) w) := by
  refine g_enter0 T [] [] [sl A 4 EE L] Try.func20 rfl Try.ntmps20 rfl (Rds.cons hs .nil).kn ?_
  (repeat (refine gG ?_; try intro _))
  rename_i g4 g5
  refine gk_own 0 29 4 EE ?_
  refine gk_loop_sel (fun (q : Value × Nat) => match q with | (v, i) => (i ≤ n)) (fun (q : Value × Nat) => match q with | (v, i) => [(0, .slice A n c), (4, .pointer (some ⟨g4, 0, none⟩)), (5, .pointer (some ⟨g5, 0, none⟩)), (7, v), (8, .int .i64 i)]) (fun (q : Value × Nat) => match q with | (v, i) => [own 0 29 4 v EE (win f t (L.take i)), blk g5 [.int .u16 t.v, .int .u32 t.b, .int .u64 t.s] 27, blk g4 [.int .u16 f.v, .int .u32 f.b, .int .u64 f.s] 27]) (fun (q : Value × Nat) => match q with | (v, i) => [sl A 4 EE L]) (fun (q : Value × Nat) => match q with | (v, i) => n - i) (.slice none 0 0, 0) rfl (Nat.zero_le _) (by repeat (first | exact trivial | refine ⟨rfl, ?_⟩)) sA sS ?_
  rintro ⟨v, i⟩ hI
  replace hI : (i ≤ n) := hI
  change GK _ _ [(0, .slice A n c), (4, .pointer (some ⟨g4, 0, none⟩)), (5, .pointer (some ⟨g5, 0, none⟩)), (7, v), (8, .int .i64 i)] [own 0 29 4 v EE (win f t (L.take i)), blk g5 [.int .u16 t.v, .int .u32 t.b, .int .u64 t.s] 27, blk g4 [.int .u16 f.v, .int .u32 f.b, .int .u64 f.s] 27] [sl A 4 EE L]
  have htl := win_le f t (L.take i)
  rw [List.length_take] at htl
  by_cases hlt : i < n
  · obtain ⟨e, he⟩ : ∃ e, L[i]? = some e := ⟨L[i], List.getElem?_eq_getElem (by omega)⟩
    have hbd := hL e (List.mem_of_getElem? he)
    have ht1 : win f t (L.take (i + 1)) = win f t (L.take i) ++ win f t [e] := by
      obtain ⟨h1, h2⟩ := List.getElem?_eq_some_iff.1 he
      rw [List.take_succ_eq_append_getElem h1, h2, win_app]
    refine gk_elem (enc := EE) (L := L) i mE (by omega) (by decide) (fun b1 o1 y1 eA hy1 => ?_)
    subst eA
    obtain rfl : e = y1 := by rw [he] at hy1; exact Option.some.inj hy1
    (repeat' (first | (refine gG ?_; try intro _) | ((first | refine g_split rfl rfl tE (fun _ => ?_) (fun _ => ?_) | refine gk_cond rfl rfl tE (fun _ => ?_) (fun _ => ?_)) <;> (try first | (exfalso; omega; done) | (rename_i hx; exact absurd rfl hx) | (rename_i hx; cases hx; done)))))
    by_cases h1 : klt e.k f
    · refine gk_any [1, 2, 3] (Cut _ (fun _ : Unit => [(0, .slice (some ⟨b1, o1, none⟩) n c), (4, .pointer (some ⟨g4, 0, none⟩)), (5, .pointer (some ⟨g5, 0, none⟩)), (7, v), (8, .int .i64 i), (32, .bool false)]) (fun _ => [own 0 29 4 v EE (win f t (L.take i)), blk g5 [.int .u16 t.v, .int .u32 t.b, .int .u64 t.s] 27, blk g4 [.int .u16 f.v, .int .u32 f.b, .int .u64 f.s] 27]) (fun _ => [sl (some ⟨b1, o1, none⟩) 4 EE L])) rfl rfl (by kernel_rfl) ?_ (cut_k fun _ => ?_)
      · skip
        refine gb_take 0 rfl (by decide +kernel) rfl rfl (by first | exact ys_blk hT rfl rfl mE rfl rfl | exact ys_row hT rfl rfl mE rfl rfl | exact ys_row0 hT rfl rfl mE rfl rfl) sF ?_
        refine gb_take 1 rfl (by decide +kernel) rfl rfl (ys_ev (nw := true) hT rfl sI) sF ?_
        refine gb_take 2 rfl (by decide +kernel) rfl rfl (ys_ev (nw := true) hT rfl sI) sF ?_
        refine gb_take 3 rfl (by decide +kernel) rfl rfl (ys_ev (nw := true) hT rfl sI) sF ?_
        refine gb_take 4 rfl (by decide +kernel) rfl rfl (ys_ev (nw := true) hT rfl sI) sF ?_
        refine gb_take 5 rfl (by decide +kernel) rfl rfl (by first | exact ys_blk hT rfl rfl mE rfl rfl | exact ys_row hT rfl rfl mE rfl rfl | exact ys_row0 hT rfl rfl mE rfl rfl) sF ?_
        refine gb_only 6 (by decide +kernel) rfl rfl ?_
        refine mv_call_bel (fun w hk => cmp04_any f e.k w hf hbd) rfl rfl rfl rfl rfl (by kernel_rfl) ?_
        refine ⟨sF, ?_⟩
        refine gb_take 7 rfl (by decide +kernel) rfl rfl (ys_ev (nw := true) hT rfl sI) sF ?_
        try (refine gb_say 22 (.bool false) rfl (congrArg Value.bool (tB_false (fun h => absurd h1 (kcmp_le.1 h)))) ?_)
        refine gb_take 8 rfl (by decide +kernel) rfl rfl (ys_ev (nw := true) hT rfl sI) sF ?_
        first | refine gb_take 9 rfl (by decide +kernel) rfl rfl (ys_ev (nw := true) hT rfl sI) sF ?_ | refine gb_skip 9 rfl (by decide +kernel) rfl rfl sF ?_
        first | refine gb_take 10 rfl (by decide +kernel) rfl rfl (ys_ev (nw := true) hT rfl sI) sF ?_ | refine gb_skip 10 rfl (by decide +kernel) rfl rfl sF ?_
        first | refine gb_take 11 rfl (by decide +kernel) rfl rfl (ys_ev (nw := true) hT rfl sI) sF ?_ | refine gb_skip 11 rfl (by decide +kernel) rfl rfl sF ?_
        first | refine gb_take 12 rfl (by decide +kernel) rfl rfl (ys_ev (nw := true) hT rfl sI) sF ?_ | refine gb_skip 12 rfl (by decide +kernel) rfl rfl sF ?_
        first | refine gb_take 13 rfl (by decide +kernel) rfl rfl (by first | exact ys_blk hT rfl rfl mE rfl rfl | exact ys_row hT rfl rfl mE rfl rfl | exact ys_row0 hT rfl rfl mE rfl rfl) sF ?_ | refine gb_skip 13 rfl (by decide +kernel) rfl rfl sF ?_
        first | refine gb_take 14 rfl (by decide +kernel) rfl rfl (by first | exact ys_blk hT rfl rfl mE rfl rfl | exact ys_row hT rfl rfl mE rfl rfl | exact ys_row0 hT rfl rfl mE rfl rfl) sF ?_ | refine gb_skip 14 rfl (by decide +kernel) rfl rfl sF ?_
        first | refine gb_skip 15 rfl (by decide +kernel) rfl rfl sF ?_ | (refine gb_only 15 (by decide +kernel) rfl rfl ?_; (first | (refine mv_box rfl rfl rfl rfl ?_; intro _) | (refine mv_alloc rfl hT rfl rfl ?_; intro _) | refine mv_store hT rfl rfl rfl rfl rfl rfl sO rfl ?_ | (refine mv_buildSlice rfl hT rfl rfl rfl rfl rfl rfl rfl rfl ?_; intro _)); refine ⟨sF, ?_⟩)
        first | refine gb_take 16 rfl (by decide +kernel) rfl rfl (ys_ev (nw := true) hT rfl sI) sF ?_ | refine gb_skip 16 rfl (by decide +kernel) rfl rfl sF ?_
        refine gb_take 17 rfl (by decide +kernel) rfl rfl (ys_ev (nw := true) hT rfl sI) sF ?_
        refine gb_nil (by decide +kernel) ?_
        exact ⟨(), (by repeat (first | exact trivial | refine ⟨rfl, ?_⟩)), sA, sS⟩
      · rw [show win f t (L.take i) = win f t (L.take (i + 1)) by rw [ht1, win_none (.inl h1), List.append_nil]]
        (repeat (refine gG ?_; try intro _))
        refine gk_again_sel rfl (v, i + 1) (by show i + 1 ≤ n; omega) (by dsimp only; omega) (by repeat (first | exact trivial | refine ⟨rfl, ?_⟩)) sA sS
    · by_cases h2 : klt t e.k
      · refine gk_any [1, 2, 3] (Cut _ (fun _ : Unit => [(0, .slice (some ⟨b1, o1, none⟩) n c), (4, .pointer (some ⟨g4, 0, none⟩)), (5, .pointer (some ⟨g5, 0, none⟩)), (7, v), (8, .int .i64 i), (32, .bool false)]) (fun _ => [own 0 29 4 v EE (win f t (L.take i)), blk g5 [.int .u16 t.v, .int .u32 t.b, .int .u64 t.s] 27, blk g4 [.int .u16 f.v, .int .u32 f.b, .int .u64 f.s] 27]) (fun _ => [sl (some ⟨b1, o1, none⟩) 4 EE L])) rfl rfl (by kernel_rfl) ?_ (cut_k fun _ => ?_)
        · skip
          refine gb_take 0 rfl (by decide +kernel) rfl rfl (by first | exact ys_blk hT rfl rfl mE rfl rfl | exact ys_row hT rfl rfl mE rfl rfl | exact ys_row0 hT rfl rfl mE rfl rfl) sF ?_
          refine gb_take 1 rfl (by decide +kernel) rfl rfl (ys_ev (nw := true) hT rfl sI) sF ?_
          refine gb_take 2 rfl (by decide +kernel) rfl rfl (ys_ev (nw := true) hT rfl sI) sF ?_
          refine gb_take 3 rfl (by decide +kernel) rfl rfl (ys_ev (nw := true) hT rfl sI) sF ?_
          refine gb_take 4 rfl (by decide +kernel) rfl rfl (ys_ev (nw := true) hT rfl sI) sF ?_
          refine gb_take 5 rfl (by decide +kernel) rfl rfl (by first | exact ys_blk hT rfl rfl mE rfl rfl | exact ys_row hT rfl rfl mE rfl rfl | exact ys_row0 hT rfl rfl mE rfl rfl) sF ?_
          refine gb_only 6 (by decide +kernel) rfl rfl ?_
          refine mv_call_bel (fun w hk => cmp04_any f e.k w hf hbd) rfl rfl rfl rfl rfl (by kernel_rfl) ?_
          refine ⟨sF, ?_⟩
          refine gb_take 7 rfl (by decide +kernel) rfl rfl (ys_ev (nw := true) hT rfl sI) sF ?_
          try (refine gb_say 22 (.bool true) rfl (congrArg Value.bool (tB_true (kcmp_le.2 h1))) ?_)
          refine gb_take 8 rfl (by decide +kernel) rfl rfl (ys_ev (nw := true) hT rfl sI) sF ?_
          first | refine gb_take 9 rfl (by decide +kernel) rfl rfl (ys_ev (nw := true) hT rfl sI) sF ?_ | refine gb_skip 9 rfl (by decide +kernel) rfl rfl sF ?_
          first | refine gb_take 10 rfl (by decide +kernel) rfl rfl (ys_ev (nw := true) hT rfl sI) sF ?_ | refine gb_skip 10 rfl (by decide +kernel) rfl rfl sF ?_
          first | refine gb_take 11 rfl (by decide +kernel) rfl rfl (ys_ev (nw := true) hT rfl sI) sF ?_ | refine gb_skip 11 rfl (by decide +kernel) rfl rfl sF ?_
          first | refine gb_take 12 rfl (by decide +kernel) rfl rfl (ys_ev (nw := true) hT rfl sI) sF ?_ | refine gb_skip 12 rfl (by decide +kernel) rfl rfl sF ?_
          first | refine gb_take 13 rfl (by decide +kernel) rfl rfl (by first | exact ys_blk hT rfl rfl mE rfl rfl | exact ys_row hT rfl rfl mE rfl rfl | exact ys_row0 hT rfl rfl mE rfl rfl) sF ?_ | refine gb_skip 13 rfl (by decide +kernel) rfl rfl sF ?_
          first | refine gb_take 14 rfl (by decide +kernel) rfl rfl (by first | exact ys_blk hT rfl rfl mE rfl rfl | exact ys_row hT rfl rfl mE rfl rfl | exact ys_row0 hT rfl rfl mE rfl rfl) sF ?_ | refine gb_skip 14 rfl (by decide +kernel) rfl rfl sF ?_
          first | refine gb_skip 15 rfl (by decide +kernel) rfl rfl sF ?_ | (refine gb_only 15 (by decide +kernel) rfl rfl ?_; (refine mv_call_bel (fun w hk => cmp04_any e.k t w hbd ht) rfl rfl rfl rfl rfl (by kernel_rfl) ?_); refine ⟨sF, ?_⟩)
          first | refine gb_take 16 rfl (by decide +kernel) rfl rfl (ys_ev (nw := true) hT rfl sI) sF ?_ | refine gb_skip 16 rfl (by decide +kernel) rfl rfl sF ?_
          try (refine gb_say 31 (.bool false) rfl (congrArg Value.bool (tB_false (fun h => absurd h2 (kcmp_le.1 h)))) ?_)
          refine gb_take 17 rfl (by decide +kernel) rfl rfl (ys_ev (nw := true) hT rfl sI) sF ?_
          refine gb_nil (by decide +kernel) ?_
          exact ⟨(), (by repeat (first | exact trivial | refine ⟨rfl, ?_⟩)), sA, sS⟩
        · rw [show win f t (L.take i) = win f t (L.take (i + 1)) by rw [ht1, win_none (.inr h2), List.append_nil]]
          (repeat (refine gG ?_; try intro _))
          refine gk_again_sel rfl (v, i + 1) (by show i + 1 ≤ n; omega) (by dsimp only; omega) (by repeat (first | exact trivial | refine ⟨rfl, ?_⟩)) sA sS
      · refine gk_any [1, 2, 3] (Cut _ (fun _ : Unit => [(0, .slice (some ⟨b1, o1, none⟩) n c), (4, .pointer (some ⟨g4, 0, none⟩)), (5, .pointer (some ⟨g5, 0, none⟩)), (7, v), (8, .int .i64 i), (32, .bool true)]) (fun _ => [own 0 29 4 v EE (win f t (L.take i)), blk g5 [.int .u16 t.v, .int .u32 t.b, .int .u64 t.s] 27, blk g4 [.int .u16 f.v, .int .u32 f.b, .int .u64 f.s] 27]) (fun _ => [row b1 (o1 + i * 4) (encF EE e 0 4), sl (some ⟨b1, o1, none⟩) 4 EE L])) rfl rfl (by kernel_rfl) ?_ (cut_k fun _ => ?_)
        · skip
          refine gb_take 0 rfl (by decide +kernel) rfl rfl (by first | exact ys_blk hT rfl rfl mE rfl rfl | exact ys_row hT rfl rfl mE rfl rfl | exact ys_row0 hT rfl rfl mE rfl rfl) sF ?_
          refine gb_take 1 rfl (by decide +kernel) rfl rfl (ys_ev (nw := true) hT rfl sI) sF ?_
          refine gb_take 2 rfl (by decide +kernel) rfl rfl (ys_ev (nw := true) hT rfl sI) sF ?_
          refine gb_take 3 rfl (by decide +kernel) rfl rfl (ys_ev (nw := true) hT rfl sI) sF ?_
          refine gb_take 4 rfl (by decide +kernel) rfl rfl (ys_ev (nw := true) hT rfl sI) sF ?_
          refine gb_take 5 rfl (by decide +kernel) rfl rfl (by first | exact ys_blk hT rfl rfl mE rfl rfl | exact ys_row hT rfl rfl mE rfl rfl | exact ys_row0 hT rfl rfl mE rfl rfl) sF ?_
          refine gb_only 6 (by decide +kernel) rfl rfl ?_
          refine mv_call_bel (fun w hk => cmp04_any f e.k w hf hbd) rfl rfl rfl rfl rfl (by kernel_rfl) ?_
          refine ⟨sF, ?_⟩
          refine gb_take 7 rfl (by decide +kernel) rfl rfl (ys_ev (nw := true) hT rfl sI) sF ?_
          try (refine gb_say 22 (.bool true) rfl (congrArg Value.bool (tB_true (kcmp_le.2 h1))) ?_)
          refine gb_take 8 rfl (by decide +kernel) rfl rfl (ys_ev (nw := true) hT rfl sI) sF ?_
          first | refine gb_take 9 rfl (by decide +kernel) rfl rfl (ys_ev (nw := true) hT rfl sI) sF ?_ | refine gb_skip 9 rfl (by decide +kernel) rfl rfl sF ?_
          first | refine gb_take 10 rfl (by decide +kernel) rfl rfl (ys_ev (nw := true) hT rfl sI) sF ?_ | refine gb_skip 10 rfl (by decide +kernel) rfl rfl sF ?_
          first | refine gb_take 11 rfl (by decide +kernel) rfl rfl (ys_ev (nw := true) hT rfl sI) sF ?_ | refine gb_skip 11 rfl (by decide +kernel) rfl rfl sF ?_
          first | refine gb_take 12 rfl (by decide +kernel) rfl rfl (ys_ev (nw := true) hT rfl sI) sF ?_ | refine gb_skip 12 rfl (by decide +kernel) rfl rfl sF ?_
          first | refine gb_take 13 rfl (by decide +kernel) rfl rfl (by first | exact ys_blk hT rfl rfl mE rfl rfl | exact ys_row hT rfl rfl mE rfl rfl | exact ys_row0 hT rfl rfl mE rfl rfl) sF ?_ | refine gb_skip 13 rfl (by decide +kernel) rfl rfl sF ?_
          first | refine gb_take 14 rfl (by decide +kernel) rfl rfl (by first | exact ys_blk hT rfl rfl mE rfl rfl | exact ys_row hT rfl rfl mE rfl rfl | exact ys_row0 hT rfl rfl mE rfl rfl) sF ?_ | refine gb_skip 14 rfl (by decide +kernel) rfl rfl sF ?_
          first | refine gb_skip 15 rfl (by decide +kernel) rfl rfl sF ?_ | (refine gb_only 15 (by decide +kernel) rfl rfl ?_; (refine mv_call_bel (fun w hk => cmp04_any e.k t w hbd ht) rfl rfl rfl rfl rfl (by kernel_rfl) ?_); refine ⟨sF, ?_⟩)
          first | refine gb_take 16 rfl (by decide +kernel) rfl rfl (ys_ev (nw := true) hT rfl sI) sF ?_ | refine gb_skip 16 rfl (by decide +kernel) rfl rfl sF ?_
          try (refine gb_say 31 (.bool true) rfl (congrArg Value.bool (tB_true (kcmp_le.2 h2))) ?_)
          refine gb_take 17 rfl (by decide +kernel) rfl rfl (ys_ev (nw := true) hT rfl sI) sF ?_
          refine gb_nil (by decide +kernel) ?_
          exact ⟨(), (by repeat (first | exact trivial | refine ⟨rfl, ?_⟩)), sA, sS⟩
        · (repeat (refine gG ?_; try intro _))
          refine g_mv rfl (mv_append (L := win f t (L.take i)) rfl [e] rfl rfl rfl rfl elt_E (by intro _; first | ((repeat (first | with_reducible exact Upd.here _ | with_reducible apply Upd.there)); done) | ((repeat (first | exact Upd.here _ | apply Upd.there)); done) | fail) (src_blk mE rfl) rfl oneE (by simp only [maxLen, List.length_cons, List.length_nil]; omega) (by simp only [List.length_cons, List.length_nil]; omega) (Nat.zero_le _) (fun v1 => ?_))
          have ht2 : win f t (L.take i) ++ [e] = win f t (L.take (i + 1)) := by rw [ht1, win_one h1 h2]
          rw [ht2]
          (repeat (refine gG ?_; try intro _))
          refine gk_again_sel rfl (v1, i + 1) (by show i + 1 ≤ n; omega) (by dsimp only; omega) (by repeat (first | exact trivial | refine ⟨rfl, ?_⟩)) sA sS
  · have hin : i = L.length := by
      have : i ≤ n := hI
      omega
    (repeat' (first | (refine gG ?_; try intro _) | ((first | refine g_split rfl rfl tE (fun _ => ?_) (fun _ => ?_) | refine gk_cond rfl rfl tE (fun _ => ?_) (fun _ => ?_)) <;> (try first | (exfalso; omega; done) | (rename_i hx; exact absurd rfl hx) | (rename_i hx; cases hx; done)))))
    rw [hin, List.take_length]
    refine gk_ret hT rfl rfl (.tmp rfl .nil) (fun w' hk => ?_)
    exact Ret.mk v trivial rfl hk sA
end Go.Proofs.Ytahfjkibononfaa.Wk

