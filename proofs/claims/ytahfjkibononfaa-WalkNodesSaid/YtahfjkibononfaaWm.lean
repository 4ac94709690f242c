/- The law's made (layer 34): a tree, and a row, of calls; calls as arguments, with what their keys are within; alive. -/
import Derived.Test.YtahfjkibononfaaWb
import Derived.Test.YtahfjkibononfaaTl
namespace Go.Proofs.Ytahfjkibononfaa.Wk
open Go.RowKit Mem Nd Gx Sk Tw
open Go.ChangeShapes Go.WideShapes Go.Deep
open Tr hiding T row
set_option linter.unusedVariables false
set_option linter.unusedSimpArgs false
set_option maxRecDepth 100000
set_option maxHeartbeats 1000000
theorem bd16 {x : Int} (h : (Lit.int .u16 x).wf = true) : 0 ≤ x ∧ x < 65536 := by
  simp [Lit.wf, IntKind.min, IntKind.max, IntKind.signed, IntKind.bits] at h; omega
theorem bd32 {x : Int} (h : (Lit.int .u32 x).wf = true) : 0 ≤ x ∧ x < 4294967296 := by
  simp [Lit.wf, IntKind.min, IntKind.max, IntKind.signed, IntKind.bits] at h; omega
theorem bd64 {x : Int} (h : (Lit.int .u64 x).wf = true) : 0 ≤ x ∧ x < 18446744073709551616 := by
  simp [Lit.wf, IntKind.min, IntKind.max, IntKind.signed, IntKind.bits] at h; omega
theorem op_leavesB {H : Type} {enc : TypeId × Value → H} {W : World} {V : Nat → Value} {l : List TypeId} (hl : l = [4, 23, 24, 25, 24]) (hV : ∀ (j : Nat) (tj : TypeId), l[j]? = some tj → Leaf enc Try.prog W tj (V j)) :
    ∃ y : OpD, (∀ j, j < 5 → V j = CE y j) ∧ y.e.k.Bd := by
  subst hl
  obtain ⟨b, e⟩ := leaf_bool Try.underlying4 (hV 0 _ rfl)
  obtain ⟨a0, e0, w0⟩ := leaf_int Try.underlying23 (hV 1 _ rfl)
  obtain ⟨a1, e1, w1⟩ := leaf_int Try.underlying24 (hV 2 _ rfl)
  obtain ⟨a2, e2, w2⟩ := leaf_int Try.underlying25 (hV 3 _ rfl)
  obtain ⟨a3, e3, w3⟩ := leaf_int Try.underlying24 (hV 4 _ rfl)
  refine ⟨⟨b, ⟨⟨a0, a1, a2⟩, a3⟩⟩, fun j hj => ?_, ⟨bd16 w0, bd32 w1, bd64 w2⟩⟩
  match j, hj with
  | 0, _ => exact e
  | 1, _ => exact e0
  | 2, _ => exact e1
  | 3, _ => exact e2
  | 4, _ => exact e3
theorem opsB_of {H : Type} {enc : TypeId × Value → H} {W : World} {base : Nat} {v : Value} {d : DataW H} {p : List MemPlace} (hv : Value.okWide Try.prog W .any base 47 v) (h : DataW.Trod enc Try.prog W 0 (fun _ => true) true 47 v d p) :
    ∃ (A : Option Addr) (n c : Nat) (L : List OpD), v = .slice A n c ∧ ((SlV.mk A n c).Ok L.length ∧ Sl W A 5 CE L ∧ ∀ o ∈ L, o.e.k.Bd) := by
  have hl : leaves Try.prog 8 65 = some [4, 23, 24, 25, 24] := by decide +kernel
  obtain ⟨A, n, c, F, rfl, hA, h1, h2, h3, h4⟩ := open_slices Try.underlying47 hl (by kernel_rfl) (by decide) hv h
  obtain ⟨L, hn, hs, hb⟩ := arr_list (enc := CE) (Q := fun o => o.e.k.Bd) hA (fun i hi => op_leavesB rfl (h4 i hi))
  exact ⟨A, n, c, L, rfl, ⟨hn, h1, h2, fun h => (h3 h).2⟩, hs, hb⟩
theorem keyB_of {H : Type} {enc : TypeId × Value → H} {W : World} {base : Nat} {v : Value} {d : DataW H} {p : List MemPlace} (hv : Value.okWide Try.prog W .any base 27 v) (h : DataW.Trod enc Try.prog W 0 (fun _ => true) true 27 v d p) :
    ∃ y : KeyD, v = y.val ∧ y.Bd := by
  have hl : leaves Try.prog 8 27 = some [23, 24, 25] := by decide +kernel
  obtain ⟨V, rfl, hV⟩ := open_flat hl (by kernel_rfl) (by kernel_rfl) hv h
  obtain ⟨a0, e0, w0⟩ := leaf_int Try.underlying23 (hV 0 _ rfl)
  obtain ⟨a1, e1, w1⟩ := leaf_int Try.underlying24 (hV 1 _ rfl)
  obtain ⟨a2, e2, w2⟩ := leaf_int Try.underlying25 (hV 2 _ rfl)
  refine ⟨⟨a0, a1, a2⟩, ?_, ⟨bd16 w0, bd32 w1, bd64 w2⟩⟩
  have e' : (List.range 3).map V = [V 0, V 1, V 2] := rfl
  show Value.agg ((List.range 3).map V).toArray = _
  rw [e', e0, e1, e2]
theorem setAt_mem {L : List EntD} {e x : EntD} {p : Nat} (h : x ∈ setAt L e p) : x = e ∨ x ∈ L := by
  unfold setAt at h
  split at h
  · exact (List.mem_or_eq_of_mem_set h).symm
  · rcases List.mem_append.1 h with h | h
    · rcases List.mem_append.1 h with h | h
      · exact .inr (List.mem_of_mem_take h)
      · exact .inl (List.mem_singleton.1 h)
    · exact .inr (List.mem_of_mem_drop h)
theorem delAt_mem {L : List EntD} {k : KeyD} {x : EntD} {p : Nat} (h : x ∈ delAt L k p) : x ∈ L := by
  unfold delAt at h
  split at h
  · rcases List.mem_append.1 h with h | h
    · exact List.mem_of_mem_take h
    · exact List.mem_of_mem_drop h
  · exact h
theorem new_trans {w : World} {RA : List Fact} {φ : Fact} (h : New w RA φ) (h2 : ∀ ψ, ψ ∈ RA → New w [] ψ) : New w [] φ := fun b hb => by
  rcases h b hb with h1 | ⟨ψ, h3, h4⟩
  · exact .inl h1
  · exact h2 ψ h3 b h4
theorem win_lv {f t : KeyD} {M A Z : List EntD} (h : M = A ++ Z) (hA : ∀ x ∈ keysOf A, klt x f) : win f t Z = win f t M := by
  rw [h, win_app]
  have : win f t A = [] := by
    unfold win
    rw [List.filter_eq_nil_iff]
    intro x hx
    unfold inW
    rw [tB_true (hA x.k (List.mem_map.2 ⟨x, hx, rfl⟩))]
    simp
  rw [this, List.nil_append]
theorem upTo_lv {t : KeyD} {a : Option AT} {M A Z : List EntD} (hh : HasO a M) (h : M = A ++ Z) : UpTo t Z := by
  intro P e S hZ h1 x hx
  exact upTo_asc hh.asc (A ++ P) e S (by rw [h, hZ, List.append_assoc]) h1 x hx
/-- A tree, made of calls. -/
structure MadeO where
  tg : Nat
  a : Option AT
  M : List EntD
  s : SlV
structure MadeI (n : Nat) (r : MadeO) : Prop where
  has : HasO r.a r.M
  ok : r.s.Ok r.M.length
  le : r.M.length ≤ n
  bd : ∀ e ∈ r.M, e.k.Bd
theorem made_any (A : Option Addr) (n c : Nat) (L : List OpD) (w : World) (hn : n = L.length) (h9 : n ≤ 150) (hbd : ∀ o ∈ L, o.e.k.Bd) (hL : Rd1 w (sl A 5 CE L)) :
    Calls Try.prog 14 [.slice A n c].toArray w (RetS (MadeI n) (fun r => .tuple #[.pointer (some ⟨r.tg, 0, none⟩), .slice r.s.A r.s.n r.s.c]) (fun r => [blk r.tg [rootV r.a, .int .i64 (r.M.length : Int)] 63, stF r.a, sl r.s.A 4 EE r.M]) [] w) := by
  refine g_enter0 T [] [] [sl A 5 CE L] Try.func14 rfl Try.ntmps14 rfl (Rds.cons hL .nil).kn ?_
  (repeat (refine gG ?_; try intro _))
  rename_i tg
  refine gk_der [] (φ := stF none) (Der.all fun x hx => by cases hx) (List.nil_subset _) ?_
  refine gk_nilR (α := EntD) none 4 EE ?_
  refine gk_loop_sel (fun (q : (Option AT) × (List EntD) × SlV × Nat) => match q with | (a, M, s, i) => (HasO a M ∧ s.Ok M.length ∧ M.length ≤ i ∧ i ≤ n ∧ (∀ e ∈ M, e.k.Bd) ∧ New w [] (stF a) ∧ New w [] (sl s.A 4 EE M))) (fun (q : (Option AT) × (List EntD) × SlV × Nat) => match q with | (a, M, s, i) => [(0, .slice A n c), (4, .pointer (some ⟨tg, 0, none⟩)), (5, .slice s.A s.n s.c), (6, .int .i64 i)]) (fun (q : (Option AT) × (List EntD) × SlV × Nat) => match q with | (a, M, s, i) => [blk tg [rootV a, .int .i64 (M.length : Int)] 63]) (fun (q : (Option AT) × (List EntD) × SlV × Nat) => match q with | (a, M, s, i) => [stF a, sl s.A 4 EE M, sl A 5 CE L]) (fun (q : (Option AT) × (List EntD) × SlV × Nat) => match q with | (a, M, s, i) => n - i) (none, [], ⟨none, 0, 0⟩, 0) rfl ⟨rfl, ⟨rfl, Nat.le_refl _, Nat.zero_le _, fun _ => rfl⟩, Nat.le_refl _, Nat.zero_le _, fun e he => (by cases he), New.all fun x hx => (by cases hx), fun b hb => absurd hb.1 (by simp)⟩ (by repeat (first | exact trivial | refine ⟨rfl, ?_⟩)) sA sS ?_
  rintro ⟨a, M, s, i⟩ hI
  replace hI : (HasO a M ∧ s.Ok M.length ∧ M.length ≤ i ∧ i ≤ n ∧ (∀ e ∈ M, e.k.Bd) ∧ New w [] (stF a) ∧ New w [] (sl s.A 4 EE M)) := hI
  change GK _ _ [(0, .slice A n c), (4, .pointer (some ⟨tg, 0, none⟩)), (5, .slice s.A s.n s.c), (6, .int .i64 i)] [blk tg [rootV a, .int .i64 (M.length : Int)] 63] [stF a, sl s.A 4 EE M, sl A 5 CE L]
  obtain ⟨hh, hs, hMi, hin, hMb, hn1, hn2⟩ := hI
  by_cases hlt : i < n
  · obtain ⟨y, hy⟩ : ∃ y, L[i]? = some y := ⟨L[i], List.getElem?_eq_getElem (by omega)⟩
    refine gk_elem (enc := CE) (L := L) i mE (by omega) (by decide) (fun b1 o1 y1 eA hy1 => ?_)
    subst eA
    obtain rfl : y = y1 := by rw [hy] at hy1; exact Option.some.inj hy1
    (repeat' (first | (refine gG ?_; try intro _) | ((first | refine g_split rfl rfl tE (fun _ => ?_) (fun _ => ?_) | refine gk_cond rfl rfl tE (fun _ => ?_) (fun _ => ?_)) <;> (try first | (exfalso; omega; done) | (rename_i hx; exact absurd rfl hx) | (rename_i hx; cases hx; done)))))
    refine g_mv rfl ?_; refine mv_call_rx (fun w hk => step_any a M s y tg w hh (by omega) hs (hk.pO (blk tg [rootV a, .int .i64 (M.length : Int)] 63) mE) (hk.rR (φ := stF a) mE) (hk.rR (φ := sl s.A 4 EE M) mE) (fun h => hk.disR (blk tg [rootV a, .int .i64 (M.length : Int)] 63) mE (stF a) mE tg rfl h) (fun h => hk.disR (blk tg [rootV a, .int .i64 (M.length : Int)] 63) mE (sl s.A 4 EE M) mE tg rfl h)) rfl rfl rfl rfl rfl (by kernel_rfl) (by intro _; first | ((repeat (first | with_reducible exact Upd.here _ | with_reducible apply Upd.there)); done) | ((repeat (first | exact Upd.here _ | apply Upd.there)); done) | fail) sS (fun _ => rfl) (fun r hr hnr => ?_)
    have hM2 : r.M.length ≤ M.length + 1 ∧ ∀ e ∈ r.M, e.k.Bd := by
      obtain ⟨p, hp, hM, _⟩ := hr.p
      have hpl := hp.le
      rw [List.length_map] at hpl
      rw [hM]
      split
      · exact ⟨by have := (delAt_len (t := y.e.k) hpl).1; omega, fun e he => hMb e (delAt_mem he)⟩
      · refine ⟨(setAt_len hpl).2, fun e he => ?_⟩
        rcases setAt_mem he with rfl | he
        · exact hbd y (List.mem_of_getElem? hy)
        · exact hMb e he
    have hall : ∀ ψ, ψ ∈ [stF a, sl s.A 4 EE M] → New w [] ψ := fun ψ hψ => by
      rcases List.mem_cons.1 hψ with rfl | hψ
      · exact hn1
      · obtain rfl := List.mem_singleton.1 hψ
        exact hn2
    have hn3 := new_trans (hnr (stF r.a) (.head _)) hall
    have hn4 := new_trans (hnr (sl r.s.A 4 EE r.M) (.tail _ (.head _))) hall
    refine g_say 22 (.tuple #[.slice r.s.A r.s.n r.s.c, .bool true]) rfl rfl ?_
    (repeat (refine gG ?_; try intro _))
    refine gk_again_sel rfl (r.a, r.M, r.s, i + 1) ⟨hr.has, hr.ok, by omega, by omega, hM2.2, hn3, hn4⟩ (by dsimp only; omega) (by repeat (first | exact trivial | refine ⟨rfl, ?_⟩)) sA sS
  · (repeat' (first | (refine gG ?_; try intro _) | ((first | refine g_split rfl rfl tE (fun _ => ?_) (fun _ => ?_) | refine gk_cond rfl rfl tE (fun _ => ?_) (fun _ => ?_)) <;> (try first | (exfalso; omega; done) | (rename_i hx; exact absurd rfl hx) | (rename_i hx; cases hx; done)))))
    refine gk_shareN (φ := blk tg [rootV a, .int .i64 (M.length : Int)] 63) rfl (by repeat (first | with_reducible exact Sel.here | with_reducible apply Sel.there)) (fun hnt => ?_)
    refine gk_ret hT rfl rfl (.tmp rfl (.tmp rfl .nil)) (fun w' hk => ?_)
    exact RetS.mk ⟨tg, a, M, s⟩ ⟨hh, hs, Nat.le_trans hMi hin, hMb⟩ rfl hk (.cons (RS1.rd hk mE (fun b hb => .inl (hnt b hb))) (.cons (RS1.rd hk mE hn1) (.cons (RS1.rd hk mE hn2) .nil)))
theorem alive34_any (w : World) : Calls Try.prog 16 #[] w fun e w' => e = .returned (.bool true) ∧ Below w.heap.size w w' := by
  refine g_enter0 T [] [] [] Try.func16 rfl Try.ntmps16 rfl (Kn.start _) ?_
  (repeat (refine gG ?_; try intro _))
  rename_i tg
  refine g_der [] (φ := stF none) (Der.all fun x hx => by cases hx) (List.nil_subset _) ?_
  refine g_mv rfl ?_; refine mv_call_rx (fun w hk => st_set none [] ⟨⟨1, 2, 3⟩, 4⟩ tg w rfl (by decide) (hk.pO (blk tg [.pointer none, .int .i64 0] 63) mE) (hk.rR (φ := stF none) mE) (fun h => hk.disR (blk tg [.pointer none, .int .i64 0] 63) mE (stF none) mE tg rfl h)) rfl rfl rfl rfl rfl (by kernel_rfl) (by intro _; first | ((repeat (first | with_reducible exact Upd.here _ | with_reducible apply Upd.there)); done) | ((repeat (first | exact Upd.here _ | apply Upd.there)); done) | fail) sS (fun _ => rfl) (fun r hr hnr => ?_)
  obtain ⟨p, hp, hM, _, _⟩ := hr.p
  have hM1 : r.M = [⟨⟨1, 2, 3⟩, 4⟩] := by
    rw [hM]
    unfold setAt
    rw [if_neg (by simp [tB_false])]
    simp
  have hh := hr.has
  rw [hM1] at hh
  obtain ⟨f1, hf1⟩ : ∃ f : KeyD, f = ⟨1, 2, 0⟩ := ⟨_, rfl⟩
  obtain ⟨f2, hf2⟩ : ∃ f : KeyD, f = ⟨1, 3, 0⟩ := ⟨_, rfl⟩
  obtain ⟨t1, ht1⟩ : ∃ f : KeyD, f = ⟨1, 2, 18446744073709551615⟩ := ⟨_, rfl⟩
  obtain ⟨t2, ht2⟩ : ∃ f : KeyD, f = ⟨1, 3, 18446744073709551615⟩ := ⟨_, rfl⟩
  obtain ⟨ys1, A1, hl1, hA1, hk1⟩ := lv_ex f1 hh (by decide)
  obtain ⟨ys2, A2, hl2, hA2, hk2⟩ := lv_ex f2 hh (by decide)
  have hw1 : win f1 t1 (rows ys1) = [⟨⟨1, 2, 3⟩, 4⟩] := by
    rw [win_lv hA1 hk1]
    exact win_one (by rw [hf1]; unfold klt; decide) (by rw [ht1]; unfold klt; decide)
  have hw2 : win f2 t2 (rows ys2) = [] := by
    rw [win_lv hA2 hk2]
    exact win_none (.inl (by rw [hf2]; unfold klt; decide))
  have h91 : (rows ys1).length ≤ 10000 := by have := congrArg List.length hA1; simp at this; omega
  have h92 : (rows ys2).length ≤ 10000 := by have := congrArg List.length hA2; simp at this; omega
  (repeat (refine gG ?_; try intro _))
  refine g_mv rfl ?_; refine mv_call_rt (fun w hk => block_any r.a tg (r.M.length : Int) 1 2 f1 t1 ys1 w hf1 ht1 hl1 (upTo_lv hh hA1) h91 (hk.rO mE) (hk.rR mE)) rfl rfl rfl rfl rfl (by kernel_rfl) (fun _ => rfl) (fun v1 _ => ?_)
  rw [hw1]
  refine g_own0 v1 mE (by decide) (fun b1 c1 hv1 _ _ => ?_)
  subst hv1
  refine g_freeze _ (by intro _; first | ((repeat (first | with_reducible exact Upd.here _ | with_reducible apply Upd.there)); done) | ((repeat (first | exact Upd.here _ | apply Upd.there)); done) | fail) (fun A4 c4 hv4 _ _ _ => ?_)
  injection hv4 with q1 q2 q3
  subst q1 q3
  refine g_share (by repeat (first | with_reducible exact Sel.here | with_reducible apply Sel.there)) ?_
  refine g_elem (enc := EE) (L := [(⟨⟨1, 2, 3⟩, 4⟩ : EntD)]) 0 mE (by decide) (by decide) (fun b4 o4 y4 eA4 hy4 => ?_)
  injection eA4 with eA4
  injection eA4 with e4 e5
  subst e4 e5
  obtain rfl := Option.some.inj hy4
  (repeat (refine gG ?_; try intro _))
  refine g_mv rfl ?_; refine mv_call_rt (fun w hk => block_any r.a tg (r.M.length : Int) 1 3 f2 t2 ys2 w hf2 ht2 hl2 (upTo_lv hh hA2) h92 (hk.rO mE) (hk.rR mE)) rfl rfl rfl rfl rfl (by kernel_rfl) (fun _ => rfl) (fun v2 _ => ?_)
  rw [hw2]
  refine g_ownv v2 mE (fun A3 c3 hv3 _ _ _ => ?_)
  subst hv3
  (repeat' (first | (refine gG ?_; try intro _) | ((first | refine g_split rfl rfl tE (fun _ => ?_) (fun _ => ?_) | refine gk_cond rfl rfl tE (fun _ => ?_) (fun _ => ?_)) <;> (try first | (exfalso; omega; done) | (rename_i hx; exact absurd rfl hx) | (rename_i hx; cases hx; done)))))
  all_goals (try trace_state)
  all_goals (refine gk_ret hT rfl rfl (.tmp rfl .nil) (fun w' hk => ?_); exact ⟨ret_bool (by simp [tB_eq]), hk.toBelow⟩)
end Go.Proofs.Ytahfjkibononfaa.Wk

