/- Times: the last number of a time; the floor. -/
import Derived.Test.YtgpfedmfbkhhcaaPo1
import Derived.Test.YtgpfedmfbkhhcaaGxW
namespace Go.Proofs.Ytgpfedmfbkhhcaa.Po
open Go.RowKit Mem Gx Ct Dd
set_option linter.unusedVariables false
set_option linter.unusedSimpArgs false
set_option maxRecDepth 100000
set_option maxHeartbeats 1000000
/-- Times that rise. -/
def RiseN (T : List MarkD) : Prop := ∀ (i j : Nat) (a b : MarkD), i < j → T[i]? = some a → T[j]? = some b → a.n < b.n
/-- Where a time stands. -/
structure PosT (T : List MarkD) (u : Int) (p : Nat) : Prop where
  le : p ≤ T.length
  lo : ∀ (i : Nat) (x : MarkD), i < p → T[i]? = some x → x.n ≤ u
  hi : ∀ (i : Nat) (x : MarkD), p ≤ i → T[i]? = some x → ¬ x.n ≤ u
def cmpM (m : MarkD) (u : Int) : Int := if m.n ≤ u then -1 else 1
theorem mcmp_any (m : MarkD) (u : Int) (w : World) : Calls Try.prog 72 [.agg #[.int .u64 m.s, .int .u64 m.n], .int .u64 u].toArray w fun e w' => e = .returned (.int .i64 (cmpM m u)) ∧ Below w.heap.size w w' := by
  refine g_enter0 T [] [] [] Try.func72 rfl Try.ntmps72 rfl (Kn.start _) ?_
  by_cases h : m.n ≤ u
  · (repeat' (first | (refine gG ?_; try intro _) | ((first | refine g_split rfl rfl tE (fun _ => ?_) (fun _ => ?_) | refine gk_cond rfl rfl tE (fun _ => ?_) (fun _ => ?_)) <;> (try first | (exfalso; omega; done) | (rename_i hx; exact absurd rfl hx) | (rename_i hx; cases hx; done)))))
    refine gk_ret hT rfl rfl (.tmp rfl .nil) (fun w' hk => ?_)
    exact ⟨congrArg (fun z => Ending.returned (.int .i64 z)) (if_pos h).symm, hk.toBelow⟩
  · (repeat' (first | (refine gG ?_; try intro _) | ((first | refine g_split rfl rfl tE (fun _ => ?_) (fun _ => ?_) | refine gk_cond rfl rfl tE (fun _ => ?_) (fun _ => ?_)) <;> (try first | (exfalso; omega; done) | (rename_i hx; exact absurd rfl hx) | (rename_i hx; cases hx; done)))))
    refine gk_ret hT rfl rfl (.tmp rfl .nil) (fun w' hk => ?_)
    exact ⟨congrArg (fun z => Ending.returned (.int .i64 z)) (if_neg h).symm, hk.toBelow⟩
theorem mbs_any (A : Option Addr) (n c : Nat) (L : List MarkD) (u : Int) (w : World) (hn : n = L.length) (h9 : n ≤ 1000000) (ha : RiseN L) (hs : Rd1 w (sl A 2 ME L)) :
    Calls Try.prog 71 [.slice A n c, .int .u64 u, .func (.func 72) #[] #[]].toArray w (Ret (PosT L u) (fun p => .tuple #[.int .i64 (p : Int), .bool false]) (fun _ => []) w) := by
  refine g_enter0 T [] [] [sl A 2 ME L] Try.func71 rfl Try.ntmps71 rfl (Rds.cons hs .nil).kn ?_
  (repeat (refine gG ?_; try intro _))
  refine gk_loop_sel (fun (q : Nat × Nat) => match q with | (i, j) => (i ≤ j ∧ j ≤ n ∧ (∀ (m : Nat) (x : MarkD), m < i → L[m]? = some x → x.n ≤ u) ∧ (∀ (m : Nat) (x : MarkD), j ≤ m → L[m]? = some x → ¬ x.n ≤ u))) (fun (q : Nat × Nat) => match q with | (i, j) => [(0, .slice A n c), (1, .int .u64 u), (2, .func (.func 72) #[] #[]), (8, .int .i64 (n : Int)), (9, .int .i64 (i : Int)), (10, .int .i64 (j : Int))]) (fun (q : Nat × Nat) => match q with | (i, j) => []) (fun (q : Nat × Nat) => match q with | (i, j) => [sl A 2 ME L]) (fun (q : Nat × Nat) => match q with | (i, j) => j - i) (0, n) rfl ⟨Nat.zero_le _, Nat.le_refl _, fun m x h => absurd h (Nat.not_lt_zero _), fun m x h hx => by rw [List.getElem?_eq_none (by omega)] at hx; cases hx⟩ (by repeat (first | exact trivial | refine ⟨rfl, ?_⟩)) sA sS ?_
  rintro ⟨i, j⟩ hI
  replace hI : (i ≤ j ∧ j ≤ n ∧ (∀ (m : Nat) (x : MarkD), m < i → L[m]? = some x → x.n ≤ u) ∧ (∀ (m : Nat) (x : MarkD), j ≤ m → L[m]? = some x → ¬ x.n ≤ u)) := hI
  change GK _ _ [(0, .slice A n c), (1, .int .u64 u), (2, .func (.func 72) #[] #[]), (8, .int .i64 (n : Int)), (9, .int .i64 (i : Int)), (10, .int .i64 (j : Int))] [] [sl A 2 ME L]
  obtain ⟨h1, h2, hlo, hhi⟩ := hI
  by_cases hlt : i < j
  · (repeat' (first | (refine gG ?_; try intro _) | ((first | refine g_split rfl rfl tE (fun _ => ?_) (fun _ => ?_) | refine gk_cond rfl rfl tE (fun _ => ?_) (fun _ => ?_)) <;> (try first | (exfalso; omega; done) | (rename_i hx; exact absurd rfl hx) | (rename_i hx; cases hx; done)))))
    obtain ⟨m, hm⟩ : ∃ m, m = (i + j) / 2 := ⟨_, rfl⟩
    refine g_say 22 (.int .u64 (m : Int)) rfl (by
      show Value.int .u64 (((i : Int) + (j : Int)).fdiv 2) = _
      rw [Int.fdiv_eq_ediv_of_nonneg _ (by decide)]
      congr 1
      omega) ?_
    have hmj : i ≤ m ∧ m < j := by omega
    clear hm
    obtain ⟨x, hx⟩ : ∃ x, L[m]? = some x := ⟨L[m], List.getElem?_eq_getElem (by omega)⟩
    refine g_elem (enc := ME) (L := L) m mE (by omega) (by decide) (fun b0 o0 x' eA hx' => ?_)
    subst eA
    obtain rfl : x = x' := by rw [hx] at hx'; exact Option.some.inj hx'
    by_cases hc : x.n ≤ u
    · have hcm : cmpM x u = -1 := if_pos hc
      (repeat' (first | (refine gG ?_; try intro _) | (refine g_mv rfl ?_; first | refine mv_call_bel (fun w hk => mcmp_any x u w) rfl rfl rfl rfl rfl (by kernel_rfl) ?_) | ((first | refine g_split rfl rfl tE (fun _ => ?_) (fun _ => ?_) | refine gk_cond rfl rfl tE (fun _ => ?_) (fun _ => ?_)) <;> (try first | (exfalso; omega; done) | (rename_i hx; exact absurd rfl hx) | (rename_i hx; cases hx; done)))))
      refine gk_again_sel rfl (m + 1, j) ⟨by omega, h2, fun q y hq hy => by
        rcases Nat.lt_or_ge q m with h | h
        · have := ha q m y x h hy hx; omega
        · obtain rfl : q = m := by omega
          rw [hx] at hy; rw [← Option.some.inj hy]; exact hc, hhi⟩ (by dsimp only; omega) (by repeat (first | exact trivial | refine ⟨rfl, ?_⟩)) sA sS
    · have hcm : cmpM x u = 1 := if_neg hc
      (repeat' (first | (refine gG ?_; try intro _) | (refine g_mv rfl ?_; first | refine mv_call_bel (fun w hk => mcmp_any x u w) rfl rfl rfl rfl rfl (by kernel_rfl) ?_) | ((first | refine g_split rfl rfl tE (fun _ => ?_) (fun _ => ?_) | refine gk_cond rfl rfl tE (fun _ => ?_) (fun _ => ?_)) <;> (try first | (exfalso; omega; done) | (rename_i hx; exact absurd rfl hx) | (rename_i hx; cases hx; done)))))
      refine gk_again_sel rfl (i, m) ⟨hmj.1, by omega, hlo, fun q y h3 h4 => by
        rcases Nat.lt_or_ge m q with h | h
        · have := ha m q x y h hx h4; omega
        · obtain rfl : q = m := by omega
          rw [hx] at h4; rw [← Option.some.inj h4]; exact hc⟩ (by dsimp only; omega) (by repeat (first | exact trivial | refine ⟨rfl, ?_⟩)) sA sS
  · have hij : i = j := by omega
    subst hij
    have hpos : PosT L u i := ⟨by omega, hlo, hhi⟩
    by_cases hin : i < n
    · obtain ⟨x, hx⟩ : ∃ x, L[i]? = some x := ⟨L[i], List.getElem?_eq_getElem (by omega)⟩
      refine gk_elem (enc := ME) (L := L) i mE (by omega) (by decide) (fun b0 o0 x' eA hx' => ?_)
      subst eA
      obtain rfl : x = x' := by rw [hx] at hx'; exact Option.some.inj hx'
      have hx0 := hhi i x (Nat.le_refl _) hx
      (repeat' (first | (refine gG ?_; try intro _) | (refine g_mv rfl ?_; first | refine mv_call_bel (fun w hk => mcmp_any x u w) rfl rfl rfl rfl rfl (by kernel_rfl) ?_) | ((first | refine g_split rfl rfl tE (fun _ => ?_) (fun _ => ?_) | refine gk_cond rfl rfl tE (fun _ => ?_) (fun _ => ?_)) <;> (try first | (exfalso; omega; done) | (rename_i hx; exact absurd rfl hx) | (rename_i hx; cases hx; done)))))
      refine gk_ret hT rfl rfl (.tmp rfl (.tmp rfl .nil)) (fun w' hk => ?_)
      refine Ret.mk i hpos ?_ hk sA
      show Value.tuple #[.int .i64 (i : Int), .bool (tB (cmpM x u = 0))] = _
      rw [tB_false (by unfold cmpM; rw [if_neg hx0]; decide)]
    · (repeat' (first | (refine gG ?_; try intro _) | ((first | refine g_split rfl rfl tE (fun _ => ?_) (fun _ => ?_) | refine gk_cond rfl rfl tE (fun _ => ?_) (fun _ => ?_)) <;> (try first | (exfalso; omega; done) | (rename_i hx; exact absurd rfl hx) | (rename_i hx; cases hx; done)))))
      refine gk_ret hT rfl rfl (.tmp rfl (.tmp rfl .nil)) (fun w' hk => ?_)
      exact Ret.mk i hpos rfl hk sA
theorem tat_any (A : Option Addr) (n c : Nat) (L : List MarkD) (u : Int) (w : World) (hn : n = L.length) (h9 : n ≤ 1000000) (ha : RiseN L) (hs : Rd1 w (sl A 2 ME L)) :
    Calls Try.prog 41 [.slice A n c, .int .u64 u].toArray w fun e w' => e = .returned (.tuple #[.int .u64 ((atT L u).getD 0), .bool (atT L u).isSome]) ∧ Below w.heap.size w w' := by
  refine g_enter0 T [] [] [sl A 2 ME L] Try.func41 rfl Try.ntmps41 rfl (Rds.cons hs .nil).kn ?_
  (repeat (refine gG ?_; try intro _))
  refine g_mv rfl ?_; refine mv_call_rt (fun w hk => mbs_any A n c L u w hn h9 ha (hk.rR (φ := sl A 2 ME L) mE)) rfl rfl rfl rfl rfl (by kernel_rfl) (fun _ => rfl) (fun p hp => ?_)
  have e := atT_pos hp.le hp.lo hp.hi
  by_cases h0 : p = 0
  · subst h0
    rw [e]
    (repeat' (first | (refine gG ?_; try intro _) | ((first | refine g_split rfl rfl tE (fun _ => ?_) (fun _ => ?_) | refine gk_cond rfl rfl tE (fun _ => ?_) (fun _ => ?_)) <;> (try first | (exfalso; omega; done) | (rename_i hx; exact absurd rfl hx) | (rename_i hx; cases hx; done)))))
    refine gk_ret hT rfl rfl (.tmp rfl (.tmp rfl .nil)) (fun w' hk => ?_)
    exact ⟨rfl, hk.toBelow⟩
  · obtain ⟨q, rfl⟩ : ∃ q, p = q + 1 := ⟨p - 1, by omega⟩
    have hq := hp.le
    obtain ⟨x, hx⟩ : ∃ x, L[q]? = some x := ⟨L[q], List.getElem?_eq_getElem (by omega)⟩
    rw [if_neg h0, Nat.add_sub_cancel, hx] at e
    rw [e]
    (repeat' (first | (refine gG ?_; try intro _) | ((first | refine g_split rfl rfl tE (fun _ => ?_) (fun _ => ?_) | refine gk_cond rfl rfl tE (fun _ => ?_) (fun _ => ?_)) <;> (try first | (exfalso; omega; done) | (rename_i hx; exact absurd rfl hx) | (rename_i hx; cases hx; done)))))
    refine g_say 18 (.int .i64 (q : Int)) rfl (by congr 1; push_cast; omega) ?_
    refine g_elem (enc := ME) (L := L) q mE (by omega) (by decide) (fun b0 o0 x' eA hx' => ?_)
    subst eA
    obtain rfl : x = x' := by rw [hx] at hx'; exact Option.some.inj hx'
    (repeat' (first | (refine gG ?_; try intro _) | ((first | refine g_split rfl rfl tE (fun _ => ?_) (fun _ => ?_) | refine gk_cond rfl rfl tE (fun _ => ?_) (fun _ => ?_)) <;> (try first | (exfalso; omega; done) | (rename_i hx; exact absurd rfl hx) | (rename_i hx; cases hx; done)))))
    refine gk_ret hT rfl rfl (.tmp rfl (.tmp rfl .nil)) (fun w' hk => ?_)
    exact ⟨rfl, hk.toBelow⟩
theorem rtat_any (A : Option Addr) (n c : Nat) (L : List MarkD) (u : Int) (w : World) (hn : n = L.length) (h9 : n ≤ 1000000) (hs : Rd1 w (sl A 2 ME L)) :
    Calls Try.prog 42 [.slice A n c, .int .u64 u].toArray w fun e w' => e = .returned (.tuple #[.int .u64 ((atT L u).getD 0), .bool (atT L u).isSome]) ∧ Below w.heap.size w w' := by
  refine g_enter0 T [] [] [sl A 2 ME L] Try.func42 rfl Try.ntmps42 rfl (Rds.cons hs .nil).kn ?_
  (repeat (refine gG ?_; try intro _))
  refine gk_loop_sel (fun (q : Nat × Int × Bool) => match q with | (k, s, b) => (k ≤ n ∧ s = (atT (L.take k) u).getD 0 ∧ b = (atT (L.take k) u).isSome)) (fun (q : Nat × Int × Bool) => match q with | (k, s, b) => [(0, .slice A n c), (1, .int .u64 u), (6, .int .u64 s), (7, .bool b), (8, .int .i64 (k : Int))]) (fun (q : Nat × Int × Bool) => match q with | (k, s, b) => []) (fun (q : Nat × Int × Bool) => match q with | (k, s, b) => [sl A 2 ME L]) (fun (q : Nat × Int × Bool) => match q with | (k, s, b) => n - k) (0, 0, false) rfl ⟨Nat.zero_le _, rfl, rfl⟩ (by repeat (first | exact trivial | refine ⟨rfl, ?_⟩)) sA sS ?_
  rintro ⟨k, s, b⟩ hI
  replace hI : (k ≤ n ∧ s = (atT (L.take k) u).getD 0 ∧ b = (atT (L.take k) u).isSome) := hI
  change GK _ _ [(0, .slice A n c), (1, .int .u64 u), (6, .int .u64 s), (7, .bool b), (8, .int .i64 (k : Int))] [] [sl A 2 ME L]
  obtain ⟨hk1, hs1, hb1⟩ := hI
  by_cases hlt : k < n
  · obtain ⟨x, hx⟩ : ∃ x, L[k]? = some x := ⟨L[k], List.getElem?_eq_getElem (by omega)⟩
    have e := atT_step (u := u) hx
    refine gk_elem (enc := ME) (L := L) k mE (by omega) (by decide) (fun b0 o0 x' eA hx' => ?_)
    subst eA
    obtain rfl : x = x' := by rw [hx] at hx'; exact Option.some.inj hx'
    by_cases hc : x.n ≤ u
    · rw [if_pos hc] at e
      (repeat' (first | (refine gG ?_; try intro _) | ((first | refine g_split rfl rfl tE (fun _ => ?_) (fun _ => ?_) | refine gk_cond rfl rfl tE (fun _ => ?_) (fun _ => ?_)) <;> (try first | (exfalso; omega; done) | (rename_i hx; exact absurd rfl hx) | (rename_i hx; cases hx; done)))))
      refine gk_again_sel rfl (k + 1, x.s, true) ⟨hlt, by rw [e]; rfl, by rw [e]; rfl⟩ (by dsimp only; omega) (by repeat (first | exact trivial | refine ⟨rfl, ?_⟩)) sA sS
    · rw [if_neg hc] at e
      (repeat' (first | (refine gG ?_; try intro _) | ((first | refine g_split rfl rfl tE (fun _ => ?_) (fun _ => ?_) | refine gk_cond rfl rfl tE (fun _ => ?_) (fun _ => ?_)) <;> (try first | (exfalso; omega; done) | (rename_i hx; exact absurd rfl hx) | (rename_i hx; cases hx; done)))))
      refine gk_again_sel rfl (k + 1, s, b) ⟨hlt, by rw [e]; exact hs1, by rw [e]; exact hb1⟩ (by dsimp only; omega) (by repeat (first | exact trivial | refine ⟨rfl, ?_⟩)) sA sS
  · obtain rfl : k = n := by omega
    rw [hn, List.take_length] at hs1 hb1
    (repeat' (first | (refine gG ?_; try intro _) | ((first | refine g_split rfl rfl tE (fun _ => ?_) (fun _ => ?_) | refine gk_cond rfl rfl tE (fun _ => ?_) (fun _ => ?_)) <;> (try first | (exfalso; omega; done) | (rename_i hx; exact absurd rfl hx) | (rename_i hx; cases hx; done)))))
    refine gk_ret hT rfl rfl (.tmp rfl (.tmp rfl .nil)) (fun w' hk => ?_)
    exact ⟨by rw [hs1, hb1]; rfl, hk.toBelow⟩
theorem pfloor_any (c : CatD) (now window : Int) (w : World) (hc : c.Ok) (h9 : c.T.length ≤ 1000) (ha : RiseN c.T) (hn0 : 0 ≤ now) (hn9 : now ≤ 18446744073709551615) (hw0 : 0 ≤ window) (h : Rd1 w (catF c)) :
    Calls Try.prog 19 [c.val, .int .u64 now, .int .u64 window].toArray w fun e w' => e = .returned (.int .u64 (floorP c.T c.fl now window)) ∧ Below w.heap.size w w' := by
  obtain ⟨nv, ng, nb, fl, ⟨vA, vm, vc⟩, V, ⟨gA, gm, gc⟩, G, ⟨bA, bm, bc⟩, B, ⟨kA, km, kd⟩, K, ⟨tA, tm, tc⟩, M⟩ := c
  have hn : tm = M.length := hc.t.n
  dsimp only [CatD.val]
  refine g_enter0 T [] [] [catF (⟨nv, ng, nb, fl, ⟨vA, vm, vc⟩, V, ⟨gA, gm, gc⟩, G, ⟨bA, bm, bc⟩, B, ⟨kA, km, kd⟩, K, ⟨tA, tm, tc⟩, M⟩ : CatD)] Try.func19 rfl Try.ntmps19 rfl (Rds.cons h .nil).kn ?_
  refine gk_der [catF (⟨nv, ng, nb, fl, ⟨vA, vm, vc⟩, V, ⟨gA, gm, gc⟩, G, ⟨bA, bm, bc⟩, B, ⟨kA, km, kd⟩, K, ⟨tA, tm, tc⟩, M⟩ : CatD)] (φ := sl tA 2 ME M) d_t sS ?_
  dsimp only at h9 ha
  by_cases hw : now < window
  · (repeat' (first | (refine gG ?_; try intro _) | ((first | refine g_split rfl rfl tE (fun _ => ?_) (fun _ => ?_) | refine gk_cond rfl rfl tE (fun _ => ?_) (fun _ => ?_)) <;> (try first | (exfalso; omega; done) | (rename_i hx; exact absurd rfl hx) | (rename_i hx; cases hx; done)))))
    refine gk_ret hT rfl rfl (.tmp rfl .nil) (fun w' hk => ?_)
    exact ⟨congrArg (fun z => Ending.returned (.int .u64 z)) (if_pos hw).symm, hk.toBelow⟩
  · have e0 : floorP M fl now window = match atT M (now - window) with | none => fl | some s => max fl s := if_neg hw
    (repeat' (first | (refine gG ?_; try intro _) | ((first | refine g_split rfl rfl tE (fun _ => ?_) (fun _ => ?_) | refine gk_cond rfl rfl tE (fun _ => ?_) (fun _ => ?_)) <;> (try first | (exfalso; omega; done) | (rename_i hx; exact absurd rfl hx) | (rename_i hx; cases hx; done)))))
    refine g_say 19 (.int .u64 (now - window)) rfl (by first | rfl | (congr 1; show (now - window) % 18446744073709551616 = _; omega)) ?_
    refine g_mv rfl ?_; refine mv_call_bel (fun w hk => tat_any tA tm tc M (now - window) w hn (by omega) ha (hk.rR (φ := sl tA 2 ME M) mE)) rfl rfl rfl rfl rfl (by kernel_rfl) ?_
    cases ea : atT M (now - window) with
    | none =>
      rw [ea] at e0
      (repeat' (first | (refine gG ?_; try intro _) | ((first | refine g_split rfl rfl tE (fun _ => ?_) (fun _ => ?_) | refine gk_cond rfl rfl tE (fun _ => ?_) (fun _ => ?_)) <;> (try first | (exfalso; omega; done) | (rename_i hx; exact absurd rfl hx) | (rename_i hx; cases hx; done)))))
      refine gk_ret hT rfl rfl (.tmp rfl .nil) (fun w' hk => ?_)
      exact ⟨congrArg (fun z => Ending.returned (.int .u64 z)) e0.symm, hk.toBelow⟩
    | some s =>
      rw [ea] at e0
      (repeat' (first | (refine gG ?_; try intro _) | ((first | refine g_split rfl rfl tE (fun _ => ?_) (fun _ => ?_) | refine gk_cond rfl rfl tE (fun _ => ?_) (fun _ => ?_)) <;> (try first | (exfalso; omega; done) | (rename_i hx; exact absurd rfl hx) | (rename_i hx; cases hx; done)))))
      refine g_yd rfl rfl (Ys.yd (ys_max (x := fl) (y := s) (max fl s) rfl rfl rfl (by split <;> omega))) ?_
      (repeat' (first | (refine gG ?_; try intro _) | ((first | refine g_split rfl rfl tE (fun _ => ?_) (fun _ => ?_) | refine gk_cond rfl rfl tE (fun _ => ?_) (fun _ => ?_)) <;> (try first | (exfalso; omega; done) | (rename_i hx; exact absurd rfl hx) | (rename_i hx; cases hx; done)))))
      refine gk_ret hT rfl rfl (.tmp rfl .nil) (fun w' hk => ?_)
      exact ⟨congrArg (fun z => Ending.returned (.int .u64 z)) e0.symm, hk.toBelow⟩
theorem rfloor_any (c : CatD) (now window : Int) (w : World) (hc : c.Ok) (h9 : c.T.length ≤ 1000) (hn0 : 0 ≤ now) (hn9 : now ≤ 18446744073709551615) (hw0 : 0 ≤ window) (h : Rd1 w (catF c)) :
    Calls Try.prog 20 [c.val, .int .u64 now, .int .u64 window].toArray w fun e w' => e = .returned (.int .u64 (floorP c.T c.fl now window)) ∧ Below w.heap.size w w' := by
  obtain ⟨nv, ng, nb, fl, ⟨vA, vm, vc⟩, V, ⟨gA, gm, gc⟩, G, ⟨bA, bm, bc⟩, B, ⟨kA, km, kd⟩, K, ⟨tA, tm, tc⟩, M⟩ := c
  have hn : tm = M.length := hc.t.n
  dsimp only [CatD.val]
  refine g_enter0 T [] [] [catF (⟨nv, ng, nb, fl, ⟨vA, vm, vc⟩, V, ⟨gA, gm, gc⟩, G, ⟨bA, bm, bc⟩, B, ⟨kA, km, kd⟩, K, ⟨tA, tm, tc⟩, M⟩ : CatD)] Try.func20 rfl Try.ntmps20 rfl (Rds.cons h .nil).kn ?_
  refine gk_der [catF (⟨nv, ng, nb, fl, ⟨vA, vm, vc⟩, V, ⟨gA, gm, gc⟩, G, ⟨bA, bm, bc⟩, B, ⟨kA, km, kd⟩, K, ⟨tA, tm, tc⟩, M⟩ : CatD)] (φ := sl tA 2 ME M) d_t sS ?_
  dsimp only at h9
  by_cases hw : now < window
  · (repeat' (first | (refine gG ?_; try intro _) | ((first | refine g_split rfl rfl tE (fun _ => ?_) (fun _ => ?_) | refine gk_cond rfl rfl tE (fun _ => ?_) (fun _ => ?_)) <;> (try first | (exfalso; omega; done) | (rename_i hx; exact absurd rfl hx) | (rename_i hx; cases hx; done)))))
    refine gk_ret hT rfl rfl (.tmp rfl .nil) (fun w' hk => ?_)
    exact ⟨congrArg (fun z => Ending.returned (.int .u64 z)) (if_pos hw).symm, hk.toBelow⟩
  · have e0 : floorP M fl now window = match atT M (now - window) with | none => fl | some s => max fl s := if_neg hw
    (repeat' (first | (refine gG ?_; try intro _) | ((first | refine g_split rfl rfl tE (fun _ => ?_) (fun _ => ?_) | refine gk_cond rfl rfl tE (fun _ => ?_) (fun _ => ?_)) <;> (try first | (exfalso; omega; done) | (rename_i hx; exact absurd rfl hx) | (rename_i hx; cases hx; done)))))
    refine g_say 19 (.int .u64 (now - window)) rfl (by first | rfl | (congr 1; show (now - window) % 18446744073709551616 = _; omega)) ?_
    refine g_mv rfl ?_; refine mv_call_bel (fun w hk => rtat_any tA tm tc M (now - window) w hn (by omega) (hk.rR (φ := sl tA 2 ME M) mE)) rfl rfl rfl rfl rfl (by kernel_rfl) ?_
    cases ea : atT M (now - window) with
    | none =>
      rw [ea] at e0
      (repeat' (first | (refine gG ?_; try intro _) | ((first | refine g_split rfl rfl tE (fun _ => ?_) (fun _ => ?_) | refine gk_cond rfl rfl tE (fun _ => ?_) (fun _ => ?_)) <;> (try first | (exfalso; omega; done) | (rename_i hx; exact absurd rfl hx) | (rename_i hx; cases hx; done)))))
      refine gk_ret hT rfl rfl (.tmp rfl .nil) (fun w' hk => ?_)
      exact ⟨congrArg (fun z => Ending.returned (.int .u64 z)) e0.symm, hk.toBelow⟩
    | some s =>
      rw [ea] at e0
      refine g_say 20 (.tuple #[.int .u64 s, .bool true]) rfl rfl ?_
      by_cases hs : fl < s
      · (repeat' (first | (refine gG ?_; try intro _) | ((first | refine g_split rfl rfl tE (fun _ => ?_) (fun _ => ?_) | refine gk_cond rfl rfl tE (fun _ => ?_) (fun _ => ?_)) <;> (try first | (exfalso; omega; done) | (rename_i hx; exact absurd rfl hx) | (rename_i hx; cases hx; done)))))
        refine gk_ret hT rfl rfl (.tmp rfl .nil) (fun w' hk => ?_)
        exact ⟨congrArg (fun z => Ending.returned (.int .u64 z)) (by
          rw [e0]
          have : max fl s = s := by omega
          exact this.symm), hk.toBelow⟩
      · (repeat' (first | (refine gG ?_; try intro _) | ((first | refine g_split rfl rfl tE (fun _ => ?_) (fun _ => ?_) | refine gk_cond rfl rfl tE (fun _ => ?_) (fun _ => ?_)) <;> (try first | (exfalso; omega; done) | (rename_i hx; exact absurd rfl hx) | (rename_i hx; cases hx; done)))))
        refine gk_ret hT rfl rfl (.tmp rfl .nil) (fun w' hk => ?_)
        exact ⟨congrArg (fun z => Ending.returned (.int .u64 z)) (by
          rw [e0]
          have : max fl s = fl := by omega
          exact this.symm), hk.toBelow⟩
end Go.Proofs.Ytgpfedmfbkhhcaa.Po

