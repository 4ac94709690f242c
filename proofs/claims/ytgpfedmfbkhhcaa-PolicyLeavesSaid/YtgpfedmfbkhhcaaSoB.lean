/- math/bits.Len, slices' nextPowerOfTwo, xorshift. -/
import Derived.Laws.BitsAllLaws
import Derived.Test.YtgpfedmfbkhhcaaGxX
import Derived.Test.YtgpfedmfbkhhcaaGxY
namespace Go.Proofs.Ytgpfedmfbkhhcaa.SoB
open Go.RowKit Mem Gx
set_option linter.unusedVariables false
set_option linter.unusedSimpArgs false
set_option maxRecDepth 100000
set_option maxHeartbeats 1000000
/-- A table of lengths. -/
def tabOk (str : ByteArray) : Bool := (List.range 256).all fun y => match str.data.toList[y]? with
  | some b => decide (b.toNat ≤ 8) && decide (y < 2 ^ b.toNat) && decide (2 ^ b.toNat ≤ 2 * y + 1)
  | none => false
theorem idx_tab {str : ByteArray} (h : tabOk str = true) (y : Nat) (hy : y < 256) : ∃ b : UInt8, str.data.toList[y]? = some b ∧ b.toNat ≤ 8 ∧ y < 2 ^ b.toNat ∧ 2 ^ b.toNat ≤ 2 * y + 1 := by
  unfold tabOk at h
  have := List.all_eq_true.1 h y (List.mem_range.2 hy)
  split at this
  · rename_i b hb
    simp only [Bool.and_eq_true, decide_eq_true_eq] at this
    exact ⟨b, hb, this.1.1, this.1.2, this.2⟩
  · cases this
theorem g_tab {X : Cx} {f : Fr} {O R : List Fact} {ops rest : List Oper} {k : List KI} {o : Oper} {d : Nat} (hT : TabOk X.P X.T) (hw : wantG X.n f ops o.guard = some true) (hd : o.dst = some d) {t tt s : Nat} {z : List Value} {x i : Operand} {str : ByteArray} {y : Nat} {kk : IntKind} (ho : o.op = .index t x i) (hx : Gx.look X.n f x = some (.string str)) (hi : Gx.look X.n f i = some (.int kk (y : Int))) (hf : tfind X.T t = some ⟨tt, .str, s, z⟩) (hall : tabOk str = true) (hy : y < 256)
    (hg : ∀ b : Nat, b ≤ 8 → y < 2 ^ b → 2 ^ b ≤ 2 * y + 1 → G X ops rest k ((d, .int .u8 (b : Int)) :: f) O R) : G X ops (o :: rest) k f O R := by
  obtain ⟨b, hb, h8, h1, h2⟩ := idx_tab hall y hy
  exact g_yd hw hd (yd_index (jj := (y : Int)) (j := undef) hT ho hx hi (by omega) (idxV_str hf hb)) (hg b.toNat h8 h1 h2)
theorem fdiv_nat (x m : Nat) : (x : Int).fdiv (m : Int) = ((x / m : Nat) : Int) := by
  rw [Int.fdiv_eq_ediv_of_nonneg _ (by omega)]
  exact (Int.natCast_ediv x m).symm
theorem up_len {x o y b : Nat} (hy : y = x / 2 ^ o) (h0 : 1 ≤ y ∨ o = 0) (h1 : y < 2 ^ b) (h2 : 2 ^ b ≤ 2 * y + 1) : x < 2 ^ (o + b) ∧ 2 ^ (o + b) ≤ 2 * x + 1 := by
  rw [Nat.pow_add]
  have hp : 0 < 2 ^ o := Nat.pos_of_ne_zero (by intro h; simp at h)
  have hd := Nat.div_add_mod x (2 ^ o)
  have hm := Nat.mod_lt x hp
  rw [← hy] at hd
  refine ⟨?_, ?_⟩
  · have : 2 ^ o * (y + 1) ≤ 2 ^ o * 2 ^ b := Nat.mul_le_mul_left _ h1
    rw [Nat.mul_add, Nat.mul_one] at this
    omega
  · rcases h0 with h0 | h0
    · have hb : b ≠ 0 := by intro e; subst e; simp at h1; omega
      obtain ⟨c, rfl⟩ : ∃ c, b = c + 1 := ⟨b - 1, by omega⟩
      rw [Nat.pow_succ] at h2 ⊢
      have h3 : 2 ^ c ≤ y := by omega
      have : 2 ^ o * 2 ^ c ≤ 2 ^ o * y := Nat.mul_le_mul_left _ h3
      rw [← Nat.mul_assoc]
      omega
    · subst h0
      simp at hd hy ⊢
      omega
theorem len64_any (x : Nat) (w : World) (hx : x ≤ 1000000) : Calls Try.prog 93 [.int .u64 (x : Int)].toArray w (Ret (fun k : Nat => k ≤ 32 ∧ x < 2 ^ k ∧ 2 ^ k ≤ 2 * x + 1) (fun k => .int .i64 (k : Int)) (fun _ => []) w) := by
  refine g_enter0 T [] [] [] Try.func93 rfl Try.ntmps93 rfl (Kn.start _) ?_
  by_cases h16 : 65536 ≤ x
  · obtain ⟨y, hy0⟩ : ∃ y, y = x / 65536 := ⟨_, rfl⟩
    have hy : y < 256 := by omega
    (repeat (refine gG ?_; try intro _))
    refine gk_cond_f rfl (congrArg some (congrArg Value.bool (tB_false (by omega)))) ?_
    (repeat (refine gG ?_; try intro _))
    refine gk_cond_t rfl (congrArg some (congrArg Value.bool (tB_true (by omega)))) ?_
    (repeat (refine gG ?_; try intro _))
    rw [show (x : Int).fdiv (2 ^ min (Int.toNat 16) IntKind.u64.bits) = (y : Int) by rw [hy0]; exact fdiv_nat x 65536]
    (repeat' (first | (refine gG ?_; try intro _) | ((first | refine g_split rfl rfl tE (fun _ => ?_) (fun _ => ?_) | refine gk_cond rfl rfl tE (fun _ => ?_) (fun _ => ?_)) <;> (try first | (exfalso; omega; done) | (rename_i hx; exact absurd rfl hx) | (rename_i hx; cases hx; done)))))
    refine g_tab hT rfl rfl rfl rfl rfl rfl ?_ hy (fun k hk8 hk1 hk2 => ?_); · decide +kernel
    (repeat' (first | (refine gG ?_; try intro _) | ((first | refine g_split rfl rfl tE (fun _ => ?_) (fun _ => ?_) | refine gk_cond rfl rfl tE (fun _ => ?_) (fun _ => ?_)) <;> (try first | (exfalso; omega; done) | (rename_i hx; exact absurd rfl hx) | (rename_i hx; cases hx; done)))))
    refine gk_ret hT rfl rfl (.tmp rfl .nil) (fun w' hk => ?_)
    exact Ret.mk (16 + k) ⟨by omega, up_len (o := 16) hy0 (.inl (by omega)) hk1 hk2⟩ (by show Value.int .i64 _ = Value.int .i64 _; congr 1) hk sA
  · by_cases h8 : 256 ≤ x
    · obtain ⟨y, hy0⟩ : ∃ y, y = x / 256 := ⟨_, rfl⟩
      have hy : y < 256 := by omega
      (repeat (refine gG ?_; try intro _))
      refine gk_cond_f rfl (congrArg some (congrArg Value.bool (tB_false (by omega)))) ?_
      (repeat (refine gG ?_; try intro _))
      refine gk_cond_f rfl (congrArg some (congrArg Value.bool (tB_false (by omega)))) ?_
      (repeat (refine gG ?_; try intro _))
      refine gk_cond_t rfl (congrArg some (congrArg Value.bool (tB_true (by omega)))) ?_
      (repeat (refine gG ?_; try intro _))
      rw [show (x : Int).fdiv (2 ^ min (Int.toNat 8) IntKind.u64.bits) = (y : Int) by rw [hy0]; exact fdiv_nat x 256]
      (repeat' (first | (refine gG ?_; try intro _) | ((first | refine g_split rfl rfl tE (fun _ => ?_) (fun _ => ?_) | refine gk_cond rfl rfl tE (fun _ => ?_) (fun _ => ?_)) <;> (try first | (exfalso; omega; done) | (rename_i hx; exact absurd rfl hx) | (rename_i hx; cases hx; done)))))
      refine g_tab hT rfl rfl rfl rfl rfl rfl ?_ hy (fun k hk8 hk1 hk2 => ?_); · decide +kernel
      (repeat' (first | (refine gG ?_; try intro _) | ((first | refine g_split rfl rfl tE (fun _ => ?_) (fun _ => ?_) | refine gk_cond rfl rfl tE (fun _ => ?_) (fun _ => ?_)) <;> (try first | (exfalso; omega; done) | (rename_i hx; exact absurd rfl hx) | (rename_i hx; cases hx; done)))))
      refine gk_ret hT rfl rfl (.tmp rfl .nil) (fun w' hk => ?_)
      exact Ret.mk (8 + k) ⟨by omega, up_len (o := 8) hy0 (.inl (by omega)) hk1 hk2⟩ (by show Value.int .i64 _ = Value.int .i64 _; congr 1) hk sA
    · have hy : x < 256 := by omega
      (repeat' (first | (refine gG ?_; try intro _) | ((first | refine g_split rfl rfl tE (fun _ => ?_) (fun _ => ?_) | refine gk_cond rfl rfl tE (fun _ => ?_) (fun _ => ?_)) <;> (try first | (exfalso; omega; done) | (rename_i hx; exact absurd rfl hx) | (rename_i hx; cases hx; done)))))
      refine g_tab hT rfl rfl rfl rfl rfl rfl ?_ hy (fun k hk8 hk1 hk2 => ?_); · decide +kernel
      (repeat' (first | (refine gG ?_; try intro _) | ((first | refine g_split rfl rfl tE (fun _ => ?_) (fun _ => ?_) | refine gk_cond rfl rfl tE (fun _ => ?_) (fun _ => ?_)) <;> (try first | (exfalso; omega; done) | (rename_i hx; exact absurd rfl hx) | (rename_i hx; cases hx; done)))))
      refine gk_ret hT rfl rfl (.tmp rfl .nil) (fun w' hk => ?_)
      exact Ret.mk k ⟨by omega, hk1, hk2⟩ (by show Value.int .i64 _ = Value.int .i64 _; congr 1; omega) hk sA
theorem len_any (x : Nat) (w : World) (hx : x ≤ 1000000) : Calls Try.prog 82 [.int .u64 (x : Int)].toArray w (Ret (fun k : Nat => k ≤ 32 ∧ x < 2 ^ k ∧ 2 ^ k ≤ 2 * x + 1) (fun k => .int .i64 (k : Int)) (fun _ => []) w) := by
  refine g_enter0 T [] [] [] Try.func82 rfl Try.ntmps82 rfl (Kn.start _) ?_
  (repeat (refine gG ?_; try intro _))
  refine g_mv rfl ?_; refine mv_call_rt (fun w hk => len64_any x w hx) rfl rfl rfl rfl rfl (by kernel_rfl) (fun _ => rfl) (fun k hk0 => ?_)
  (repeat (refine gG ?_; try intro _))
  refine gk_ret hT rfl rfl (.tmp rfl .nil) (fun w' hk => ?_)
  exact Ret.mk k hk0 rfl hk sA
/-- Words, bit by bit. -/
theorem ys_bits {X : Cx} {S : List Fact} {f : Fr} {o : Oper} {t : Nat} {x y : Operand} {yt : TypeId} {k : IntKind} {a b : Int} (op : BinOp) (hop : op = .and ∨ op = .xor) (ho : o.op = .binOp op t x y yt) (hx : Gx.look X.n f x = some (.int k a)) (hy : Gx.look X.n f y = some (.int k b)) : Ys X S f o (.int k (bits op k a b)) := fun ac w hr _ => by
  have hg : (eqGuard op t x y (.int k a) (.int k b)).run X.P w = .ok () w := by
    unfold eqGuard
    rcases hop with rfl | rfl <;> rfl
  simp only [execOp, ho, hr.look hx, hr.look hy, Sem.run_bind, hg, Result.andThen_ok]
  rcases hop with rfl | rfl <;> simp [binOp, Op.intBits, bits]
theorem bits_rng (op : BinOp) (a b : Int) : 0 ≤ bits op .u64 a b ∧ bits op .u64 a b ≤ 18446744073709551615 := by
  have h : ∀ z : Int, 0 ≤ IntKind.u64.wrap z ∧ IntKind.u64.wrap z ≤ 18446744073709551615 := fun z => by
    have e : IntKind.u64.wrap z = z % 18446744073709551616 := by
      simp [IntKind.wrap, IntKind.signed, IntKind.bits]
    rw [e]
    omega
  exact h _
abbrev W64 := { r : Int // 0 ≤ r ∧ r ≤ 18446744073709551615 }
theorem nextp_any (x : Nat) (w : World) (hx : x ≤ 1000000) (hx1 : 1 ≤ x) : Calls Try.prog 95 [.int .i64 (x : Int)].toArray w (Ret (fun m : Nat => x < m ∧ m ≤ 2 * x) (fun m => .int .u64 (m : Int)) (fun _ => []) w) := by
  refine g_enter0 T [] [] [] Try.func95 rfl Try.ntmps95 rfl (Kn.start _) ?_
  (repeat (refine gG ?_; try intro _))
  refine g_mv rfl ?_; refine mv_call_rt (fun w hk => len_any x w hx) rfl rfl rfl rfl rfl (by kernel_rfl) (fun _ => rfl) (fun k hk0 => ?_)
  (repeat (refine gG ?_; try intro _))
  obtain ⟨h32, h1, h2⟩ := hk0
  obtain ⟨m, hm⟩ : ∃ m, m = 2 ^ k := ⟨_, rfl⟩
  have h3 : 2 ^ k ≤ 2 * x := by
    have hb : k ≠ 0 := by intro e; subst e; simp at h1; omega
    obtain ⟨d, rfl⟩ : ∃ d, k = d + 1 := ⟨k - 1, by omega⟩
    rw [Nat.pow_succ] at h2 ⊢
    omega
  rw [← hm] at h1 h3
  clear h2
  have e : (1 : Int) * 2 ^ (min (Int.toNat (k : Int)) IntKind.u64.bits) = (m : Int) := by
    rw [hm, Int.toNat_natCast, Nat.min_eq_left (by show k ≤ 64; omega), Int.one_mul]
    exact (Int.natCast_pow 2 k).symm
  refine g_pure true hT rfl rfl rfl ⟨by omega, by show inR .u64 (1 * 2 ^ (min (Int.toNat (k : Int)) IntKind.u64.bits)); rw [e]; exact sI⟩ ?_
  refine g_say 6 (.int .u64 (m : Int)) rfl (congrArg (Value.int .u64) e) ?_
  (repeat (refine gG ?_; try intro _))
  refine gk_ret hT rfl rfl (.tmp rfl .nil) (fun w' hk => ?_)
  exact Ret.mk m ⟨h1, h3⟩ rfl hk sA
theorem next_any (q : Nat) (x : Int) (w : World) (hx : 0 ≤ x ∧ x ≤ 18446744073709551615) (h : Rd1 w (blk q [.int .u64 x] 158)) :
    Calls Try.prog 96 [.pointer (some ⟨q, 0, none⟩)].toArray w (RetM (blk q [.int .u64 x] 158) (fun _ : W64 => True) (fun r => .int .u64 r.1) (fun r => blk q [.int .u64 r.1] 158) w) := by
  refine g_enter0 T (finE (blk q [.int .u64 x] 158) w) [blk q [.int .u64 x] 158] [] Try.func96 rfl Try.ntmps96 rfl (Kn.startM h (fun b hb => (finE_mem h.2 b).2 hb) (fun ψ hψ => by cases hψ)) ?_
  (repeat (refine gG ?_; try intro _))
  refine gk_any [] (Cut _ (fun _ : W64 => [(0, .pointer (some ⟨q, 0, none⟩)), (2, .int .u64 0)]) (fun r => [blk q [.int .u64 r.1] 158]) (fun _ => [])) rfl rfl (by kernel_rfl) ?_ (cut_k fun r1 => ?_)
  · skip
    refine gb_take 0 rfl (by decide +kernel) rfl rfl (ys_ev (nw := true) hT rfl sI) sF ?_
    refine gb_take 1 rfl (by decide +kernel) rfl rfl (ys_ev (nw := true) hT rfl sI) sF ?_
    refine gb_take 3 rfl (by decide +kernel) rfl rfl (ys_ev (nw := true) hT rfl sI) sF ?_
    refine gb_take 4 rfl (by decide +kernel) rfl rfl (ys_ev (nw := true) hT rfl sI) sF ?_
    refine gb_all (by decide +kernel) ?_
    refine gball_not (by decide +kernel) ?_
    refine gball_not (by decide +kernel) ?_
    refine gball_yes rfl rfl ?_ ?_
    · refine mv_yd rfl (yd_load_blk hT rfl rfl mE rfl rfl) ?_
      refine ⟨sF, ?_⟩
      refine gb_only 5 (by decide +kernel) rfl rfl ?_
      refine mv_yd rfl (yd_load_blk hT rfl rfl mE rfl rfl) ?_
      refine ⟨sF, ?_⟩
      refine gb_take 6 rfl (by decide +kernel) rfl rfl (ys_ev (nw := false) hT rfl (by first | omega | exact ⟨by omega, trivial⟩)) sF ?_
      refine gb_take 7 rfl (by decide +kernel) rfl rfl (ys_bits .xor (.inr rfl) rfl rfl rfl) sF ?_
      refine gb_take 8 rfl (by decide +kernel) rfl rfl (ys_ev (nw := true) hT rfl sI) sF ?_
      refine gb_only 9 (by decide +kernel) rfl rfl ?_
      first | (refine mv_box rfl rfl rfl rfl ?_; intro _) | (refine mv_alloc rfl hT rfl rfl ?_; intro _) | refine mv_store hT rfl rfl rfl rfl rfl rfl sO rfl ?_ | (refine mv_buildSlice rfl hT rfl rfl rfl rfl rfl rfl rfl rfl ?_; intro _)
      refine ⟨sF, ?_⟩
      refine gb_nil (by decide +kernel) ?_
      exact ⟨⟨bits .xor .u64 _ _, bits_rng _ _ _⟩, (by repeat (first | exact trivial | refine ⟨rfl, ?_⟩)), sA, sS⟩
    refine gball_not (by decide +kernel) ?_
    refine gball_not (by decide +kernel) ?_
    refine gball_yes rfl rfl ?_ ?_
    · refine mv_yd rfl (yd_load_blk hT rfl rfl mE rfl rfl) ?_
      refine ⟨sF, ?_⟩
      refine gb_take 6 rfl (by decide +kernel) rfl rfl (ys_ev (nw := false) hT rfl (by first | omega | exact ⟨by omega, trivial⟩)) sF ?_
      refine gb_only 2 (by decide +kernel) rfl rfl ?_
      refine mv_yd rfl (yd_load_blk hT rfl rfl mE rfl rfl) ?_
      refine ⟨sF, ?_⟩
      refine gb_take 7 rfl (by decide +kernel) rfl rfl (ys_bits .xor (.inr rfl) rfl rfl rfl) sF ?_
      refine gb_take 8 rfl (by decide +kernel) rfl rfl (ys_ev (nw := true) hT rfl sI) sF ?_
      refine gb_only 9 (by decide +kernel) rfl rfl ?_
      first | (refine mv_box rfl rfl rfl rfl ?_; intro _) | (refine mv_alloc rfl hT rfl rfl ?_; intro _) | refine mv_store hT rfl rfl rfl rfl rfl rfl sO rfl ?_ | (refine mv_buildSlice rfl hT rfl rfl rfl rfl rfl rfl rfl rfl ?_; intro _)
      refine ⟨sF, ?_⟩
      refine gb_nil (by decide +kernel) ?_
      exact ⟨⟨bits .xor .u64 _ _, bits_rng _ _ _⟩, (by repeat (first | exact trivial | refine ⟨rfl, ?_⟩)), sA, sS⟩
    refine gball_not (by decide +kernel) ?_
    refine gball_not (by decide +kernel) ?_
    refine gball_not (by decide +kernel) ?_
    refine gball_not (by decide +kernel) ?_
    exact gball_end (by decide +kernel)
  (repeat (refine gG ?_; try intro _))
  refine gk_any [] (Cut _ (fun _ : W64 => [(0, .pointer (some ⟨q, 0, none⟩)), (2, .int .u64 0)]) (fun r => [blk q [.int .u64 r.1] 158]) (fun _ => [])) rfl rfl (by kernel_rfl) ?_ (cut_k fun r2 => ?_)
  · skip
    refine gb_take 0 rfl (by decide +kernel) rfl rfl (ys_ev (nw := true) hT rfl sI) sF ?_
    refine gb_take 1 rfl (by decide +kernel) rfl rfl (ys_ev (nw := true) hT rfl sI) sF ?_
    refine gb_take 3 rfl (by decide +kernel) rfl rfl (ys_ev (nw := true) hT rfl sI) sF ?_
    refine gb_take 4 rfl (by decide +kernel) rfl rfl (ys_ev (nw := true) hT rfl sI) sF ?_
    refine gb_all (by decide +kernel) ?_
    refine gball_not (by decide +kernel) ?_
    refine gball_not (by decide +kernel) ?_
    refine gball_yes rfl rfl ?_ ?_
    · refine mv_yd rfl (yd_load_blk hT rfl rfl mE rfl rfl) ?_
      refine ⟨sF, ?_⟩
      refine gb_only 5 (by decide +kernel) rfl rfl ?_
      refine mv_yd rfl (yd_load_blk hT rfl rfl mE rfl rfl) ?_
      refine ⟨sF, ?_⟩
      refine gb_take 6 rfl (by decide +kernel) rfl rfl (ys_ev (nw := false) hT rfl (by first | omega | exact ⟨by omega, trivial⟩)) sF ?_
      refine gb_take 7 rfl (by decide +kernel) rfl rfl (ys_bits .xor (.inr rfl) rfl rfl rfl) sF ?_
      refine gb_take 8 rfl (by decide +kernel) rfl rfl (ys_ev (nw := true) hT rfl sI) sF ?_
      refine gb_only 9 (by decide +kernel) rfl rfl ?_
      first | (refine mv_box rfl rfl rfl rfl ?_; intro _) | (refine mv_alloc rfl hT rfl rfl ?_; intro _) | refine mv_store hT rfl rfl rfl rfl rfl rfl sO rfl ?_ | (refine mv_buildSlice rfl hT rfl rfl rfl rfl rfl rfl rfl rfl ?_; intro _)
      refine ⟨sF, ?_⟩
      refine gb_nil (by decide +kernel) ?_
      exact ⟨⟨bits .xor .u64 _ _, bits_rng _ _ _⟩, (by repeat (first | exact trivial | refine ⟨rfl, ?_⟩)), sA, sS⟩
    refine gball_not (by decide +kernel) ?_
    refine gball_not (by decide +kernel) ?_
    refine gball_yes rfl rfl ?_ ?_
    · refine mv_yd rfl (yd_load_blk hT rfl rfl mE rfl rfl) ?_
      refine ⟨sF, ?_⟩
      refine gb_take 6 rfl (by decide +kernel) rfl rfl (ys_ev (nw := false) hT rfl (by first | omega | exact ⟨by omega, trivial⟩)) sF ?_
      refine gb_only 2 (by decide +kernel) rfl rfl ?_
      refine mv_yd rfl (yd_load_blk hT rfl rfl mE rfl rfl) ?_
      refine ⟨sF, ?_⟩
      refine gb_take 7 rfl (by decide +kernel) rfl rfl (ys_bits .xor (.inr rfl) rfl rfl rfl) sF ?_
      refine gb_take 8 rfl (by decide +kernel) rfl rfl (ys_ev (nw := true) hT rfl sI) sF ?_
      refine gb_only 9 (by decide +kernel) rfl rfl ?_
      first | (refine mv_box rfl rfl rfl rfl ?_; intro _) | (refine mv_alloc rfl hT rfl rfl ?_; intro _) | refine mv_store hT rfl rfl rfl rfl rfl rfl sO rfl ?_ | (refine mv_buildSlice rfl hT rfl rfl rfl rfl rfl rfl rfl rfl ?_; intro _)
      refine ⟨sF, ?_⟩
      refine gb_nil (by decide +kernel) ?_
      exact ⟨⟨bits .xor .u64 _ _, bits_rng _ _ _⟩, (by repeat (first | exact trivial | refine ⟨rfl, ?_⟩)), sA, sS⟩
    refine gball_not (by decide +kernel) ?_
    refine gball_not (by decide +kernel) ?_
    refine gball_not (by decide +kernel) ?_
    refine gball_not (by decide +kernel) ?_
    exact gball_end (by decide +kernel)
  (repeat (refine gG ?_; try intro _))
  refine gk_any [] (Cut _ (fun _ : W64 => [(0, .pointer (some ⟨q, 0, none⟩)), (2, .int .u64 0)]) (fun r => [blk q [.int .u64 r.1] 158]) (fun _ => [])) rfl rfl (by kernel_rfl) ?_ (cut_k fun r3 => ?_)
  · skip
    refine gb_take 0 rfl (by decide +kernel) rfl rfl (ys_ev (nw := true) hT rfl sI) sF ?_
    refine gb_take 1 rfl (by decide +kernel) rfl rfl (ys_ev (nw := true) hT rfl sI) sF ?_
    refine gb_take 3 rfl (by decide +kernel) rfl rfl (ys_ev (nw := true) hT rfl sI) sF ?_
    refine gb_take 4 rfl (by decide +kernel) rfl rfl (ys_ev (nw := true) hT rfl sI) sF ?_
    refine gb_all (by decide +kernel) ?_
    refine gball_not (by decide +kernel) ?_
    refine gball_not (by decide +kernel) ?_
    refine gball_yes rfl rfl ?_ ?_
    · refine mv_yd rfl (yd_load_blk hT rfl rfl mE rfl rfl) ?_
      refine ⟨sF, ?_⟩
      refine gb_only 5 (by decide +kernel) rfl rfl ?_
      refine mv_yd rfl (yd_load_blk hT rfl rfl mE rfl rfl) ?_
      refine ⟨sF, ?_⟩
      refine gb_take 6 rfl (by decide +kernel) rfl rfl (ys_ev (nw := false) hT rfl (by first | omega | exact ⟨by omega, trivial⟩)) sF ?_
      refine gb_take 7 rfl (by decide +kernel) rfl rfl (ys_bits .xor (.inr rfl) rfl rfl rfl) sF ?_
      refine gb_take 8 rfl (by decide +kernel) rfl rfl (ys_ev (nw := true) hT rfl sI) sF ?_
      refine gb_only 9 (by decide +kernel) rfl rfl ?_
      first | (refine mv_box rfl rfl rfl rfl ?_; intro _) | (refine mv_alloc rfl hT rfl rfl ?_; intro _) | refine mv_store hT rfl rfl rfl rfl rfl rfl sO rfl ?_ | (refine mv_buildSlice rfl hT rfl rfl rfl rfl rfl rfl rfl rfl ?_; intro _)
      refine ⟨sF, ?_⟩
      refine gb_nil (by decide +kernel) ?_
      exact ⟨⟨bits .xor .u64 _ _, bits_rng _ _ _⟩, (by repeat (first | exact trivial | refine ⟨rfl, ?_⟩)), sA, sS⟩
    refine gball_not (by decide +kernel) ?_
    refine gball_not (by decide +kernel) ?_
    refine gball_yes rfl rfl ?_ ?_
    · refine mv_yd rfl (yd_load_blk hT rfl rfl mE rfl rfl) ?_
      refine ⟨sF, ?_⟩
      refine gb_take 6 rfl (by decide +kernel) rfl rfl (ys_ev (nw := false) hT rfl (by first | omega | exact ⟨by omega, trivial⟩)) sF ?_
      refine gb_only 2 (by decide +kernel) rfl rfl ?_
      refine mv_yd rfl (yd_load_blk hT rfl rfl mE rfl rfl) ?_
      refine ⟨sF, ?_⟩
      refine gb_take 7 rfl (by decide +kernel) rfl rfl (ys_bits .xor (.inr rfl) rfl rfl rfl) sF ?_
      refine gb_take 8 rfl (by decide +kernel) rfl rfl (ys_ev (nw := true) hT rfl sI) sF ?_
      refine gb_only 9 (by decide +kernel) rfl rfl ?_
      first | (refine mv_box rfl rfl rfl rfl ?_; intro _) | (refine mv_alloc rfl hT rfl rfl ?_; intro _) | refine mv_store hT rfl rfl rfl rfl rfl rfl sO rfl ?_ | (refine mv_buildSlice rfl hT rfl rfl rfl rfl rfl rfl rfl rfl ?_; intro _)
      refine ⟨sF, ?_⟩
      refine gb_nil (by decide +kernel) ?_
      exact ⟨⟨bits .xor .u64 _ _, bits_rng _ _ _⟩, (by repeat (first | exact trivial | refine ⟨rfl, ?_⟩)), sA, sS⟩
    refine gball_not (by decide +kernel) ?_
    refine gball_not (by decide +kernel) ?_
    refine gball_not (by decide +kernel) ?_
    refine gball_not (by decide +kernel) ?_
    exact gball_end (by decide +kernel)
  (repeat (refine gG ?_; try intro _))
  refine gk_ret hT rfl rfl (.tmp rfl .nil) (fun w' hk => ?_)
  exact RetM.mk r3 trivial rfl hk (fun b hb => (finE_mem h.2 b).1 hb) mE
end Go.Proofs.Ytgpfedmfbkhhcaa.SoB

