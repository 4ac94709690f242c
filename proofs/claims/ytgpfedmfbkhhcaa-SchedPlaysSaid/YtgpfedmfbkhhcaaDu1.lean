/- Timers: their order, as the code tells it. -/
import Derived.Test.YtgpfedmfbkhhcaaGxW
import Derived.Test.YtgpfedmfbkhhcaaHp4
namespace Go.Proofs.Ytgpfedmfbkhhcaa.Du
open Go.RowKit Mem Gx Hp
set_option linter.unusedVariables false
set_option linter.unusedSimpArgs false
set_option maxRecDepth 100000
set_option maxHeartbeats 1000000
/-- A timer. -/
structure Tim where
  t : Int
  k : Int
  i : Int
deriving DecidableEq
instance : Inhabited Tim := ⟨⟨0, 0, 0⟩⟩
def TE (x : Tim) : Nat → Value
  | 0 => .int .u64 x.t
  | 1 => .int .i64 x.k
  | _ => .int .i64 x.i
abbrev Tim.val (x : Tim) : Value := .agg #[.int .u64 x.t, .int .i64 x.k, .int .i64 x.i]
abbrev Tim.key (x : Tim) : Int × Int := (x.k, x.i)
def cmpI (a b : Int) : Int := if a < b then -1 else if b < a then 1 else 0
def orV : List Int → Int
  | [] => 0
  | x :: r => if x ≠ 0 then x else orV r
def cmpT (a b : Tim) : Int := orV [cmpI a.t b.t, cmpI a.k b.k, cmpI a.i b.i]
def ltT (a b : Tim) : Prop := cmpT a b < 0
instance (a b : Tim) : Decidable (ltT a b) := inferInstanceAs (Decidable (cmpT a b < 0))
theorem cmpI_cases (a b : Int) : (a < b ∧ cmpI a b = -1) ∨ (b < a ∧ cmpI a b = 1) ∨ (a = b ∧ cmpI a b = 0) := by
  unfold cmpI
  rcases Int.lt_trichotomy a b with h | h | h
  · exact .inl ⟨h, if_pos h⟩
  · exact .inr (.inr ⟨h, by rw [if_neg (by omega), if_neg (by omega)]⟩)
  · exact .inr (.inl ⟨h, by rw [if_neg (by omega), if_pos h]⟩)
theorem ltT_iff (a b : Tim) : ltT a b ↔ (a.t < b.t ∨ (a.t = b.t ∧ (a.k < b.k ∨ (a.k = b.k ∧ a.i < b.i)))) := by
  unfold ltT cmpT orV orV orV orV
  rcases cmpI_cases a.t b.t with ⟨h1, e1⟩ | ⟨h1, e1⟩ | ⟨h1, e1⟩ <;> rw [e1]
  · simp; omega
  · simp; omega
  · rcases cmpI_cases a.k b.k with ⟨h2, e2⟩ | ⟨h2, e2⟩ | ⟨h2, e2⟩ <;> rw [e2]
    · simp; omega
    · simp; omega
    · rcases cmpI_cases a.i b.i with ⟨h3, e3⟩ | ⟨h3, e3⟩ | ⟨h3, e3⟩ <;> rw [e3] <;> simp <;> omega
theorem cmpT_cases (a b : Tim) : cmpT a b = if ltT b a then 1 else if ltT a b then -1 else 0 := by
  have hA := ltT_iff a b
  have hB := ltT_iff b a
  have key : (ltT a b ∧ cmpT a b = -1) ∨ (ltT b a ∧ ¬ ltT a b ∧ cmpT a b = 1) ∨ (¬ ltT a b ∧ ¬ ltT b a ∧ cmpT a b = 0) := by
    rw [hA, hB]
    unfold cmpT orV orV orV orV
    rcases cmpI_cases a.t b.t with ⟨h1, e1⟩ | ⟨h1, e1⟩ | ⟨h1, e1⟩ <;> rw [e1]
    · exact .inl ⟨by omega, by simp⟩
    · exact .inr (.inl ⟨by omega, by omega, by simp⟩)
    · rcases cmpI_cases a.k b.k with ⟨h2, e2⟩ | ⟨h2, e2⟩ | ⟨h2, e2⟩ <;> rw [e2]
      · exact .inl ⟨by omega, by simp⟩
      · exact .inr (.inl ⟨by omega, by omega, by simp⟩)
      · rcases cmpI_cases a.i b.i with ⟨h3, e3⟩ | ⟨h3, e3⟩ | ⟨h3, e3⟩ <;> rw [e3]
        · exact .inl ⟨by omega, by simp⟩
        · exact .inr (.inl ⟨by omega, by omega, by simp⟩)
        · exact .inr (.inr ⟨by omega, by omega, by simp⟩)
  rcases key with ⟨h1, e⟩ | ⟨h1, h2, e⟩ | ⟨h1, h2, e⟩
  · have h2 : ¬ ltT b a := by rw [hB]; rw [hA] at h1; omega
    rw [if_neg h2, if_pos h1, e]
  · rw [if_pos h1, e]
  · rw [if_neg h2, if_neg h1, e]
theorem lt_tim : LtO ltT where
  asym h := by rw [ltT_iff] at *; omega
  ntr h1 h2 := by rw [ltT_iff] at *; omega
theorem ltT_total {a b : Tim} (h1 : ¬ ltT a b) (h2 : ¬ ltT b a) : a = b := by
  rw [ltT_iff] at h1 h2
  obtain ⟨t, k, i⟩ := a
  obtain ⟨t', k', i'⟩ := b
  simp only at h1 h2
  have e1 : t = t' := by omega
  have e2 : k = k' := by omega
  have e3 : i = i' := by omega
  rw [e1, e2, e3]
theorem nanU_any (a : Int) (w : World) : Calls Try.prog 99 [.int .u64 a].toArray w fun e w' => e = .returned (.bool false) ∧ Below w.heap.size w w' := by
  refine g_enter0 T [] [] [] Try.func99 rfl Try.ntmps99 rfl (Kn.start _) ?_
  (repeat' (first | (refine gG ?_; try intro _) | ((first | refine g_split rfl rfl tE (fun _ => ?_) (fun _ => ?_) | refine gk_cond rfl rfl tE (fun _ => ?_) (fun _ => ?_)) <;> (try first | (exfalso; omega; done) | (rename_i hx; exact absurd rfl hx) | (rename_i hx; cases hx; done)))))
  refine gk_ret hT rfl rfl (.tmp rfl .nil) (fun w' hk => ?_)
  exact ⟨ret_bool (by simp [tB_eq]), hk.toBelow⟩
theorem nanI_any (a : Int) (w : World) : Calls Try.prog 128 [.int .i64 a].toArray w fun e w' => e = .returned (.bool false) ∧ Below w.heap.size w w' := by
  refine g_enter0 T [] [] [] Try.func128 rfl Try.ntmps128 rfl (Kn.start _) ?_
  (repeat' (first | (refine gG ?_; try intro _) | ((first | refine g_split rfl rfl tE (fun _ => ?_) (fun _ => ?_) | refine gk_cond rfl rfl tE (fun _ => ?_) (fun _ => ?_)) <;> (try first | (exfalso; omega; done) | (rename_i hx; exact absurd rfl hx) | (rename_i hx; cases hx; done)))))
  refine gk_ret hT rfl rfl (.tmp rfl .nil) (fun w' hk => ?_)
  exact ⟨ret_bool (by simp [tB_eq]), hk.toBelow⟩
theorem cmpU_any (a b : Int) (w : World) : Calls Try.prog 126 [.int .u64 a, .int .u64 b].toArray w fun e w' => e = .returned (.int .i64 (cmpI a b)) ∧ Below w.heap.size w w' := by
  refine g_enter0 T [] [] [] Try.func126 rfl Try.ntmps126 rfl (Kn.start _) ?_
  (repeat' (first | (refine gG ?_; try intro _) | (refine g_mv rfl ?_; first | refine mv_call_bel (fun w hk => nanU_any a w) rfl rfl rfl rfl rfl (by kernel_rfl) ?_ | refine mv_call_bel (fun w hk => nanU_any b w) rfl rfl rfl rfl rfl (by kernel_rfl) ?_) | ((first | refine g_split rfl rfl tE (fun _ => ?_) (fun _ => ?_) | refine gk_cond rfl rfl tE (fun _ => ?_) (fun _ => ?_)) <;> (try first | (exfalso; omega; done) | (rename_i hx; exact absurd rfl hx) | (rename_i hx; cases hx; done)))))
  all_goals refine gk_ret hT rfl rfl (.tmp rfl .nil) (fun w' hk => ?_)
  all_goals refine ⟨?_, hk.toBelow⟩
  all_goals (rename_i h1; unfold cmpI)
  · rw [if_pos h1]; rfl
  · rename_i h2
    rw [if_neg h2, if_pos h1]; rfl
  · rename_i h2
    rw [if_neg h2, if_neg h1]; rfl
theorem cmpI_any (a b : Int) (w : World) : Calls Try.prog 127 [.int .i64 a, .int .i64 b].toArray w fun e w' => e = .returned (.int .i64 (cmpI a b)) ∧ Below w.heap.size w w' := by
  refine g_enter0 T [] [] [] Try.func127 rfl Try.ntmps127 rfl (Kn.start _) ?_
  (repeat' (first | (refine gG ?_; try intro _) | (refine g_mv rfl ?_; first | refine mv_call_bel (fun w hk => nanI_any a w) rfl rfl rfl rfl rfl (by kernel_rfl) ?_ | refine mv_call_bel (fun w hk => nanI_any b w) rfl rfl rfl rfl rfl (by kernel_rfl) ?_) | ((first | refine g_split rfl rfl tE (fun _ => ?_) (fun _ => ?_) | refine gk_cond rfl rfl tE (fun _ => ?_) (fun _ => ?_)) <;> (try first | (exfalso; omega; done) | (rename_i hx; exact absurd rfl hx) | (rename_i hx; cases hx; done)))))
  all_goals refine gk_ret hT rfl rfl (.tmp rfl .nil) (fun w' hk => ?_)
  all_goals refine ⟨?_, hk.toBelow⟩
  all_goals (rename_i h1; unfold cmpI)
  · rw [if_pos h1]; rfl
  · rename_i h2
    rw [if_neg h2, if_pos h1]; rfl
  · rename_i h2
    rw [if_neg h2, if_neg h1]; rfl
theorem orV_at : ∀ {L : List Int} {k : Nat} {x : Int}, L[k]? = some x → x ≠ 0 → (∀ j, j < k → L[j]? = some 0) → orV L = x
  | [], _, _, h, _, _ => by simp at h
  | y :: r, 0, x, h, hx, _ => by
    obtain rfl : y = x := by simpa using h
    unfold orV
    rw [if_pos hx]
  | y :: r, k + 1, x, h, hx, hj => by
    obtain rfl : y = 0 := by simpa using hj 0 (Nat.succ_pos _)
    unfold orV
    rw [if_neg (fun h => h rfl)]
    exact orV_at (k := k) (by simpa using h) hx fun j hj' => by simpa using hj (j + 1) (by omega)
theorem orV_no : ∀ {L : List Int}, (∀ j, j < L.length → L[j]? = some 0) → orV L = 0
  | [], _ => rfl
  | y :: r, hj => by
    obtain rfl : y = 0 := by simpa using hj 0 (by simp)
    unfold orV
    rw [if_neg (fun h => h rfl)]
    exact orV_no fun j hj' => by simpa using hj (j + 1) (by simpa using hj')
theorem or_any (A : Option Addr) (n c : Nat) (L : List Int) (w : World) (hn : n = L.length) (h9 : n ≤ 100) (hs : Rd1 w (sl A 1 (IE .i64) L)) :
    Calls Try.prog 125 [.slice A n c].toArray w fun e w' => e = .returned (.int .i64 (orV L)) ∧ Below w.heap.size w w' := by
  refine g_enter0 T [] [] [sl A 1 (IE .i64) L] Try.func125 rfl Try.ntmps125 rfl (Rds.cons hs .nil).kn ?_
  (repeat (refine gG ?_; try intro _))
  refine gk_loop_sel (fun (q : Nat × Nat) => match q with | (k, u) => (k ≤ n ∧ ∀ j, j < k → L[j]? = some 0)) (fun (q : Nat × Nat) => match q with | (k, u) => [(6, .slice A n c), (3, .int .i64 0), (7, .int .i64 n), (8, .int .i64 k)]) (fun (q : Nat × Nat) => match q with | (k, u) => []) (fun (q : Nat × Nat) => match q with | (k, u) => [sl A 1 (IE .i64) L]) (fun (q : Nat × Nat) => match q with | (k, u) => n - k) (0, 0) rfl ⟨Nat.zero_le _, fun i hi => absurd hi (Nat.not_lt_zero _)⟩ (by repeat (first | exact trivial | refine ⟨rfl, ?_⟩)) sA sS ?_
  rintro ⟨k, u⟩ hI
  replace hI : (k ≤ n ∧ ∀ j, j < k → L[j]? = some 0) := hI
  change GK _ _ [(6, .slice A n c), (3, .int .i64 0), (7, .int .i64 n), (8, .int .i64 k)] [] [sl A 1 (IE .i64) L]
  obtain ⟨hk1, hp⟩ := hI
  by_cases hlt : k < n
  · obtain ⟨x, hx⟩ : ∃ x, L[k]? = some x := ⟨L[k], List.getElem?_eq_getElem (by omega)⟩
    refine gk_elem (enc := IE .i64) (L := L) k mE (by omega) (by decide) (fun b o y eA hy => ?_)
    subst eA
    obtain rfl : x = y := by rw [hx] at hy; exact Option.some.inj hy
    (repeat (refine gG ?_; try intro _))
    refine gk_cond rfl rfl (tells_tB _) (fun _ => ?_) (fun h => absurd (by omega) h)
    (repeat (refine gG ?_; try intro _))
    refine gk_cond rfl rfl (tells_tB _) (fun he => ?_) (fun he => ?_)
    · (repeat (refine gG ?_; try intro _))
      refine gk_ret hT rfl rfl (.tmp rfl .nil) (fun w' hk => ?_)
      exact ⟨by rw [orV_at hx he hp]; rfl, hk.toBelow⟩
    · have he' : x = 0 := Classical.not_not.1 he
      (repeat (refine gG ?_; try intro _))
      refine gk_again_sel rfl (k + 1, u) ⟨by omega, fun j hj => by
        by_cases e : j = k
        · subst e; rw [hx, he']
        · exact hp j (by omega)⟩ (by dsimp only; omega) (by repeat (first | exact trivial | refine ⟨rfl, ?_⟩)) sA sS
  · (repeat' (first | (refine gG ?_; try intro _) | ((first | refine g_split rfl rfl tE (fun _ => ?_) (fun _ => ?_) | refine gk_cond rfl rfl tE (fun _ => ?_) (fun _ => ?_)) <;> (try first | (exfalso; omega; done) | (rename_i hx; exact absurd rfl hx) | (rename_i hx; cases hx; done)))))
    refine gk_ret hT rfl rfl (.tmp rfl .nil) (fun w' hk => ?_)
    exact ⟨by rw [orV_no fun j hj => hp j (by omega)]; rfl, hk.toBelow⟩
/-- A literal, as a slice that may be read. -/
theorem rd_blk {E : List Nat} {w0 w : World} {O R : List Fact} {g T : Nat} {cs : List Value} (hk : Kn E w0 w O R) (h : blk g cs T ∈ O) {α : Type} [Inhabited α] {sz : Nat} {enc : α → Nat → Value} {M : List α} (he : cs = flatF sz enc M) : Rd1 w (sl (some ⟨g, 0, none⟩) sz enc M) :=
  ⟨src_blk (X := ⟨Try.prog, Gx.T, Try.f124, 0, E, w0, fun _ _ => True, [], none⟩) (R := R) h he w hk, fun b hb => by
    obtain ⟨_, a, ha, hb⟩ := hb
    injection ha with ha
    subst ha
    subst hb
    exact hk.ltO _ h _ rfl⟩
theorem dcmp_any (a b : Tim) (w : World) : Calls Try.prog 124 [a.val, b.val].toArray w fun e w' => e = .returned (.int .i64 (cmpT a b)) ∧ Below w.heap.size w w' := by
  refine g_enter0 T [] [] [] Try.func124 rfl Try.ntmps124 rfl (Kn.start _) ?_
  (repeat (refine gG ?_; try intro _))
  refine gk_any [0, 1] (Cut _ (fun _ : Unit => [(4, .int .i64 (cmpT a b))]) (fun _ => []) (fun _ => [])) rfl rfl (by kernel_rfl) ?_ (cut_k fun _ => ?_)
  · skip
    refine gb_take 0 rfl (by decide +kernel) rfl rfl (ys_ev (nw := true) hT rfl sI) sF ?_
    refine gb_take 1 rfl (by decide +kernel) rfl rfl (by first | exact ys_blk hT rfl rfl mE rfl rfl | exact ys_row hT rfl rfl mE rfl rfl | exact ys_row0 hT rfl rfl mE rfl rfl) sF ?_
    refine gb_take 2 rfl (by decide +kernel) rfl rfl (ys_ev (nw := true) hT rfl sI) sF ?_
    refine gb_take 3 rfl (by decide +kernel) rfl rfl (by first | exact ys_blk hT rfl rfl mE rfl rfl | exact ys_row hT rfl rfl mE rfl rfl | exact ys_row0 hT rfl rfl mE rfl rfl) sF ?_
    refine gb_take 5 rfl (by decide +kernel) rfl rfl (ys_ev (nw := true) hT rfl sI) sF ?_
    refine gb_take 6 rfl (by decide +kernel) rfl rfl (by first | exact ys_blk hT rfl rfl mE rfl rfl | exact ys_row hT rfl rfl mE rfl rfl | exact ys_row0 hT rfl rfl mE rfl rfl) sF ?_
    refine gb_take 7 rfl (by decide +kernel) rfl rfl (ys_ev (nw := true) hT rfl sI) sF ?_
    refine gb_take 8 rfl (by decide +kernel) rfl rfl (by first | exact ys_blk hT rfl rfl mE rfl rfl | exact ys_row hT rfl rfl mE rfl rfl | exact ys_row0 hT rfl rfl mE rfl rfl) sF ?_
    refine gb_take 10 rfl (by decide +kernel) rfl rfl (ys_ev (nw := true) hT rfl sI) sF ?_
    refine gb_take 11 rfl (by decide +kernel) rfl rfl (by first | exact ys_blk hT rfl rfl mE rfl rfl | exact ys_row hT rfl rfl mE rfl rfl | exact ys_row0 hT rfl rfl mE rfl rfl) sF ?_
    refine gb_take 12 rfl (by decide +kernel) rfl rfl (ys_ev (nw := true) hT rfl sI) sF ?_
    refine gb_take 13 rfl (by decide +kernel) rfl rfl (by first | exact ys_blk hT rfl rfl mE rfl rfl | exact ys_row hT rfl rfl mE rfl rfl | exact ys_row0 hT rfl rfl mE rfl rfl) sF ?_
    refine gb_only 4 (by decide +kernel) rfl rfl ?_
    refine mv_call_bel (fun w hk => cmpU_any a.t b.t w) rfl rfl rfl rfl rfl (by kernel_rfl) ?_
    refine ⟨sF, ?_⟩
    refine gb_only 9 (by decide +kernel) rfl rfl ?_
    refine mv_call_bel (fun w hk => cmpI_any a.k b.k w) rfl rfl rfl rfl rfl (by kernel_rfl) ?_
    refine ⟨sF, ?_⟩
    refine gb_only 14 (by decide +kernel) rfl rfl ?_
    refine mv_call_bel (fun w hk => cmpI_any a.i b.i w) rfl rfl rfl rfl rfl (by kernel_rfl) ?_
    refine ⟨sF, ?_⟩
    refine gb_only 15 (by decide +kernel) rfl rfl ?_
    (refine mv_buildSlice (len := 3) rfl hT rfl rfl rfl rfl rfl rfl rfl rfl ?_; intro g7)
    refine ⟨sF, ?_⟩
    refine gb_only 16 (by decide +kernel) rfl rfl ?_
    refine mv_call_bel (fun w hk => or_any (some ⟨g7, 0, none⟩) 3 3 [cmpI a.t b.t, cmpI a.k b.k, cmpI a.i b.i] w rfl (by decide) (rd_blk hk mE rfl)) rfl rfl rfl rfl rfl (by kernel_rfl) ?_
    refine ⟨sF, ?_⟩
    refine gb_take 17 rfl (by decide +kernel) rfl rfl (ys_ev (nw := true) hT rfl sI) sF ?_
    refine gb_nil (by decide +kernel) ?_
    exact ⟨(), (by repeat (first | exact trivial | refine ⟨rfl, ?_⟩)), sA, sS⟩
  · (repeat (refine gG ?_; try intro _))
    refine gk_ret hT rfl rfl (.tmp rfl .nil) (fun w' hk => ?_)
    exact ⟨rfl, hk.toBelow⟩
theorem dof_any (a : Tim) (w : World) : Calls Try.prog 62 [a.val].toArray w fun e w' => e = .returned (pairV .i64 a.key) ∧ Below w.heap.size w w' := by
  refine g_enter0 T [] [] [] Try.func62 rfl Try.ntmps62 rfl (Kn.start _) ?_
  (repeat' (first | (refine gG ?_; try intro _) | ((first | refine g_split rfl rfl tE (fun _ => ?_) (fun _ => ?_) | refine gk_cond rfl rfl tE (fun _ => ?_) (fun _ => ?_)) <;> (try first | (exfalso; omega; done) | (rename_i hx; exact absurd rfl hx) | (rename_i hx; cases hx; done)))))
  refine gk_ret hT rfl rfl (.cell rfl mE rfl rfl .nil) (fun w' hk => ?_)
  exact ⟨rfl, hk.toBelow⟩
end Go.Proofs.Ytgpfedmfbkhhcaa.Du

