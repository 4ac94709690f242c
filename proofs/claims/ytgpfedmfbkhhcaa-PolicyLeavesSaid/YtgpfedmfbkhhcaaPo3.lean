/- Rows of numbers: Clone, Contains, Reverse. -/
import Derived.Test.YtgpfedmfbkhhcaaPo2
import Derived.Test.YtgpfedmfbkhhcaaGxX
import Derived.Test.YtgpfedmfbkhhcaaGxY
import Derived.Test.YtgpfedmfbkhhcaaHp1
namespace Go.Proofs.Ytgpfedmfbkhhcaa.Po
open Go.RowKit Mem Gx Ct Dd Hp
set_option linter.unusedVariables false
set_option linter.unusedSimpArgs false
set_option maxRecDepth 100000
set_option maxHeartbeats 2000000
theorem oneU : ∀ (x : Int) (j : Nat), (IE .u64 x j).oneCell' = true := fun x j => rfl
theorem oneM : ∀ (x : MarkD) (j : Nat), (ME x j).oneCell' = true := by intro x j; rcases j with _ | j <;> rfl
theorem mem_pos {L : List Int} {id : Int} : 0 ≤ posV L id ↔ id ∈ L := by
  unfold posV
  cases hp : pos L id with
  | none => exact ⟨fun h => absurd h (by decide), fun h => absurd h (pos_no hp)⟩
  | some i => exact ⟨fun _ => List.mem_of_getElem? (pos_some hp).1, fun _ => Int.natCast_nonneg _⟩
theorem idx_any (A : Option Addr) (n c : Nat) (L : List Int) (id : Int) (w : World) (hn : n = L.length) (h9 : n ≤ maxLen) (hs : Rd1 w (sl A 1 (IE .i64) L)) :
    Calls Try.prog 57 [.slice A n c, .int .i64 id].toArray w fun e w' => e = .returned (.int .i64 (posV L id)) ∧ Below w.heap.size w w' := by
  unfold maxLen at h9
  refine g_enter0 T [] [] [sl A 1 (IE .i64) L] Try.func57 rfl Try.ntmps57 rfl (Rds.cons hs .nil).kn ?_
  (repeat (refine gG ?_; try intro _))
  refine gk_loop_sel (fun (q : Nat × Nat) => match q with | (k, u) => (k ≤ n ∧ ∀ i, i < k → L[i]? ≠ some id)) (fun (q : Nat × Nat) => match q with | (k, u) => [(0, .slice A n c), (1, .int .i64 id), (7, .int .i64 n), (8, .int .i64 k)]) (fun (q : Nat × Nat) => match q with | (k, u) => []) (fun (q : Nat × Nat) => match q with | (k, u) => [sl A 1 (IE .i64) L]) (fun (q : Nat × Nat) => match q with | (k, u) => n - k) (0, 0) rfl ⟨Nat.zero_le _, fun i hi => absurd hi (Nat.not_lt_zero _)⟩ (by repeat (first | exact trivial | refine ⟨rfl, ?_⟩)) sA sS ?_
  rintro ⟨k, u⟩ hI
  replace hI : (k ≤ n ∧ ∀ i, i < k → L[i]? ≠ some id) := hI
  change GK _ _ [(0, .slice A n c), (1, .int .i64 id), (7, .int .i64 n), (8, .int .i64 k)] [] [sl A 1 (IE .i64) L]
  obtain ⟨hk1, hp⟩ := hI
  by_cases hlt : k < n
  · obtain ⟨x, hx⟩ : ∃ x, L[k]? = some x := ⟨L[k], List.getElem?_eq_getElem (by omega)⟩
    refine gk_elem (enc := IE .i64) (L := L) k mE (by omega) (by decide) (fun b o y eA hy => ?_)
    subst eA
    obtain rfl : x = y := by rw [hx] at hy; exact Option.some.inj hy
    (repeat (refine gG ?_; try intro _))
    refine gk_cond rfl rfl (tells_tB _) (fun _ => ?_) (fun h => absurd (by omega) h)
    (repeat (refine gG ?_; try intro _))
    refine gk_cond rfl rfl (tells_tB _) (fun he => ?_) (fun he => ?_)
    · (repeat (refine gG ?_; try intro _))
      refine gk_ret hT rfl rfl (.tmp rfl .nil) (fun w' hk => ?_)
      refine ⟨?_, hk.toBelow⟩
      have : posV L id = (k : Int) := by
        unfold posV
        rw [pos_at (i := k) (by rw [hx]; exact congrArg some he.symm) hp]
      rw [this]
      rfl
    · (repeat (refine gG ?_; try intro _))
      refine gk_again_sel rfl (k + 1, u) ⟨by omega, fun i hi => by
        by_cases e : i = k
        · subst e; rw [hx]; exact fun h => he (Option.some.inj h).symm
        · exact hp i (by omega)⟩ (by dsimp only; omega) (by repeat (first | exact trivial | refine ⟨rfl, ?_⟩)) sA sS
  · (repeat' (first | (refine gG ?_; try intro _) | ((first | refine g_split rfl rfl tE (fun _ => ?_) (fun _ => ?_) | refine gk_cond rfl rfl tE (fun _ => ?_) (fun _ => ?_)) <;> (try first | (exfalso; omega; done) | (rename_i hx; exact absurd rfl hx) | (rename_i hx; cases hx; done)))))
    refine gk_ret hT rfl rfl (.tmp rfl .nil) (fun w' hk => ?_)
    refine ⟨?_, hk.toBelow⟩
    have : posV L id = -1 := by
      unfold posV
      rw [pos_none fun i hi => hp i (by omega)]
    rw [this]
    rfl
theorem cont_any (A : Option Addr) (n c : Nat) (L : List Int) (id : Int) (w : World) (hn : n = L.length) (h9 : n ≤ maxLen) (hs : Rd1 w (sl A 1 (IE .i64) L)) :
    Calls Try.prog 29 [.slice A n c, .int .i64 id].toArray w fun e w' => e = .returned (.bool (tB (id ∈ L))) ∧ Below w.heap.size w w' := by
  refine g_enter0 T [] [] [sl A 1 (IE .i64) L] Try.func29 rfl Try.ntmps29 rfl (Rds.cons hs .nil).kn ?_
  (repeat' (first | (refine gG ?_; try intro _) | (refine g_mv rfl ?_; first | refine mv_call_bel (fun w hk => idx_any A n c L id w hn h9 (hk.rR mE)) rfl rfl rfl rfl rfl (by kernel_rfl) ?_) | ((first | refine g_split rfl rfl tE (fun _ => ?_) (fun _ => ?_) | refine gk_cond rfl rfl tE (fun _ => ?_) (fun _ => ?_)) <;> (try first | (exfalso; omega; done) | (rename_i hx; exact absurd rfl hx) | (rename_i hx; cases hx; done)))))
  refine gk_ret hT rfl rfl (.tmp rfl .nil) (fun w' hk => ?_)
  exact ⟨by rw [← tB_congr (mem_pos (L := L) (id := id))]; rfl, hk.toBelow⟩
theorem idxU_any (A : Option Addr) (n c : Nat) (L : List Int) (id : Int) (w : World) (hn : n = L.length) (h9 : n ≤ maxLen) (hs : Rd1 w (sl A 1 (IE .u64) L)) :
    Calls Try.prog 80 [.slice A n c, .int .u64 id].toArray w fun e w' => e = .returned (.int .i64 (posV L id)) ∧ Below w.heap.size w w' := by
  unfold maxLen at h9
  refine g_enter0 T [] [] [sl A 1 (IE .u64) L] Try.func80 rfl Try.ntmps80 rfl (Rds.cons hs .nil).kn ?_
  (repeat (refine gG ?_; try intro _))
  refine gk_loop_sel (fun (q : Nat × Nat) => match q with | (k, u) => (k ≤ n ∧ ∀ i, i < k → L[i]? ≠ some id)) (fun (q : Nat × Nat) => match q with | (k, u) => [(0, .slice A n c), (1, .int .u64 id), (7, .int .i64 n), (8, .int .i64 k)]) (fun (q : Nat × Nat) => match q with | (k, u) => []) (fun (q : Nat × Nat) => match q with | (k, u) => [sl A 1 (IE .u64) L]) (fun (q : Nat × Nat) => match q with | (k, u) => n - k) (0, 0) rfl ⟨Nat.zero_le _, fun i hi => absurd hi (Nat.not_lt_zero _)⟩ (by repeat (first | exact trivial | refine ⟨rfl, ?_⟩)) sA sS ?_
  rintro ⟨k, u⟩ hI
  replace hI : (k ≤ n ∧ ∀ i, i < k → L[i]? ≠ some id) := hI
  change GK _ _ [(0, .slice A n c), (1, .int .u64 id), (7, .int .i64 n), (8, .int .i64 k)] [] [sl A 1 (IE .u64) L]
  obtain ⟨hk1, hp⟩ := hI
  by_cases hlt : k < n
  · obtain ⟨x, hx⟩ : ∃ x, L[k]? = some x := ⟨L[k], List.getElem?_eq_getElem (by omega)⟩
    refine gk_elem (enc := IE .u64) (L := L) k mE (by omega) (by decide) (fun b o y eA hy => ?_)
    subst eA
    obtain rfl : x = y := by rw [hx] at hy; exact Option.some.inj hy
    (repeat (refine gG ?_; try intro _))
    refine gk_cond rfl rfl (tells_tB _) (fun _ => ?_) (fun h => absurd (by omega) h)
    (repeat (refine gG ?_; try intro _))
    refine gk_cond rfl rfl (tells_tB _) (fun he => ?_) (fun he => ?_)
    · (repeat (refine gG ?_; try intro _))
      refine gk_ret hT rfl rfl (.tmp rfl .nil) (fun w' hk => ?_)
      refine ⟨?_, hk.toBelow⟩
      have : posV L id = (k : Int) := by
        unfold posV
        rw [pos_at (i := k) (by rw [hx]; exact congrArg some he.symm) hp]
      rw [this]
      rfl
    · (repeat (refine gG ?_; try intro _))
      refine gk_again_sel rfl (k + 1, u) ⟨by omega, fun i hi => by
        by_cases e : i = k
        · subst e; rw [hx]; exact fun h => he (Option.some.inj h).symm
        · exact hp i (by omega)⟩ (by dsimp only; omega) (by repeat (first | exact trivial | refine ⟨rfl, ?_⟩)) sA sS
  · (repeat' (first | (refine gG ?_; try intro _) | ((first | refine g_split rfl rfl tE (fun _ => ?_) (fun _ => ?_) | refine gk_cond rfl rfl tE (fun _ => ?_) (fun _ => ?_)) <;> (try first | (exfalso; omega; done) | (rename_i hx; exact absurd rfl hx) | (rename_i hx; cases hx; done)))))
    refine gk_ret hT rfl rfl (.tmp rfl .nil) (fun w' hk => ?_)
    refine ⟨?_, hk.toBelow⟩
    have : posV L id = -1 := by
      unfold posV
      rw [pos_none fun i hi => hp i (by omega)]
    rw [this]
    rfl
theorem contU_any (A : Option Addr) (n c : Nat) (L : List Int) (id : Int) (w : World) (hn : n = L.length) (h9 : n ≤ maxLen) (hs : Rd1 w (sl A 1 (IE .u64) L)) :
    Calls Try.prog 74 [.slice A n c, .int .u64 id].toArray w fun e w' => e = .returned (.bool (tB (id ∈ L))) ∧ Below w.heap.size w w' := by
  refine g_enter0 T [] [] [sl A 1 (IE .u64) L] Try.func74 rfl Try.ntmps74 rfl (Rds.cons hs .nil).kn ?_
  (repeat' (first | (refine gG ?_; try intro _) | (refine g_mv rfl ?_; first | refine mv_call_bel (fun w hk => idxU_any A n c L id w hn h9 (hk.rR mE)) rfl rfl rfl rfl rfl (by kernel_rfl) ?_) | ((first | refine g_split rfl rfl tE (fun _ => ?_) (fun _ => ?_) | refine gk_cond rfl rfl tE (fun _ => ?_) (fun _ => ?_)) <;> (try first | (exfalso; omega; done) | (rename_i hx; exact absurd rfl hx) | (rename_i hx; cases hx; done)))))
  refine gk_ret hT rfl rfl (.tmp rfl .nil) (fun w' hk => ?_)
  exact ⟨by rw [← tB_congr (mem_pos (L := L) (id := id))]; rfl, hk.toBelow⟩
theorem cloneU_own (A : Option Addr) (n c : Nat) (L : List Int) (w : World) (hn : n = L.length) (hb : n ≤ 100000000) (hs : Sl w A 1 (IE .u64) L) :
    Calls Try.prog 46 [.slice A n c].toArray w (Ret (fun _ : Value => True) (fun v => v) (fun v => [own 0 31 1 v (IE .u64) L]) w) := by
  rcases A with _ | a
  · have hL : L = [] := by
      rcases Nat.eq_zero_or_pos L.length with h | h
      · exact List.length_eq_zero_iff.1 h
      · obtain ⟨b, off, e, _⟩ := hs h; cases e
    subst hL
    refine g_enter0 T [] [] [] Try.func46 rfl Try.ntmps46 rfl (Kn.start _) ?_
    (repeat (refine gG ?_; try intro _))
    refine gk_own 0 31 1 (IE .u64) ?_
    refine gk_ret hT rfl rfl (.tmp rfl .nil) (fun w' hk => ?_)
    exact Ret.mk (.slice none 0 0) trivial rfl hk sA
  · refine g_enter0 T [] [] [sl (some a) 1 (IE .u64) L] Try.func46 rfl Try.ntmps46 rfl ((Kn.start w).argR hs (by decide) (fun _ h => by cases h)) ?_
    (repeat (refine gG1 ?_; try intro _))
    refine g_mv rfl (mv_empty 1 (IE .u64) rfl hT rfl rfl rfl rfl rfl (fun g => ?_))
    (repeat (refine gG1 ?_; try intro _))
    refine g_mv rfl (mv_append (L := []) rfl L rfl rfl rfl rfl elt_U (by intro _; first | ((repeat (first | with_reducible exact Upd.here _ | with_reducible apply Upd.there)); done) | ((repeat (first | exact Upd.here _ | apply Upd.there)); done) | fail) (src_R mE) hn (by intro x j; rfl) (by simp [maxLen]; omega) (by simp; omega) (Nat.zero_le _) (fun v => ?_))
    (repeat (refine gG1 ?_; try intro _))
    refine gk_ret hT rfl rfl (.tmp rfl .nil) (fun w' hk => ?_)
    exact Ret.mk v trivial rfl hk sA
/-- A row that is being turned round. -/
structure RevI (L : List Int) (i J : Nat) (L1 : List Int) : Prop where
  len : L1.length = L.length
  sum : i + J = L.length
  lo : ∀ m, m < i → L1[m]? = L[L.length - 1 - m]?
  hi : ∀ m, J ≤ m → m < L.length → L1[m]? = L[L.length - 1 - m]?
  mid : ∀ m, i ≤ m → m < J → L1[m]? = L[m]?
theorem RevI.start (L : List Int) : RevI L 0 L.length L := ⟨rfl, Nat.zero_add _, fun m h => absurd h (Nat.not_lt_zero _), fun m h1 h2 => by omega, fun m _ _ => rfl⟩
theorem RevI.done {L L1 : List Int} {i J : Nat} (h : RevI L i J L1) (hij : J ≤ i + 1) : L1 = L.reverse := by
  refine List.ext_getElem? fun m => ?_
  have h1 := h.len
  have h2 := h.sum
  by_cases hm : m < L.length
  · rw [List.getElem?_reverse hm]
    by_cases a : m < i
    · exact h.lo m a
    · by_cases b : J ≤ m
      · exact h.hi m b hm
      · rw [h.mid m (by omega) (by omega), show L.length - 1 - m = m by omega]
  · rw [List.getElem?_eq_none (by omega), List.getElem?_eq_none (by rw [List.length_reverse]; omega)]
theorem RevI.step {L L1 : List Int} {i J : Nat} {x y : Int} (h : RevI L i J L1) (hij : i + 1 < J) (hx : L1[i]? = some x) (hy : L1[J - 1]? = some y) : RevI L (i + 1) (J - 1) (swp L1 i (J - 1) x y) := by
  have h1 := h.len
  have h2 := h.sum
  have g := fun k => swp_get (L := L1) (i := i) (j := J - 1) (x := x) (y := y) (k := k) (by omega) (by omega)
  have ex : L[i]? = some x := by rw [← h.mid i (Nat.le_refl _) (by omega)]; exact hx
  have ey : L[J - 1]? = some y := by rw [← h.mid (J - 1) (by omega) (by omega)]; exact hy
  refine ⟨by rw [swp_len]; exact h1, by omega, fun m hm => ?_, fun m hm hm2 => ?_, fun m hm hm2 => ?_⟩
  · rw [g]
    by_cases e : m = i
    · subst e
      rw [if_neg (by omega), if_pos rfl, show L.length - 1 - m = J - 1 by omega, ey]
    · rw [if_neg (by omega), if_neg e]
      exact h.lo m (by omega)
  · rw [g]
    by_cases e : m = J - 1
    · subst e
      rw [if_pos rfl, show L.length - 1 - (J - 1) = i by omega, ex]
    · rw [if_neg e, if_neg (by omega)]
      exact h.hi m (by omega) hm2
  · rw [g, if_neg (by omega), if_neg (by omega)]
    exact h.mid m (by omega) (by omega)
theorem rev_nil (A : Option Addr) (c : Nat) (w : World) : Calls Try.prog 45 [.slice A 0 c].toArray w fun e w' => e = .returned (.tuple #[]) ∧ Below w.heap.size w w' := by
  refine g_enter0 T [] [] [] Try.func45 rfl Try.ntmps45 rfl (Kn.start _) ?_
  (repeat (refine gG ?_; try intro _))
  refine gk_rounds 1 rfl ?_
  (repeat' (first | (refine gG ?_; try intro _) | ((first | refine g_split rfl rfl tE (fun _ => ?_) (fun _ => ?_) | refine gk_cond rfl rfl tE (fun _ => ?_) (fun _ => ?_)) <;> (try first | (exfalso; omega; done) | (rename_i hx; exact absurd rfl hx) | (rename_i hx; cases hx; done)))))
  refine gk_fin hT rfl rfl .nil (fun w' hk => ?_)
  exact ⟨rfl, hk.toBelow⟩
abbrev rU (g n c : Nat) (L : List Int) : Fact := own 0 31 1 (.slice (some ⟨g, 0, none⟩) n c) (IE .u64) L
theorem set_otherI {L : List Int} {i j : Nat} {x y : Int} (hx : L[i]? = some x) (hy : L[j]? = some y) : (L.set i y)[j]? = some y := by
  by_cases e : i = j
  · subst e; simp [(List.getElem?_eq_some_iff.1 hx).1]
  · rw [List.getElem?_set_ne e]; exact hy
theorem rev0_any (g n c : Nat) (L : List Int) (w : World) (hn : L.length = n) (h9 : n ≤ 1000000) (h : Rd1 w (rU g n c L)) :
    Calls Try.prog 45 [.slice (some ⟨g, 0, none⟩) n c].toArray w (RetM (rU g n c L) (fun _ : Unit => True) (fun _ => .tuple #[]) (fun _ => rU g n c L.reverse) w) := by
  refine g_enter0 T (finE (rU g n c L) w) [rU g n c L] [] Try.func45 rfl Try.ntmps45 rfl (Kn.startM h (fun b hb => (finE_mem h.2 b).2 hb) (fun ψ hψ => by cases hψ)) ?_
  (repeat (refine gG ?_; try intro _))
  refine gk_say 3 (.int .i64 ((n : Int) - 1)) rfl (by first | rfl | (congr 1; omega)) ?_
  refine gk_loop_sel (fun (q : Nat × Nat × (List Int)) => match q with | (i, J, L1) => (RevI L i J L1)) (fun (q : Nat × Nat × (List Int)) => match q with | (i, J, L1) => [(0, .slice (some ⟨g, 0, none⟩) n c), (2, (.int .i64 (i : Int))), (3, (.int .i64 ((J : Int) - 1)))]) (fun (q : Nat × Nat × (List Int)) => match q with | (i, J, L1) => [rU g n c L1]) (fun (q : Nat × Nat × (List Int)) => match q with | (i, J, L1) => []) (fun (q : Nat × Nat × (List Int)) => match q with | (i, J, L1) => J - i) (0, n, L) rfl (hn ▸ RevI.start L) (by repeat (first | exact trivial | refine ⟨rfl, ?_⟩)) sA sS ?_
  rintro ⟨i, J, L1⟩ hI
  replace hI : (RevI L i J L1) := hI
  change GK _ _ [(0, .slice (some ⟨g, 0, none⟩) n c), (2, (.int .i64 (i : Int))), (3, (.int .i64 ((J : Int) - 1)))] [rU g n c L1] []
  have hl1 := hI.len
  have hs1 := hI.sum
  by_cases hi : i + 1 < J
  · (repeat' (first | (refine gG ?_; try intro _) | ((first | refine g_split rfl rfl tE (fun _ => ?_) (fun _ => ?_) | refine gk_cond rfl rfl tE (fun _ => ?_) (fun _ => ?_)) <;> (try first | (exfalso; omega; done) | (rename_i hx; exact absurd rfl hx) | (rename_i hx; cases hx; done)))))
    obtain ⟨j, rfl⟩ : ∃ j, J = j + 1 := ⟨J - 1, by omega⟩
    have hj1 : ((j + 1 : Nat) : Int) - 1 = (j : Int) := by omega
    refine gk_say 3 (.int .i64 (j : Int)) rfl (congrArg (Value.int .i64) hj1) ?_
    obtain ⟨x, hx⟩ : ∃ x, L1[i]? = some x := ⟨_, List.getElem?_eq_getElem (by omega)⟩
    obtain ⟨y, hy⟩ : ∃ y, L1[j]? = some y := ⟨_, List.getElem?_eq_getElem (by omega)⟩
    have hy2 : (L1.set (i) y)[j]? = some y := set_otherI hx hy
    have hst := hI.step hi hx hy
    rw [Nat.add_sub_cancel] at hst
    refine gk_any [] (Cut _ (fun _ : Unit => [(0, .slice (some ⟨g, 0, none⟩) n c), (2, (.int .i64 (i : Int))), (3, (.int .i64 (j : Int)))]) (fun _ => [rU g n c (swp L1 i j x y)]) (fun _ => [])) rfl rfl (by kernel_rfl) ?_ (cut_k fun _ => ?_)
    · skip
      refine gb_take 0 rfl (by decide +kernel) rfl rfl (ys_ev (nw := true) hT rfl sI) sF ?_
      refine gb_take 1 rfl (by decide +kernel) rfl rfl (ys_ev (nw := true) hT rfl sI) sF ?_
      refine gb_take 2 rfl (by decide +kernel) rfl rfl (ys_ev (nw := true) hT rfl sI) sF ?_
      refine gb_take 3 rfl (by decide +kernel) rfl rfl (ys_ev (nw := true) hT rfl sI) sF ?_
      refine gb_take 4 rfl (by decide +kernel) rfl rfl (ys_ev (nw := true) hT rfl sI) sF ?_
      refine gb_take 5 rfl (by decide +kernel) rfl rfl (ys_ev (nw := true) hT rfl sI) sF ?_
      refine gb_take 6 rfl (by decide +kernel) rfl rfl (ys_ev (nw := true) hT rfl sI) sF ?_
      refine gb_take 8 rfl (by decide +kernel) rfl rfl (ys_ev (nw := true) hT rfl sI) sF ?_
      refine gb_take 9 rfl (by decide +kernel) rfl rfl (ys_ev (nw := true) hT rfl sI) sF ?_
      refine gb_take 10 rfl (by decide +kernel) rfl rfl (ys_ev (nw := true) hT rfl sI) sF ?_
      refine gb_all (by decide +kernel) ?_
      refine gball_not (by decide +kernel) ?_
      refine gball_not (by decide +kernel) ?_
      refine gball_not (by decide +kernel) ?_
      refine gball_not (by decide +kernel) ?_
      refine gball_not (by decide +kernel) ?_
      refine gball_not (by decide +kernel) ?_
      refine gball_not (by decide +kernel) ?_
      refine gball_yes rfl rfl ?_ ?_
      · refine mv_yd rfl ((ys_load_el (S := [own 0 31 1 (.slice (some ⟨g, 0, none⟩) n c) (IE .u64) (L1)]) (o0 := 0) (sz := 1) (enc := IE .u64) (L := L1) hT (j) y 0 rfl rfl rfl (by first | rfl | omega) hy (at_own mE) rfl rfl).ydS sF) ?_
        refine ⟨sF, ?_⟩
        refine gb_only 11 (by decide +kernel) rfl rfl ?_
        refine mv_yd rfl ((ys_load_el (S := [own 0 31 1 (.slice (some ⟨g, 0, none⟩) n c) (IE .u64) (L1)]) (o0 := 0) (sz := 1) (enc := IE .u64) (L := L1) hT (i) x 0 rfl rfl rfl (by first | rfl | omega) hx (at_own mE) rfl rfl).ydS sF) ?_
        refine ⟨sF, ?_⟩
        refine gb_take 12 rfl (by decide +kernel) rfl rfl (ys_ev (nw := true) hT rfl sI) sF ?_
        refine gb_only 13 (by decide +kernel) rfl rfl ?_
        refine mv_store_own (α := Int) (g := g) (n := n) (c := c) (base := 0) (e := 31) (sz := 1) (enc := IE .u64) (L := L1) hT (i) 0 x y rfl rfl (by first | rfl | omega) rfl rfl rfl rfl hx (by decide) (fun b h1 h2 => absurd h1 (by omega)) rfl (by first | ((repeat (first | with_reducible exact Upd.here _ | with_reducible apply Upd.there)); done) | ((repeat (first | exact Upd.here _ | apply Upd.there)); done) | fail) rfl ?_
        refine ⟨sF, ?_⟩
        refine gb_take 14 rfl (by decide +kernel) rfl rfl (ys_ev (nw := true) hT rfl sI) sF ?_
        refine gb_only 15 (by decide +kernel) rfl rfl ?_
        refine mv_store_own (α := Int) (g := g) (n := n) (c := c) (base := 0) (e := 31) (sz := 1) (enc := IE .u64) (L := L1.set (i) y) hT (j) 0 y x rfl rfl (by first | rfl | omega) rfl rfl rfl rfl hy2 (by decide) (fun b h1 h2 => absurd h1 (by omega)) rfl (by first | ((repeat (first | with_reducible exact Upd.here _ | with_reducible apply Upd.there)); done) | ((repeat (first | exact Upd.here _ | apply Upd.there)); done) | fail) rfl ?_
        refine ⟨sF, ?_⟩
        refine gb_nil (by decide +kernel) ?_
        exact ⟨(), (by repeat (first | exact trivial | refine ⟨rfl, ?_⟩)), sA, List.nil_subset _⟩
      refine gball_not (by decide +kernel) ?_
      refine gball_not (by decide +kernel) ?_
      refine gball_not (by decide +kernel) ?_
      refine gball_yes rfl rfl ?_ ?_
      · refine mv_yd rfl ((ys_load_el (S := [own 0 31 1 (.slice (some ⟨g, 0, none⟩) n c) (IE .u64) (L1)]) (o0 := 0) (sz := 1) (enc := IE .u64) (L := L1) hT (i) x 0 rfl rfl rfl (by first | rfl | omega) hx (at_own mE) rfl rfl).ydS sF) ?_
        refine ⟨sF, ?_⟩
        refine gb_only 7 (by decide +kernel) rfl rfl ?_
        refine mv_yd rfl ((ys_load_el (S := [own 0 31 1 (.slice (some ⟨g, 0, none⟩) n c) (IE .u64) (L1)]) (o0 := 0) (sz := 1) (enc := IE .u64) (L := L1) hT (j) y 0 rfl rfl rfl (by first | rfl | omega) hy (at_own mE) rfl rfl).ydS sF) ?_
        refine ⟨sF, ?_⟩
        refine gb_take 12 rfl (by decide +kernel) rfl rfl (ys_ev (nw := true) hT rfl sI) sF ?_
        refine gb_only 13 (by decide +kernel) rfl rfl ?_
        refine mv_store_own (α := Int) (g := g) (n := n) (c := c) (base := 0) (e := 31) (sz := 1) (enc := IE .u64) (L := L1) hT (i) 0 x y rfl rfl (by first | rfl | omega) rfl rfl rfl rfl hx (by decide) (fun b h1 h2 => absurd h1 (by omega)) rfl (by first | ((repeat (first | with_reducible exact Upd.here _ | with_reducible apply Upd.there)); done) | ((repeat (first | exact Upd.here _ | apply Upd.there)); done) | fail) rfl ?_
        refine ⟨sF, ?_⟩
        refine gb_take 14 rfl (by decide +kernel) rfl rfl (ys_ev (nw := true) hT rfl sI) sF ?_
        refine gb_only 15 (by decide +kernel) rfl rfl ?_
        refine mv_store_own (α := Int) (g := g) (n := n) (c := c) (base := 0) (e := 31) (sz := 1) (enc := IE .u64) (L := L1.set (i) y) hT (j) 0 y x rfl rfl (by first | rfl | omega) rfl rfl rfl rfl hy2 (by decide) (fun b h1 h2 => absurd h1 (by omega)) rfl (by first | ((repeat (first | with_reducible exact Upd.here _ | with_reducible apply Upd.there)); done) | ((repeat (first | exact Upd.here _ | apply Upd.there)); done) | fail) rfl ?_
        refine ⟨sF, ?_⟩
        refine gb_nil (by decide +kernel) ?_
        exact ⟨(), (by repeat (first | exact trivial | refine ⟨rfl, ?_⟩)), sA, List.nil_subset _⟩
      refine gball_not (by decide +kernel) ?_
      refine gball_not (by decide +kernel) ?_
      refine gball_not (by decide +kernel) ?_
      refine gball_not (by decide +kernel) ?_
      exact gball_end (by decide +kernel)
    · (repeat (refine gG ?_; try intro _))
      refine gk_say 2 (.int .i64 ((i + 1 : Nat) : Int)) rfl (by first | (congr 1; done) | (congr 1; omega)) ?_
      refine gk_say 3 (.int .i64 ((j : Int) - 1)) rfl (by first | rfl | (congr 1; done) | (congr 1; omega)) ?_
      refine gk_again_sel rfl (i + 1, j, swp L1 i j x y) hst (by dsimp only; omega) (by repeat (first | exact trivial | refine ⟨rfl, ?_⟩)) sA sS
  · have he := hI.done (by omega)
    subst he
    (repeat' (first | (refine gG ?_; try intro _) | ((first | refine g_split rfl rfl tE (fun _ => ?_) (fun _ => ?_) | refine gk_cond rfl rfl tE (fun _ => ?_) (fun _ => ?_)) <;> (try first | (exfalso; omega; done) | (rename_i hx; exact absurd rfl hx) | (rename_i hx; cases hx; done)))))
    refine gk_fin hT rfl rfl .nil (fun w' hk => ?_)
    exact RetM.mk (ψ := fun _ : Unit => rU g n c L.reverse) () trivial rfl hk (fun b hb => (finE_mem h.2 b).1 hb) mE
theorem rev_own (v : Value) (L : List Int) (w : World) (h9 : L.length ≤ 1000000) (h : Rd1 w (own 0 31 1 v (IE .u64) L)) :
    Calls Try.prog 45 [v].toArray w (RetM (own 0 31 1 v (IE .u64) L) (fun _ : Unit => True) (fun _ => .tuple #[]) (fun _ => own 0 31 1 v (IE .u64) L.reverse) w) := by
  rcases L with _ | ⟨x, L⟩
  · obtain ⟨A, c, rfl, _⟩ := own_rdv h
    exact (rev_nil A c w).mono fun e w' ⟨he, hb⟩ => ⟨(), trivial, he, .of_below h hb⟩
  · obtain ⟨b, c, hv, hc, hm⟩ := own_at0 (h.1) (by simp)
    subst hv
    exact rev0_any b _ c (x :: L) w rfl h9 h
end Go.Proofs.Ytgpfedmfbkhhcaa.Po

