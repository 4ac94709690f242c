/- Texts read as runs, plain. -/
import Derived.Test.YtmehbhabheokbaaEx6
namespace Go.Proofs.Ytmehbhabheokbaa.Ex
open Go.RowKit Mem Gx Dd
set_option linter.unusedVariables false
set_option linter.unusedSimpArgs false
/-- The number that digits are. -/
def val (L : List Int) : Nat := L.foldl (fun n x => 10 * n + (x - 48).toNat) 0
theorem val_snoc (L : List Int) (x : Int) : val (L ++ [x]) = 10 * val L + (x - 48).toNat := by simp [val]
theorem val_dgs (n : Nat) : val (dgs n) = n := by
  induction n using Nat.strongRecOn with
  | _ n ih =>
    by_cases h : n < 10
    · rw [dgs_small h]
      show 10 * 0 + (48 + (n : Int) - 48).toNat = n
      omega
    · rw [dgs_big h, val_snoc, ih (n / 10) (by omega)]
      omega
theorem val_mono (L M : List Int) : val L ≤ val (L ++ M) := by
  induction M generalizing L with
  | nil => simp
  | cons x M ih =>
    have h1 := ih (L ++ [x])
    rw [List.append_assoc, List.singleton_append] at h1
    have h2 := val_snoc L x
    omega
def isD (x : Int) : Prop := 48 ≤ x ∧ x ≤ 57
/-- A number's text. -/
structure NumT (L : List Int) : Prop where
  pos : 0 < L.length
  lead : L[0]? = some 48 → L.length = 1
  dig : ∀ x ∈ L, isD x
  lt : val L < 18446744073709551616
open Classical in
noncomputable def rdP (L : List Int) : Option Nat := if NumT L then some (val L) else none
theorem rdP_some {L : List Int} (h : NumT L) : rdP L = some (val L) := by unfold rdP; rw [if_pos h]
theorem rdP_none {L : List Int} (h : ¬ NumT L) : rdP L = none := by unfold rdP; rw [if_neg h]
theorem dgs_pos (n : Nat) : 0 < (dgs n).length := by
  by_cases h : n < 10
  · rw [dgs_small h]; simp
  · rw [dgs_big h]; simp
theorem dgs_lead (n : Nat) (h0 : 0 < n) : (dgs n)[0]? ≠ some 48 := by
  induction n using Nat.strongRecOn with
  | _ n ih =>
    by_cases h : n < 10
    · rw [dgs_small h]
      intro e
      injection e with e
      omega
    · rw [dgs_big h, List.getElem?_append_left (dgs_pos _)]
      exact ih (n / 10) (by omega) (by omega)
theorem numT_dgs {n : Nat} (h : n < 18446744073709551616) : NumT (dgs n) := ⟨dgs_pos n, fun e => by
  rcases Nat.eq_zero_or_pos n with h0 | h0
  · subst h0; rw [dgs_small (by decide)]; rfl
  · exact absurd e (dgs_lead n h0), fun x hx => dgs_rng n x hx, by rw [val_dgs]; exact h⟩
theorem rdP_dgs {n : Nat} (h : n < 18446744073709551616) : rdP (dgs n) = some n := by rw [rdP_some (numT_dgs h), val_dgs]
/-- The place of a byte. -/
def fst? (c : Int) : List Int → Option Nat
  | [] => none
  | x :: l => if x = c then some 0 else (fst? c l).map (· + 1)
theorem fst_app {c : Int} {L M : List Int} (h : ∀ x ∈ L, x ≠ c) : fst? c (L ++ c :: M) = some L.length := by
  induction L with
  | nil => simp [fst?]
  | cons x L ih =>
    rw [List.cons_append, fst?, if_neg (h x (.head _)), ih fun y hy => h y (List.mem_cons_of_mem _ hy)]
    rfl
theorem fst_none {c : Int} {L : List Int} (h : ∀ x ∈ L, x ≠ c) : fst? c L = none := by
  induction L with
  | nil => rfl
  | cons x L ih => rw [fst?, if_neg (h x (.head _)), ih fun y hy => h y (List.mem_cons_of_mem _ hy)]; rfl
theorem fst_of {c : Int} {L : List Int} {i : Nat} (h : ∀ (j : Nat) (x : Int), j < i → L[j]? = some x → x ≠ c) (hi : L[i]? = some c) : fst? c L = some i := by
  have e : L = L.take i ++ c :: L.drop (i + 1) := by
    obtain ⟨h1, h2⟩ := List.getElem?_eq_some_iff.1 hi
    rw [← h2, List.getElem_cons_drop, List.take_append_drop]
  have hl : (L.take i).length = i := by
    rw [List.length_take, Nat.min_eq_left]
    have := (List.getElem?_eq_some_iff.1 hi).1
    omega
  rw [e, fst_app, hl]
  intro x hx
  obtain ⟨j, hj⟩ := List.getElem?_of_mem hx
  rw [List.getElem?_take] at hj
  split at hj
  · exact h j x (by assumption) hj
  · cases hj
theorem fst_no {c : Int} {L : List Int} (h : ∀ (j : Nat) (x : Int), L[j]? = some x → x ≠ c) : fst? c L = none := fst_none fun x hx => by
  obtain ⟨j, hj⟩ := List.getElem?_of_mem hx
  exact h j x hj
/-- The two ends of a piece. -/
noncomputable def endsP (a b : List Int) : Option (Nat × Nat) := match rdP a, rdP b with
  | some n, some m => if n ≤ 4096 ∧ m ≤ 4096 then some (n, m) else none
  | _, _ => none
noncomputable def pairP (L : List Int) : Option (Nat × Nat) := match fst? 45 L with
  | some i => endsP (L.take i) (L.drop (i + 1))
  | none => endsP L L
theorem endsP_le {a b : List Int} {n m : Nat} (h : endsP a b = some (n, m)) : n ≤ 4096 ∧ m ≤ 4096 := by
  unfold endsP at h
  split at h
  · split at h
    · injection h with h
      injection h with h1 h2
      omega
    · cases h
  · cases h
theorem pairP_le {L : List Int} {n m : Nat} (h : pairP L = some (n, m)) : n ≤ 4096 ∧ m ≤ 4096 := by
  unfold pairP at h
  split at h <;> exact endsP_le h
theorem no45 {n : Nat} : ∀ x ∈ dgs n, x ≠ 45 := fun x hx => by have := dgs_rng n x hx; omega
theorem pairP_txt {r : RunD} (h : 1 ≤ r.m ∧ r.m ≤ 4097 ∧ 0 ≤ r.f ∧ r.f ≤ 4096) (h2 : r.f + r.m ≤ 4097) : pairP (txtR r) = some (r.f.toNat, (r.f + r.m - 1).toNat) := by
  have e : ∀ n m : Nat, n ≤ 4096 → m ≤ 4096 → endsP (dgs n) (dgs m) = some (n, m) := fun n m h1 h2 => by
    unfold endsP
    rw [rdP_dgs (by omega), rdP_dgs (by omega)]
    simp only
    rw [if_pos ⟨h1, h2⟩]
  unfold pairP txtR
  by_cases h1 : 1 < r.m
  · rw [if_pos h1, fst_app no45]
    simp only
    rw [List.take_left' rfl, show (dgs r.f.toNat ++ 45 :: dgs (r.f + r.m - 1).toNat).drop ((dgs r.f.toNat).length + 1) = dgs (r.f + r.m - 1).toNat by rw [List.drop_append]; simp]
    exact e _ _ (by omega) (by omega)
  · rw [if_neg h1, List.append_nil, fst_none no45]
    simp only
    rw [show (r.f + r.m - 1).toNat = r.f.toNat by omega]
    exact e _ _ (by omega) (by omega)
/-- Read so far: where the piece begins, the runs. -/
noncomputable def rdN (s : List Int) : Nat → Option (Nat × List RunD)
  | 0 => some (0, [])
  | i + 1 => match rdN s i with
    | none => none
    | some (fr, out) => if i < s.length ∧ s[i]? ≠ some 44 then some (fr, out) else (match pairP ((s.take i).drop fr) with
      | some (n, m) => if n ≤ m then some (i + 1, out ++ [⟨n, (m : Int) - n + 1⟩]) else none
      | none => none)
theorem rdN_go {s : List Int} {i fr : Nat} {out : List RunD} (h : rdN s i = some (fr, out)) (hi : i < s.length) (hc : s[i]? ≠ some 44) : rdN s (i + 1) = some (fr, out) := by
  rw [rdN, h]; simp only; rw [if_pos ⟨hi, hc⟩]
theorem rdN_piece {s : List Int} {i fr : Nat} {out : List RunD} (h : rdN s i = some (fr, out)) (hc : ¬ (i < s.length ∧ s[i]? ≠ some 44)) : rdN s (i + 1) = (match pairP ((s.take i).drop fr) with
      | some (n, m) => if n ≤ m then some (i + 1, out ++ [⟨n, (m : Int) - n + 1⟩]) else none
      | none => none) := by
  rw [rdN, h]; simp only; rw [if_neg hc]
theorem rdN_inv {s : List Int} : ∀ (i fr : Nat) (out : List RunD), rdN s i = some (fr, out) → fr ≤ i ∧ out.length ≤ i ∧ ∀ r ∈ out, 0 ≤ r.f ∧ r.f ≤ 4096 ∧ 1 ≤ r.m ∧ r.f + r.m ≤ 4097
  | 0, fr, out, h => by
    injection h with h
    injection h with h1 h2
    subst h1
    subst h2
    exact ⟨Nat.le_refl _, Nat.le_refl _, fun r hr => by cases hr⟩
  | i + 1, fr, out, h => by
    rw [rdN] at h
    split at h
    · cases h
    · rename_i fr0 out0 h0
      obtain ⟨q1, q2, q3⟩ := rdN_inv i fr0 out0 h0
      split at h
      · injection h with h
        injection h with h1 h2
        subst h1
        subst h2
        exact ⟨by omega, by omega, q3⟩
      · split at h
        · rename_i n m hp
          obtain ⟨p1, p2⟩ := pairP_le hp
          split at h
          · injection h with h
            injection h with h1 h2
            subst h1
            subst h2
            refine ⟨Nat.le_refl _, by rw [List.length_append]; simp; omega, fun r hr => ?_⟩
            rcases List.mem_append.1 hr with hr | hr
            · exact q3 r hr
            · obtain rfl := List.mem_singleton.1 hr
              exact ⟨by show (0 : Int) ≤ n; omega, by show (n : Int) ≤ 4096; omega, by show (1 : Int) ≤ m - n + 1; omega, by show (n : Int) + (m - n + 1) ≤ 4097; omega⟩
          · cases h
        · cases h
/-- A piece without commas. -/
theorem rdN_word {s : List Int} {q : Nat} {out : List RunD} {wd : List Int} (h : rdN s q = some (q, out)) (hw : ∀ x ∈ wd, x ≠ 44) (hs : ∀ j, j < wd.length → s[q + j]? = wd[j]?) : ∀ j, j ≤ wd.length → rdN s (q + j) = some (q, out) := fun j => by
  induction j with
  | zero => intro _; exact h
  | succ j ih =>
    intro hj
    obtain ⟨x, hx⟩ : ∃ x, wd[j]? = some x := ⟨_, List.getElem?_eq_getElem (by omega)⟩
    have h1 := (hs j (by omega)).trans hx
    refine rdN_go (ih (by omega)) (List.getElem?_eq_some_iff.1 h1).1 ?_
    show s[q + j]? ≠ some 44
    rw [h1]
    intro e
    injection e with e
    exact hw x (List.mem_of_getElem? hx) e
theorem txtR_no44 (r : RunD) : ∀ x ∈ txtR r, x ≠ 44 := fun x hx => by
  unfold txtR at hx
  rcases List.mem_append.1 hx with h | h
  · have := dgs_rng _ x h; omega
  · split at h
    · rcases List.mem_cons.1 h with rfl | h
      · decide
      · have := dgs_rng _ x h; omega
    · cases h
theorem txtN_pre (L : List RunD) (i k : Nat) (h : i ≤ k) : ∃ M, txtN L k = txtN L i ++ M := by
  induction k with
  | zero => exact ⟨[], by rw [List.append_nil, show i = 0 by omega]⟩
  | succ k ih =>
    by_cases e : i = k + 1
    · subst e; exact ⟨[], (List.append_nil _).symm⟩
    · obtain ⟨M, hM⟩ := ih (by omega)
      cases hr : L[k]? with
      | none => rw [txtN, hr]; exact ⟨M, hM⟩
      | some r => rw [txtN_step hr, hM]; exact ⟨_, List.append_assoc _ _ _⟩
/-- The runs of a text. -/
theorem rdN_txt {L : List RunD} (h : ∀ r ∈ L, (1 ≤ r.m ∧ r.m ≤ 4097 ∧ 0 ≤ r.f ∧ r.f ≤ 4096) ∧ r.f + r.m ≤ 4097) : ∀ k, k < L.length → rdN (txt L) ((txtN L (k + 1)).length + 1) = some ((txtN L (k + 1)).length + 1, L.take (k + 1)) := fun k => by
  induction k using Nat.strongRecOn with
  | _ k ih =>
    intro hk
    obtain ⟨r, hr⟩ : ∃ r, L[k]? = some r := ⟨_, List.getElem?_eq_getElem hk⟩
    obtain ⟨hr1, hr2⟩ := h r (List.mem_of_getElem? hr)
    obtain ⟨q, hq0, hq⟩ : ∃ q, rdN (txt L) q = some (q, L.take k) ∧ q + (txtR r).length = (txtN L (k + 1)).length ∧ txtN L (k + 1) = (txtN L (k + 1)).take q ++ txtR r := by
      rcases Nat.eq_zero_or_pos k with h0 | h0
      · subst h0
        refine ⟨0, rfl, ?_, ?_⟩
        · rw [txtN_step hr]; simp [txtN]
        · rw [txtN_step hr]; simp [txtN]
      · obtain ⟨k', rfl⟩ : ∃ k', k = k' + 1 := ⟨k - 1, by omega⟩
        refine ⟨(txtN L (k' + 1)).length + 1, ih k' (by omega) (by omega), ?_, ?_⟩
        · rw [txtN_step hr, if_pos h0]; simp; omega
        · rw [txtN_step hr, if_pos h0, ← List.append_assoc, List.take_left' (by simp)]
    obtain ⟨hq1, hq2⟩ := hq
    obtain ⟨M, hM⟩ := txtN_pre L (k + 1) L.length (by omega)
    have hM' : txt L = (txtN L (k + 1)).take q ++ (txtR r ++ M) := by
      show txtN L L.length = _
      rw [hM]
      conv => lhs; rw [hq2]
      rw [List.append_assoc]
    have hql : ((txtN L (k + 1)).take q).length = q := by rw [List.length_take]; omega
    have hw := rdN_word hq0 (txtR_no44 r) (fun j hj => by
      rw [hM', List.getElem?_append_right (by omega), hql, Nat.add_sub_cancel_left, List.getElem?_append_left hj]) (txtR r).length (Nat.le_refl _)
    have hend : ¬ (q + (txtR r).length < (txt L).length ∧ (txt L)[q + (txtR r).length]? ≠ some 44) := by
      rintro ⟨h1, h2⟩
      apply h2
      have hlt : k + 1 < L.length := by
        apply Classical.byContradiction
        intro hc
        have e : k + 1 = L.length := by omega
        have : txt L = txtN L (k + 1) := by unfold txt; rw [e]
        rw [this] at h1
        omega
      obtain ⟨r2, hr2⟩ : ∃ r, L[k + 1]? = some r := ⟨_, List.getElem?_eq_getElem hlt⟩
      obtain ⟨M2, hM2⟩ := txtN_pre L (k + 2) L.length (by omega)
      have e2 : txt L = txtN L (k + 1) ++ (44 :: (txtR r2 ++ M2)) := by
        show txtN L L.length = _
        rw [hM2, txtN_step hr2, if_pos (Nat.succ_pos k)]
        simp
      rw [e2, hq1, List.getElem?_append_right (Nat.le_refl _), Nat.sub_self]
      rfl
    rw [← hq1, rdN_piece hw hend]
    have hp : ((txt L).take (q + (txtR r).length)).drop q = txtR r := by
      rw [hM', ← List.append_assoc, List.take_left' (by rw [List.length_append, hql]), List.drop_left' hql]
    rw [hp, pairP_txt hr1 hr2]
    simp only
    rw [if_pos (by omega), take_at hr]
    congr 3
    have : (⟨((r.f.toNat : Nat) : Int), (((r.f + r.m - 1).toNat : Nat) : Int) - ((r.f.toNat : Nat) : Int) + 1⟩ : RunD) = r := by
      obtain ⟨f, m⟩ := r
      congr 1 <;> dsimp only at * <;> omega
    rw [this]
end Go.Proofs.Ytmehbhabheokbaa.Ex

