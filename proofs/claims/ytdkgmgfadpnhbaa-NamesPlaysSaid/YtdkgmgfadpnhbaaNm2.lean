/- Names: which may be. -/
import Derived.Test.YtdkgmgfadpnhbaaNm1
namespace Go.Proofs.Ytdkgmgfadpnhbaa.Nm
open Go.RowKit Mem Gx
set_option linter.unusedVariables false
set_option linter.unusedSimpArgs false
set_option maxRecDepth 100000
set_option maxHeartbeats 1000000
/-- A byte that may be at a place of a name. -/
def Good (i : Nat) (x : Int) : Prop := (97 ≤ x ∧ x ≤ 122) ∨ (i ≠ 0 ∧ (x = 45 ∨ (48 ≤ x ∧ x ≤ 57)))
def GoodN (L : List Int) : Prop := ∀ i x, L[i]? = some x → Good i x
def RightP (L : List Int) : Prop := (1 ≤ L.length ∧ L.length ≤ 16) ∧ GoodN L
theorem nright_any (L : List Int) (hB : ∀ x ∈ L, 0 ≤ x ∧ x ≤ 255) (h9 : L.length ≤ 1000) (w : World) :
    Calls Try.prog 21 [.string (strOfNums L)].toArray w fun e w' => e = .returned (.bool (tB (RightP L))) ∧ Below w.heap.size w w' := by
  refine g_enter0 T [] [] [] Try.func21 rfl Try.ntmps21 rfl (Kn.start _) ?_
  (repeat (refine gG ?_; try intro _))
  refine gk_say 6 (.int .i64 (L.length : Int)) rfl (by rw [sx_size]) ?_
  refine gk_loop_sel (fun (q : Nat × Unit) => match q with | (i, z) => (i ≤ L.length ∧ ∀ j x, j < i → L[j]? = some x → Good j x)) (fun (q : Nat × Unit) => match q with | (i, z) => [(0, .string (strOfNums L)), (6, .int .i64 (L.length : Int)), (7, .int .i64 (i : Int))]) (fun (q : Nat × Unit) => match q with | (i, z) => []) (fun (q : Nat × Unit) => match q with | (i, z) => []) (fun (q : Nat × Unit) => match q with | (i, z) => L.length - i) (0, ()) rfl ⟨Nat.zero_le _, fun j x h => absurd h (Nat.not_lt_zero _)⟩ (by repeat (first | exact trivial | refine ⟨rfl, ?_⟩)) sA sS ?_
  rintro ⟨i, z⟩ hI
  replace hI : (i ≤ L.length ∧ ∀ j x, j < i → L[j]? = some x → Good j x) := hI
  change GK _ _ [(0, .string (strOfNums L)), (6, .int .i64 (L.length : Int)), (7, .int .i64 (i : Int))] [] []
  obtain ⟨hi, hG⟩ := hI
  by_cases hlt : i < L.length
  · obtain ⟨x, hy⟩ : ∃ y, L[i]? = some y := ⟨_, List.getElem?_eq_getElem (by omega)⟩
    have hyb := hB x (List.mem_of_getElem? hy)
    by_cases hg : Good i x
    · have hI2 : i + 1 ≤ L.length ∧ ∀ j x, j < i + 1 → L[j]? = some x → Good j x := ⟨hlt, fun j u hj hu => by
        by_cases e : j = i
        · subst e; rw [hy] at hu; obtain rfl := Option.some.inj hu; exact hg
        · exact hG j u (by omega) hu⟩
      have hg' : (97 ≤ x ∧ x ≤ 122) ∨ (i ≠ 0 ∧ (x = 45 ∨ (48 ≤ x ∧ x ≤ 57))) := hg
      clear hg hG
      (repeat' (first | (refine gG ?_; try intro _) | (refine g_yd rfl rfl (yd_index (jj := (i : Int)) (j := undef) hT rfl rfl rfl (by omega) (idxV_sx rfl hy hyb)) ?_) | ((first | refine g_split rfl rfl tE (fun _ => ?_) (fun _ => ?_) | refine gk_cond rfl rfl tE (fun _ => ?_) (fun _ => ?_)) <;> (try first | (exfalso; omega; done) | (rename_i hx; exact absurd rfl hx) | (rename_i hx; cases hx; done)))))
      all_goals
        refine gk_say 7 (.int .i64 ((i + 1 : Nat) : Int)) rfl (by first | (congr 1; done) | (congr 1; omega)) ?_
        refine gk_again_sel rfl (i + 1, ()) hI2 (by dsimp only; omega) (by repeat (first | exact trivial | refine ⟨rfl, ?_⟩)) sA sS
    · have hno : ¬ RightP L := fun h => hg (h.2 i x hy)
      have hg' : ¬ ((97 ≤ x ∧ x ≤ 122) ∨ (i ≠ 0 ∧ (x = 45 ∨ (48 ≤ x ∧ x ≤ 57)))) := hg
      clear hg hG
      (repeat' (first | (refine gG ?_; try intro _) | (refine g_yd rfl rfl (yd_index (jj := (i : Int)) (j := undef) hT rfl rfl rfl (by omega) (idxV_sx rfl hy hyb)) ?_) | ((first | refine g_split rfl rfl tE (fun _ => ?_) (fun _ => ?_) | refine gk_cond rfl rfl tE (fun _ => ?_) (fun _ => ?_)) <;> (try first | (exfalso; omega; done) | (rename_i hx; exact absurd rfl hx) | (rename_i hx; cases hx; done)))))
      all_goals
        refine gk_ret hT rfl rfl (.tmp rfl .nil) (fun w' hk => ?_)
        exact ⟨by rw [tB_false hno]; rfl, hk.toBelow⟩
  · have hGN : GoodN L := fun j x hx => hG j x (by have := (List.getElem?_eq_some_iff.1 hx).1; omega) hx
    have hsz : (strOfNums L).size = L.length := sx_size L
    by_cases hl : 1 ≤ L.length ∧ L.length ≤ 16
    · have hyes : RightP L := ⟨hl, hGN⟩
      (repeat' (first | (refine gG ?_; try intro _) | ((first | refine g_split rfl rfl tE (fun _ => ?_) (fun _ => ?_) | refine gk_cond rfl rfl tE (fun _ => ?_) (fun _ => ?_)) <;> (try first | (exfalso; omega; done) | (rename_i hx; exact absurd rfl hx) | (rename_i hx; cases hx; done)))))
      all_goals
        refine gk_ret hT rfl rfl (.tmp rfl .nil) (fun w' hk => ?_)
        exact ⟨by rw [tB_true hyes]; first | rfl | (rw [tB_true (by omega)]; rfl), hk.toBelow⟩
    · have hno : ¬ RightP L := fun h => hl h.1
      (repeat' (first | (refine gG ?_; try intro _) | ((first | refine g_split rfl rfl tE (fun _ => ?_) (fun _ => ?_) | refine gk_cond rfl rfl tE (fun _ => ?_) (fun _ => ?_)) <;> (try first | (exfalso; omega; done) | (rename_i hx; exact absurd rfl hx) | (rename_i hx; cases hx; done)))))
      all_goals
        refine gk_ret hT rfl rfl (.tmp rfl .nil) (fun w' hk => ?_)
        exact ⟨by rw [tB_false hno]; first | rfl | (rw [tB_false (by omega)]; rfl), hk.toBelow⟩
theorem lright_any (L : List Int) (hB : ∀ x ∈ L, 0 ≤ x ∧ x ≤ 255) (h9 : L.length ≤ 1000) (w : World) :
    Calls Try.prog 22 [.string (strOfNums L)].toArray w fun e w' => e = .returned (.bool (tB (RightP L))) ∧ Below w.heap.size w w' := by
  have hsz : (strOfNums L).size = L.length := sx_size L
  refine g_enter0 T [] [] [] Try.func22 rfl Try.ntmps22 rfl (Kn.start _) ?_
  by_cases hl : 1 ≤ L.length ∧ L.length ≤ 16
  · (repeat' (first | (refine gG ?_; try intro _) | ((first | refine g_split rfl rfl tE (fun _ => ?_) (fun _ => ?_) | refine gk_cond rfl rfl tE (fun _ => ?_) (fun _ => ?_)) <;> (try first | (exfalso; omega; done) | (rename_i hx; exact absurd rfl hx) | (rename_i hx; cases hx; done)))))
    refine gk_loop_sel (fun (q : Nat × Unit) => match q with | (i, z) => (i ≤ L.length ∧ ∀ j x, j < i → L[j]? = some x → Good j x)) (fun (q : Nat × Unit) => match q with | (i, z) => [(0, .string (strOfNums L)), (3, .int .i64 (i : Int))]) (fun (q : Nat × Unit) => match q with | (i, z) => []) (fun (q : Nat × Unit) => match q with | (i, z) => []) (fun (q : Nat × Unit) => match q with | (i, z) => L.length - i) (0, ()) rfl ⟨Nat.zero_le _, fun j x h => absurd h (Nat.not_lt_zero _)⟩ (by repeat (first | exact trivial | refine ⟨rfl, ?_⟩)) sA sS ?_
    rintro ⟨i, z⟩ hI
    replace hI : (i ≤ L.length ∧ ∀ j x, j < i → L[j]? = some x → Good j x) := hI
    change GK _ _ [(0, .string (strOfNums L)), (3, .int .i64 (i : Int))] [] []
    obtain ⟨hi, hG⟩ := hI
    by_cases hlt : i < L.length
    · obtain ⟨x, hy⟩ : ∃ y, L[i]? = some y := ⟨_, List.getElem?_eq_getElem (by omega)⟩
      have hyb := hB x (List.mem_of_getElem? hy)
      by_cases hg : Good i x
      · have hI2 : i + 1 ≤ L.length ∧ ∀ j x, j < i + 1 → L[j]? = some x → Good j x := ⟨hlt, fun j u hj hu => by
          by_cases e : j = i
          · subst e; rw [hy] at hu; obtain rfl := Option.some.inj hu; exact hg
          · exact hG j u (by omega) hu⟩
        have hg' : (97 ≤ x ∧ x ≤ 122) ∨ (i ≠ 0 ∧ (x = 45 ∨ (48 ≤ x ∧ x ≤ 57))) := hg
        clear hg hG
        (repeat' (first | (refine gG ?_; try intro _) | (refine g_yd rfl rfl (yd_index (jj := (i : Int)) (j := undef) hT rfl rfl rfl (by omega) (idxV_sx rfl hy hyb)) ?_) | ((first | refine g_split rfl rfl tE (fun _ => ?_) (fun _ => ?_) | refine gk_cond rfl rfl tE (fun _ => ?_) (fun _ => ?_)) <;> (try first | (exfalso; omega; done) | (rename_i hx; exact absurd rfl hx) | (rename_i hx; cases hx; done)))))
        all_goals
          refine gk_say 3 (.int .i64 ((i + 1 : Nat) : Int)) rfl (by first | (congr 1; done) | (congr 1; omega)) ?_
          refine gk_again_sel rfl (i + 1, ()) hI2 (by dsimp only; omega) (by repeat (first | exact trivial | refine ⟨rfl, ?_⟩)) sA sS
      · have hno : ¬ RightP L := fun h => hg (h.2 i x hy)
        have hg' : ¬ ((97 ≤ x ∧ x ≤ 122) ∨ (i ≠ 0 ∧ (x = 45 ∨ (48 ≤ x ∧ x ≤ 57)))) := hg
        clear hg hG
        (repeat' (first | (refine gG ?_; try intro _) | (refine g_yd rfl rfl (yd_index (jj := (i : Int)) (j := undef) hT rfl rfl rfl (by omega) (idxV_sx rfl hy hyb)) ?_) | ((first | refine g_split rfl rfl tE (fun _ => ?_) (fun _ => ?_) | refine gk_cond rfl rfl tE (fun _ => ?_) (fun _ => ?_)) <;> (try first | (exfalso; omega; done) | (rename_i hx; exact absurd rfl hx) | (rename_i hx; cases hx; done)))))
        all_goals
          refine gk_ret hT rfl rfl (.tmp rfl .nil) (fun w' hk => ?_)
          exact ⟨by rw [tB_false hno]; rfl, hk.toBelow⟩
    · have hyes : RightP L := ⟨hl, fun j x hx => hG j x (by have := (List.getElem?_eq_some_iff.1 hx).1; omega) hx⟩
      (repeat' (first | (refine gG ?_; try intro _) | ((first | refine g_split rfl rfl tE (fun _ => ?_) (fun _ => ?_) | refine gk_cond rfl rfl tE (fun _ => ?_) (fun _ => ?_)) <;> (try first | (exfalso; omega; done) | (rename_i hx; exact absurd rfl hx) | (rename_i hx; cases hx; done)))))
      refine gk_ret hT rfl rfl (.tmp rfl .nil) (fun w' hk => ?_)
      exact ⟨by rw [tB_true hyes]; rfl, hk.toBelow⟩
  · have hno : ¬ RightP L := fun h => hl h.1
    (repeat' (first | (refine gG ?_; try intro _) | ((first | refine g_split rfl rfl tE (fun _ => ?_) (fun _ => ?_) | refine gk_cond rfl rfl tE (fun _ => ?_) (fun _ => ?_)) <;> (try first | (exfalso; omega; done) | (rename_i hx; exact absurd rfl hx) | (rename_i hx; cases hx; done)))))
    all_goals
      refine gk_ret hT rfl rfl (.tmp rfl .nil) (fun w' hk => ?_)
      exact ⟨by rw [tB_false hno]; rfl, hk.toBelow⟩
end Go.Proofs.Ytdkgmgfadpnhbaa.Nm

