/- Numbers as texts. -/
import Derived.Test.YtmehbhabheokbaaGxZ
import Derived.Test.YtmehbhabheokbaaEx3
namespace Go.Proofs.Ytmehbhabheokbaa.Ex
open Go.RowKit Mem Gx Dd
set_option linter.unusedVariables false
set_option linter.unusedSimpArgs false
set_option maxRecDepth 100000
set_option maxHeartbeats 1000000
/-- A number's digits, as bytes. -/
def dgs (n : Nat) : List Int := (digs n).map fun x : Nat => (x : Int)
theorem dgs_small {n : Nat} (h : n < 10) : dgs n = [48 + (n : Int)] := by unfold dgs; rw [digs_small h]; rfl
theorem dgs_big {n : Nat} (h : ¬ n < 10) : dgs n = dgs (n / 10) ++ [48 + ((n % 10 : Nat) : Int)] := by unfold dgs; rw [digs_big h, List.map_append]; rfl
theorem dgs_len {n : Nat} (h : n < 18446744073709551616) : (dgs n).length ≤ 20 := by
  unfold dgs
  rw [List.length_map]
  exact digs_len n 19 (by omega)
theorem dgs_rng (n : Nat) : ∀ x ∈ dgs n, 48 ≤ x ∧ x ≤ 57 := by
  induction n using Nat.strongRecOn with
  | _ n ih =>
    intro x hx
    by_cases h : n < 10
    · rw [dgs_small h] at hx
      obtain rfl := List.mem_singleton.1 hx
      omega
    · rw [dgs_big h] at hx
      rcases List.mem_append.1 hx with hx | hx
      · exact ih (n / 10) (by omega) x hx
      · obtain rfl := List.mem_singleton.1 hx
        omega
theorem dig1 {d : Nat} (h : d < 10) : strOfNums (([48, 49, 50, 51, 52, 53, 54, 55, 56, 57] : List Int).take (d + 1) |>.drop d) = strOfNums [48 + (d : Int)] := by
  rcases (by omega : d = 0 ∨ d = 1 ∨ d = 2 ∨ d = 3 ∨ d = 4 ∨ d = 5 ∨ d = 6 ∨ d = 7 ∨ d = 8 ∨ d = 9) with rfl | rfl | rfl | rfl | rfl | rfl | rfl | rfl | rfl | rfl <;> rfl
theorem rnum_any (n : Nat) (hn : n < 18446744073709551616) (w : World) : Calls Try.prog 110 [.int .u64 (n : Int)].toArray w fun e w' => e = .returned (.string (strOfNums (dgs n))) ∧ Below w.heap.size w w' := by
  refine g_enter0 T [] [] [] Try.func110 rfl Try.ntmps110 rfl (Kn.start _) ?_
  (repeat (refine gG ?_; try intro _))
  refine gk_loop_sel (fun (q : Nat × (List Int)) => match q with | (m, L) => (m ≤ n ∧ dgs m ++ L = dgs n ∧ L.length ≤ 20)) (fun (q : Nat × (List Int)) => match q with | (m, L) => [(0, .int .u64 (m : Int)), (3, .string (strOfNums L))]) (fun (q : Nat × (List Int)) => match q with | (m, L) => []) (fun (q : Nat × (List Int)) => match q with | (m, L) => []) (fun (q : Nat × (List Int)) => match q with | (m, L) => m) (n, []) rfl ⟨Nat.le_refl _, List.append_nil _, Nat.zero_le _⟩ (by repeat (first | exact trivial | refine ⟨rfl, ?_⟩)) sA sS ?_
  rintro ⟨m, L⟩ hI
  replace hI : (m ≤ n ∧ dgs m ++ L = dgs n ∧ L.length ≤ 20) := hI
  change GK _ _ [(0, .int .u64 (m : Int)), (3, .string (strOfNums L))] [] []
  obtain ⟨hm, hL, h20⟩ := hI
  have hl : (dgs m).length + L.length ≤ 20 := by
    have := congrArg List.length hL
    rw [List.length_append] at this
    have := dgs_len hn
    omega
  by_cases h : 9 < m
  · have e := dgs_big (n := m) (by omega)
    have hd : 1 ≤ (dgs m).length := by rw [e]; simp
    (repeat' (first | (refine gG ?_; try intro _) | ((first | refine g_split rfl rfl tE (fun _ => ?_) (fun _ => ?_) | refine gk_cond rfl rfl tE (fun _ => ?_) (fun _ => ?_)) <;> (try first | (exfalso; omega; done) | (rename_i hx; exact absurd rfl hx) | (rename_i hx; cases hx; done)))))
    refine g_yd rfl rfl (Ys.yd (ys_sx_lh (L := [48, 49, 50, 51, 52, 53, 54, 55, 56, 57]) hT (m % 10) (m % 10 + 1) rfl rfl rfl rfl rfl rfl (by omega) (by omega) (by omega) (by simp; omega))) ?_
    refine g_say 11 (.string (strOfNums [48 + ((m % 10 : Nat) : Int)])) rfl (by rw [dig1 (by omega)]) ?_
    (repeat (refine gG ?_; try intro _))
    refine g_yd rfl rfl (Ys.yd (ys_sx_add rfl rfl rfl rfl rfl (by simp; omega))) ?_
    (repeat (refine gG ?_; try intro _))
    refine gk_say 0 (.int .u64 ((m / 10 : Nat) : Int)) rfl (by first | (congr 1; done) | (congr 1; omega)) ?_
    refine gk_again_sel rfl (m / 10, [48 + ((m % 10 : Nat) : Int)] ++ L) ⟨by omega, by rw [← hL, e, List.append_assoc], by simp; omega⟩ (by dsimp only; omega) (by repeat (first | exact trivial | refine ⟨rfl, ?_⟩)) sA sS
  · have e := dgs_small (n := m) (by omega)
    have hd : 1 ≤ (dgs m).length := by rw [e]; simp
    (repeat' (first | (refine gG ?_; try intro _) | ((first | refine g_split rfl rfl tE (fun _ => ?_) (fun _ => ?_) | refine gk_cond rfl rfl tE (fun _ => ?_) (fun _ => ?_)) <;> (try first | (exfalso; omega; done) | (rename_i hx; exact absurd rfl hx) | (rename_i hx; cases hx; done)))))
    refine g_yd rfl rfl (Ys.yd (ys_sx_lh (L := [48, 49, 50, 51, 52, 53, 54, 55, 56, 57]) hT m (m + 1) rfl rfl rfl rfl rfl rfl (by omega) (by omega) (by omega) (by simp; omega))) ?_
    refine g_say 19 (.string (strOfNums [48 + (m : Int)])) rfl (by rw [dig1 (by omega)]) ?_
    (repeat (refine gG ?_; try intro _))
    refine g_yd rfl rfl (Ys.yd (ys_sx_add rfl rfl rfl rfl rfl (by simp; omega))) ?_
    (repeat (refine gG ?_; try intro _))
    refine gk_ret hT rfl rfl (.tmp rfl .nil) (fun w' hk => ?_)
    exact ⟨by rw [← hL, e]; rfl, hk.toBelow⟩
theorem der_own {α : Type} [Inhabited α] {base e sz n c : Nat} {A : Option Addr} {enc : α → Nat → Value} {L : List α} : Der [own base e sz (.slice A n c) enc L] (sl A sz enc L) := ⟨fun w hw => at_own (.head _) w hw, fun b hb => ⟨_, .head _, by
  obtain ⟨_, a, ha, hab⟩ := hb
  subst ha
  subst hab
  rfl⟩⟩
theorem rep_get {i : Nat} {D : List Int} (hi : 1 ≤ i) : (List.replicate i (0 : Int) ++ D)[i - 1]? = some 0 := by
  rw [List.getElem?_append_left (by simp; omega), List.getElem?_replicate, if_pos (by omega)]
theorem rep_set {i : Nat} {D : List Int} {y : Int} (hi : 1 ≤ i) : (List.replicate i (0 : Int) ++ D).set (i - 1) y = List.replicate (i - 1) 0 ++ (y :: D) := by
  obtain ⟨k, rfl⟩ : ∃ k, i = k + 1 := ⟨i - 1, by omega⟩
  rw [Nat.add_sub_cancel, List.replicate_succ', List.append_assoc, List.set_append_right _ _ (by simp), List.length_replicate, Nat.sub_self]
  rfl
theorem tnum_any (n : Nat) (hn : n < 18446744073709551616) (w : World) : Calls Try.prog 111 [.int .u64 (n : Int)].toArray w fun e w' => e = .returned (.string (strOfNums (dgs n))) ∧ Below w.heap.size w w' := by
  refine g_enter0 T [] [] [] Try.func111 rfl Try.ntmps111 rfl (Kn.start _) ?_
  (repeat (refine gG ?_; try intro _))
  rename_i g
  refine gk_blk_own (g := g) (base := 0) (e := 254) (sz := 1) (n := 20) (c := 20) (enc := IE .u8) (List.replicate 20 0) (by decide) (by first | ((repeat (first | with_reducible exact Upd.here _ | with_reducible apply Upd.there)); done) | ((repeat (first | exact Upd.here _ | apply Upd.there)); done) | fail) rfl rfl (by decide) (by decide) (Nat.zero_le _) rfl ?_
  refine gk_loop_sel (fun (q : Nat × Nat × (List Int) × Bool) => match q with | (m, i, D, b) => (m ≤ n ∧ D.length = 20 - i ∧ i ≤ 20 ∧ (b = true → dgs m ++ D = dgs n) ∧ (b = false → D = dgs n))) (fun (q : Nat × Nat × (List Int) × Bool) => match q with | (m, i, D, b) => [(0, .int .u64 (m : Int)), (3, .pointer (some ⟨g, 0, none⟩)), (4, .int .i64 (i : Int)), (5, .bool b)]) (fun (q : Nat × Nat × (List Int) × Bool) => match q with | (m, i, D, b) => [own 0 254 1 (.slice (some ⟨g, 0, none⟩) 20 20) (IE .u8) (List.replicate i 0 ++ D)]) (fun (q : Nat × Nat × (List Int) × Bool) => match q with | (m, i, D, b) => []) (fun (q : Nat × Nat × (List Int) × Bool) => match q with | (m, i, D, b) => i) (n, 20, [], true) rfl ⟨Nat.le_refl _, rfl, Nat.le_refl _, fun _ => List.append_nil _, fun h => by cases h⟩ (by repeat (first | exact trivial | refine ⟨rfl, ?_⟩)) sA sS ?_
  rintro ⟨m, i, D, b⟩ hI
  replace hI : (m ≤ n ∧ D.length = 20 - i ∧ i ≤ 20 ∧ (b = true → dgs m ++ D = dgs n) ∧ (b = false → D = dgs n)) := hI
  change GK _ _ [(0, .int .u64 (m : Int)), (3, .pointer (some ⟨g, 0, none⟩)), (4, .int .i64 (i : Int)), (5, .bool b)] [own 0 254 1 (.slice (some ⟨g, 0, none⟩) 20 20) (IE .u8) (List.replicate i 0 ++ D)] []
  obtain ⟨hm, hDl, hi, h1, h2⟩ := hI
  cases b with
  | false =>
    have hD := h2 rfl
    have hd1 : 1 ≤ (dgs n).length := by
      by_cases h : n < 10
      · rw [dgs_small h]; simp
      · rw [dgs_big h]; simp
    have hi2 : i < 20 := by rw [hD] at hDl; omega
    (repeat (refine gG ?_; try intro _))
    refine g_derO [own 0 254 1 (.slice (some ⟨g, 0, none⟩) 20 20) (IE .u8) (List.replicate i 0 ++ D)] [] (φ := sl (some ⟨g, 0, none⟩) 1 (IE .u8) (List.replicate i 0 ++ D)) der_own sA ?_
    refine g_share (φ := sl (some ⟨g, 0, none⟩) 1 (IE .u8) (List.replicate i 0 ++ D)) (by repeat (first | with_reducible exact Sel.here | with_reducible apply Sel.there)) ?_
    refine g_dropS (enc := IE .u8) (L := List.replicate i 0 ++ D) i 20 mE (by simp; omega) ?_
    rw [shA_at (by omega), List.drop_left' (by simp)]
    refine g_yd rfl rfl (Ys.yd (ys_arr_l hT i rfl rfl rfl rfl rfl hi2)) ?_
    refine g_say 20 (.slice (some ⟨g, i * 1, none⟩) (20 - i) (20 - i)) rfl (by rw [Nat.zero_add, Nat.mul_one]) ?_
    refine g_yd rfl rfl (yd_conv_bytes (L := D) hT (.inr mE) hDl.symm rfl rfl rfl rfl rfl) ?_
    (repeat (refine gG ?_; try intro _))
    refine gk_ret hT rfl rfl (.tmp rfl .nil) (fun w' hk => ?_)
    exact ⟨by rw [hD]; rfl, hk.toBelow⟩
  | true =>
    have hD := h1 rfl
    have hl : (dgs m).length + D.length ≤ 20 := by
      have := congrArg List.length hD
      rw [List.length_append] at this
      have := dgs_len hn
      omega
    have hd1 : 1 ≤ (dgs m).length := by
      by_cases h : m < 10
      · rw [dgs_small h]; simp
      · rw [dgs_big h]; simp
    have hi1 : 1 ≤ i := by omega
    (repeat' (first | (refine gG ?_; try intro _) | ((first | refine g_split rfl rfl tE (fun _ => ?_) (fun _ => ?_) | refine gk_cond rfl rfl tE (fun _ => ?_) (fun _ => ?_)) <;> (try first | (exfalso; omega; done) | (rename_i hx; exact absurd rfl hx) | (rename_i hx; cases hx; done)))))
    refine g_mv rfl (mv_store_own (α := Int) (g := g) (n := 20) (c := 20) (base := 0) (e := 254) (sz := 1) (enc := IE .u8) (L := List.replicate i 0 ++ D) hT (i - 1) 0 0 (48 + ((m % 10 : Nat) : Int)) rfl rfl (by first | rfl | omega) rfl rfl rfl rfl (rep_get hi1) (by decide) (fun b h1 h2 => absurd h1 (by omega)) (by show Value.int .u8 _ = Value.int .u8 _; congr 1) (by first | ((repeat (first | with_reducible exact Upd.here _ | with_reducible apply Upd.there)); done) | ((repeat (first | exact Upd.here _ | apply Upd.there)); done) | fail) rfl ?_)
    rw [rep_set hi1]
    (repeat (refine gG ?_; try intro _))
    refine gk_say 0 (.int .u64 ((m / 10 : Nat) : Int)) rfl (by first | (congr 1; done) | (congr 1; omega)) ?_
    refine gk_say 4 (.int .i64 ((i - 1 : Nat) : Int)) rfl (by first | (congr 1; done) | (congr 1; omega)) ?_
    by_cases h : m < 10
    · refine gk_say 5 (.bool false) rfl (congrArg Value.bool (tB_false (by omega))) ?_
      refine gk_again_sel rfl (m / 10, i - 1, (48 + ((m % 10 : Nat) : Int)) :: D, false) ⟨(by show m / 10 ≤ n; omega), (by show D.length + 1 = 20 - (i - 1); omega), (by show i - 1 ≤ 20; omega), fun h => (by cases h), fun _ => by rw [← hD, dgs_small h, Nat.mod_eq_of_lt h]; rfl⟩ (by dsimp only; omega) (by repeat (first | exact trivial | refine ⟨rfl, ?_⟩)) sA sS
    · refine gk_say 5 (.bool true) rfl (congrArg Value.bool (tB_true (by omega))) ?_
      refine gk_again_sel rfl (m / 10, i - 1, (48 + ((m % 10 : Nat) : Int)) :: D, true) ⟨(by show m / 10 ≤ n; omega), (by show D.length + 1 = 20 - (i - 1); omega), (by show i - 1 ≤ 20; omega), fun _ => by rw [← hD, dgs_big h, List.append_assoc]; rfl, fun h => by cases h⟩ (by dsimp only; omega) (by repeat (first | exact trivial | refine ⟨rfl, ?_⟩)) sA sS
end Go.Proofs.Ytmehbhabheokbaa.Ex

