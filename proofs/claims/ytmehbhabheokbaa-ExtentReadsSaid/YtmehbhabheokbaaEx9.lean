/- extent.Read; the statement ExtentReads. -/
import Derived.Test.YtmehbhabheokbaaEx8b
namespace Go.Proofs.Ytmehbhabheokbaa.Ex
open Go.RowKit Mem Gx Dd
set_option linter.unusedVariables false
set_option linter.unusedSimpArgs false
set_option maxRecDepth 100000
set_option maxHeartbeats 1000000
/-- What Read says. -/
def XReadR (s : List Int) (r : List RunD × Int) : Prop := (s = [] ∧ r = ([], 0)) ∨ (s ≠ [] ∧ ∃ fr out, rdN s (s.length + 1) = some (fr, out) ∧ txtP out = s ∧ r = (out, 0)) ∨ (s ≠ [] ∧ (∀ fr out, rdN s (s.length + 1) = some (fr, out) → txtP out ≠ s) ∧ r = ([], 21))
theorem rdN_none {s : List Int} (i k : Nat) (h : i ≤ k) (hn : rdN s i = none) : rdN s k = none := by
  induction k with
  | zero => rw [show i = 0 by omega] at hn; exact hn
  | succ k ih =>
    by_cases e : i = k + 1
    · subst e; exact hn
    · rw [rdN, ih (by omega)]
theorem txtP_bts (L : List RunD) : Bts (txtP L) := by
  have h : ∀ k, ∀ x ∈ txtN L k, 0 ≤ x ∧ x ≤ 255 := fun k => by
    induction k with
    | zero => intro x hx; cases hx
    | succ k ih =>
      rw [txtN]
      split
      · rename_i r _
        intro x hx
        rcases List.mem_append.1 hx with hx | hx
        · exact ih x hx
        · rcases List.mem_append.1 hx with hx | hx
          · split at hx
            · obtain rfl := List.mem_singleton.1 hx; decide
            · cases hx
          · unfold txtR at hx
            rcases List.mem_append.1 hx with hx | hx
            · have := dgs_rng _ x hx; omega
            · split at hx
              · rcases List.mem_cons.1 hx with rfl | hx
                · decide
                · have := dgs_rng _ x hx; omega
              · cases hx
      · exact ih
  unfold txtP
  split
  · exact h _
  · intro x hx; cases hx
theorem xread_any (s : List Int) (w : World) (hB : Bts s) (h9 : s.length ≤ 999) :
    Calls Try.prog 55 [.string (strOfNums s)].toArray w (Ret (fun r : SlV × List RunD × Int => XReadR s r.2 ∧ r.1.n = r.2.1.length ∧ r.1.c ≤ maxLen) (fun r => .tuple #[.slice r.1.A r.1.n r.1.c, .int .i64 r.2.2]) (fun r => [sl r.1.A 2 RE r.2.1]) w) := by
  refine g_enter0 T [] [] [] Try.func55 rfl Try.ntmps55 rfl (Kn.start _) ?_
  by_cases hs0 : s = []
  · subst hs0
    have hz : (strOfNums []).size = 0 := sx_size []
    (repeat (refine gG ?_; try intro _))
    refine gk_loop_sel (fun (q : Nat × Unit) => match q with | (i, z) => (i = 0)) (fun (q : Nat × Unit) => match q with | (i, z) => [(0, .string (strOfNums [])), (12, .int .i64 (((strOfNums []).size : Int) + 1)), (13, .int .i64 (i : Int))]) (fun (q : Nat × Unit) => match q with | (i, z) => []) (fun (q : Nat × Unit) => match q with | (i, z) => []) (fun (q : Nat × Unit) => match q with | (i, z) => 1) (0, ()) rfl rfl (by repeat (first | exact trivial | refine ⟨rfl, ?_⟩)) sA sS ?_
    rintro ⟨i, z⟩ hI
    replace hI : (i = 0) := hI
    change GK _ _ [(0, .string (strOfNums [])), (12, .int .i64 (((strOfNums []).size : Int) + 1)), (13, .int .i64 (i : Int))] [] []
    subst hI
    (repeat' (first | (refine gG ?_; try intro _) | ((first | refine g_split rfl rfl tE (fun _ => ?_) (fun _ => ?_) | refine gk_cond rfl rfl tE (fun _ => ?_) (fun _ => ?_)) <;> (try first | (exfalso; omega; done) | (rename_i hx; exact absurd rfl hx) | (rename_i hx; cases hx; done)))))
    refine gk_nilsl none 2 RE ?_
    refine gk_ret hT rfl rfl (.tmp rfl (.tmp rfl .nil)) (fun w' hk => ?_)
    exact Ret.mk ((⟨none, 0, 0⟩, [], 0) : SlV × List RunD × Int) ⟨.inl ⟨rfl, rfl⟩, rfl, by decide⟩ rfl hk sA
  · have hsl : 0 < s.length := List.length_pos_iff.2 hs0
    have hsz := sx_size s
    (repeat (refine gG ?_; try intro _))
    refine gk_say 12 (.int .i64 ((s.length + 1 : Nat) : Int)) rfl (by rw [hsz]; rfl) ?_
    refine gk_own 0 111 2 RE ?_
    refine gk_loop_sel (fun (q : Nat × Nat × Value × (List RunD)) => match q with | (i, fr, v, out) => (i ≤ s.length + 1 ∧ rdN s i = some (fr, out))) (fun (q : Nat × Nat × Value × (List RunD)) => match q with | (i, fr, v, out) => [(0, .string (strOfNums s)), (4, v), (5, .int .i64 (fr : Int)), (12, .int .i64 ((s.length + 1 : Nat) : Int)), (13, .int .i64 (i : Int))]) (fun (q : Nat × Nat × Value × (List RunD)) => match q with | (i, fr, v, out) => [own 0 111 2 v RE out]) (fun (q : Nat × Nat × Value × (List RunD)) => match q with | (i, fr, v, out) => []) (fun (q : Nat × Nat × Value × (List RunD)) => match q with | (i, fr, v, out) => s.length + 1 - i) (0, 0, .slice none 0 0, []) rfl ⟨Nat.zero_le _, rfl⟩ (by repeat (first | exact trivial | refine ⟨rfl, ?_⟩)) sA sS ?_
    rintro ⟨i, fr, v, out⟩ hI
    replace hI : (i ≤ s.length + 1 ∧ rdN s i = some (fr, out)) := hI
    change GK _ _ [(0, .string (strOfNums s)), (4, v), (5, .int .i64 (fr : Int)), (12, .int .i64 ((s.length + 1 : Nat) : Int)), (13, .int .i64 (i : Int))] [own 0 111 2 v RE out] []
    obtain ⟨hi, hr⟩ := hI
    obtain ⟨hfr, hol, hob⟩ := rdN_inv i fr out hr
    by_cases hlt : i < s.length + 1
    · by_cases hc : i < s.length ∧ s[i]? ≠ some 44
      · obtain ⟨y, hy⟩ : ∃ y, s[i]? = some y := ⟨_, List.getElem?_eq_getElem hc.1⟩
        have hyb := hB y (List.mem_of_getElem? hy)
        have h44 : ¬ y = 44 := fun e => hc.2 (by rw [hy, e])
        have hgo := rdN_go hr hc.1 hc.2
        have hcl := hc.1
        (repeat' (first | (refine gG ?_; try intro _) | ((first | refine g_split rfl rfl tE (fun _ => ?_) (fun _ => ?_) | refine gk_cond rfl rfl tE (fun _ => ?_) (fun _ => ?_)) <;> (try first | (exfalso; omega; done) | (rename_i hx; exact absurd rfl hx) | (rename_i hx; cases hx; done)))))
        refine g_yd rfl rfl (yd_index (jj := (i : Int)) (j := undef) hT rfl rfl rfl (by omega) (idxV_sx rfl hy hyb)) ?_
        (repeat' (first | (refine gG ?_; try intro _) | ((first | refine g_split rfl rfl tE (fun _ => ?_) (fun _ => ?_) | refine gk_cond rfl rfl tE (fun _ => ?_) (fun _ => ?_)) <;> (try first | (exfalso; omega; done) | (rename_i hx; exact absurd rfl hx) | (rename_i hx; cases hx; done)))))
        refine gk_say 13 (.int .i64 ((i + 1 : Nat) : Int)) rfl (by first | (congr 1; done) | (congr 1; omega)) ?_
        refine gk_again_sel rfl (i + 1, fr, v, out) ⟨hlt, hgo⟩ (by dsimp only; omega) (by repeat (first | exact trivial | refine ⟨rfl, ?_⟩)) sA sS
      · have hp := rdN_piece hr hc
        rcases (by omega : i = s.length ∨ i < s.length) with he | he
        · (repeat' (first | (refine gG ?_; try intro _) | ((first | refine g_split rfl rfl tE (fun _ => ?_) (fun _ => ?_) | refine gk_cond rfl rfl tE (fun _ => ?_) (fun _ => ?_)) <;> (try first | (exfalso; omega; done) | (rename_i hx; exact absurd rfl hx) | (rename_i hx; cases hx; done)))))
          refine g_yd rfl rfl (Ys.yd (ys_sx_lh (L := s) hT fr i rfl rfl rfl rfl rfl rfl rfl rfl hfr (by omega))) ?_
          have hBp : Bts ((s.take i).drop fr) := fun x hx => hB x (List.mem_of_mem_take (List.mem_of_mem_drop hx))
          refine g_mv rfl ?_; refine mv_call_rt (fun w hk => xpair_any ((s.take i).drop fr) w hBp (by rw [List.length_drop, List.length_take]; omega)) rfl rfl rfl rfl rfl (by kernel_rfl) (fun _ => rfl) (fun r hpr => ?_)
          rcases hpr with ⟨n, m, e1, e2, e3, e4⟩ | ⟨e1, e2⟩
          · obtain ⟨r1, r2, r3⟩ := r
            dsimp only at e2 e3 e4 ⊢
            subst e2
            subst e3
            subst e4
            have hpl := pairP_le e1
            rw [e1] at hp
            dsimp only at hp
            by_cases hnm : n ≤ m
            · rw [if_pos hnm] at hp
              (repeat' (first | (refine gG ?_; try intro _) | ((first | refine g_split rfl rfl tE (fun _ => ?_) (fun _ => ?_) | refine gk_cond rfl rfl tE (fun _ => ?_) (fun _ => ?_)) <;> (try first | (exfalso; omega; done) | (rename_i hx; exact absurd rfl hx) | (rename_i hx; cases hx; done)))))
              refine g_mv rfl (mv_append (L := out) rfl [(⟨n, (m : Int) - n + 1⟩ : RunD)] rfl rfl rfl rfl elt_R (by intro _; first | ((repeat (first | with_reducible exact Upd.here _ | with_reducible apply Upd.there)); done) | ((repeat (first | exact Upd.here _ | apply Upd.there)); done) | fail) (src_blk mE rfl) rfl oneRun (by simp only [maxLen, List.length_cons, List.length_nil]; omega) (by simp only [List.length_cons, List.length_nil]; omega) (Nat.zero_le _) (fun v2 => ?_))
              (repeat (refine gG ?_; try intro _))
              refine gk_say 13 (.int .i64 ((i + 1 : Nat) : Int)) rfl (by first | (congr 1; done) | (congr 1; omega)) ?_
              refine gk_say 5 (.int .i64 ((i + 1 : Nat) : Int)) rfl (by first | (congr 1; done) | (congr 1; omega)) ?_
              refine gk_again_sel rfl (i + 1, i + 1, v2, out ++ [⟨n, (m : Int) - n + 1⟩]) ⟨hlt, hp⟩ (by dsimp only; omega) (by repeat (first | exact trivial | refine ⟨rfl, ?_⟩)) sA sS
            · rw [if_neg hnm] at hp
              (repeat' (first | (refine gG ?_; try intro _) | ((first | refine g_split rfl rfl tE (fun _ => ?_) (fun _ => ?_) | refine gk_cond rfl rfl tE (fun _ => ?_) (fun _ => ?_)) <;> (try first | (exfalso; omega; done) | (rename_i hx; exact absurd rfl hx) | (rename_i hx; cases hx; done)))))
              refine gk_nilsl none 2 RE ?_
              refine gk_ret hT rfl rfl (.tmp rfl (.tmp rfl .nil)) (fun w' hk => ?_)
              exact Ret.mk ((⟨none, 0, 0⟩, [], 21) : SlV × List RunD × Int) ⟨.inr (.inr ⟨hs0, fun fr' out' h' => (by rw [rdN_none (i + 1) (s.length + 1) (by omega) hp] at h'; cases h'), rfl⟩), rfl, by decide⟩ rfl hk sA
          · obtain ⟨r1, r2, r3⟩ := r
            dsimp only at e2 ⊢
            subst e2
            rw [e1] at hp
            dsimp only at hp
            (repeat' (first | (refine gG ?_; try intro _) | ((first | refine g_split rfl rfl tE (fun _ => ?_) (fun _ => ?_) | refine gk_cond rfl rfl tE (fun _ => ?_) (fun _ => ?_)) <;> (try first | (exfalso; omega; done) | (rename_i hx; exact absurd rfl hx) | (rename_i hx; cases hx; done)))))
            refine gk_nilsl none 2 RE ?_
            refine gk_ret hT rfl rfl (.tmp rfl (.tmp rfl .nil)) (fun w' hk => ?_)
            exact Ret.mk ((⟨none, 0, 0⟩, [], 21) : SlV × List RunD × Int) ⟨.inr (.inr ⟨hs0, fun fr' out' h' => (by rw [rdN_none (i + 1) (s.length + 1) (by omega) hp] at h'; cases h'), rfl⟩), rfl, by decide⟩ rfl hk sA
        · obtain ⟨y, hy⟩ : ∃ y, s[i]? = some y := ⟨_, List.getElem?_eq_getElem he⟩
          have hyb := hB y (List.mem_of_getElem? hy)
          have h44 : y = 44 := Classical.byContradiction fun e => hc ⟨he, by rw [hy]; intro h'; injection h' with h'; exact e h'⟩
          (repeat' (first | (refine gG ?_; try intro _) | ((first | refine g_split rfl rfl tE (fun _ => ?_) (fun _ => ?_) | refine gk_cond rfl rfl tE (fun _ => ?_) (fun _ => ?_)) <;> (try first | (exfalso; omega; done) | (rename_i hx; exact absurd rfl hx) | (rename_i hx; cases hx; done)))))
          refine g_yd rfl rfl (yd_index (jj := (i : Int)) (j := undef) hT rfl rfl rfl (by omega) (idxV_sx rfl hy hyb)) ?_
          rcases Nat.eq_zero_or_pos i with h0 | h0
          · (repeat' (first | (refine gG ?_; try intro _) | ((first | refine g_split rfl rfl tE (fun _ => ?_) (fun _ => ?_) | refine gk_cond rfl rfl tE (fun _ => ?_) (fun _ => ?_)) <;> (try first | (exfalso; omega; done) | (rename_i hx; exact absurd rfl hx) | (rename_i hx; cases hx; done)))))
            refine g_yd rfl rfl (Ys.yd (ys_sx_lh (L := s) hT fr i rfl rfl rfl rfl rfl rfl rfl rfl hfr (by omega))) ?_
            have hBp : Bts ((s.take i).drop fr) := fun x hx => hB x (List.mem_of_mem_take (List.mem_of_mem_drop hx))
            refine g_mv rfl ?_; refine mv_call_rt (fun w hk => xpair_any ((s.take i).drop fr) w hBp (by rw [List.length_drop, List.length_take]; omega)) rfl rfl rfl rfl rfl (by kernel_rfl) (fun _ => rfl) (fun r hpr => ?_)
            rcases hpr with ⟨n, m, e1, e2, e3, e4⟩ | ⟨e1, e2⟩
            · obtain ⟨r1, r2, r3⟩ := r
              dsimp only at e2 e3 e4 ⊢
              subst e2
              subst e3
              subst e4
              have hpl := pairP_le e1
              rw [e1] at hp
              dsimp only at hp
              by_cases hnm : n ≤ m
              · rw [if_pos hnm] at hp
                (repeat' (first | (refine gG ?_; try intro _) | ((first | refine g_split rfl rfl tE (fun _ => ?_) (fun _ => ?_) | refine gk_cond rfl rfl tE (fun _ => ?_) (fun _ => ?_)) <;> (try first | (exfalso; omega; done) | (rename_i hx; exact absurd rfl hx) | (rename_i hx; cases hx; done)))))
                refine g_mv rfl (mv_append (L := out) rfl [(⟨n, (m : Int) - n + 1⟩ : RunD)] rfl rfl rfl rfl elt_R (by intro _; first | ((repeat (first | with_reducible exact Upd.here _ | with_reducible apply Upd.there)); done) | ((repeat (first | exact Upd.here _ | apply Upd.there)); done) | fail) (src_blk mE rfl) rfl oneRun (by simp only [maxLen, List.length_cons, List.length_nil]; omega) (by simp only [List.length_cons, List.length_nil]; omega) (Nat.zero_le _) (fun v2 => ?_))
                (repeat (refine gG ?_; try intro _))
                refine gk_say 13 (.int .i64 ((i + 1 : Nat) : Int)) rfl (by first | (congr 1; done) | (congr 1; omega)) ?_
                refine gk_say 5 (.int .i64 ((i + 1 : Nat) : Int)) rfl (by first | (congr 1; done) | (congr 1; omega)) ?_
                refine gk_again_sel rfl (i + 1, i + 1, v2, out ++ [⟨n, (m : Int) - n + 1⟩]) ⟨hlt, hp⟩ (by dsimp only; omega) (by repeat (first | exact trivial | refine ⟨rfl, ?_⟩)) sA sS
              · rw [if_neg hnm] at hp
                (repeat' (first | (refine gG ?_; try intro _) | ((first | refine g_split rfl rfl tE (fun _ => ?_) (fun _ => ?_) | refine gk_cond rfl rfl tE (fun _ => ?_) (fun _ => ?_)) <;> (try first | (exfalso; omega; done) | (rename_i hx; exact absurd rfl hx) | (rename_i hx; cases hx; done)))))
                refine gk_nilsl none 2 RE ?_
                refine gk_ret hT rfl rfl (.tmp rfl (.tmp rfl .nil)) (fun w' hk => ?_)
                exact Ret.mk ((⟨none, 0, 0⟩, [], 21) : SlV × List RunD × Int) ⟨.inr (.inr ⟨hs0, fun fr' out' h' => (by rw [rdN_none (i + 1) (s.length + 1) (by omega) hp] at h'; cases h'), rfl⟩), rfl, by decide⟩ rfl hk sA
            · obtain ⟨r1, r2, r3⟩ := r
              dsimp only at e2 ⊢
              subst e2
              rw [e1] at hp
              dsimp only at hp
              (repeat' (first | (refine gG ?_; try intro _) | ((first | refine g_split rfl rfl tE (fun _ => ?_) (fun _ => ?_) | refine gk_cond rfl rfl tE (fun _ => ?_) (fun _ => ?_)) <;> (try first | (exfalso; omega; done) | (rename_i hx; exact absurd rfl hx) | (rename_i hx; cases hx; done)))))
              refine gk_nilsl none 2 RE ?_
              refine gk_ret hT rfl rfl (.tmp rfl (.tmp rfl .nil)) (fun w' hk => ?_)
              exact Ret.mk ((⟨none, 0, 0⟩, [], 21) : SlV × List RunD × Int) ⟨.inr (.inr ⟨hs0, fun fr' out' h' => (by rw [rdN_none (i + 1) (s.length + 1) (by omega) hp] at h'; cases h'), rfl⟩), rfl, by decide⟩ rfl hk sA
          · (repeat' (first | (refine gG ?_; try intro _) | ((first | refine g_split rfl rfl tE (fun _ => ?_) (fun _ => ?_) | refine gk_cond rfl rfl tE (fun _ => ?_) (fun _ => ?_)) <;> (try first | (exfalso; omega; done) | (rename_i hx; exact absurd rfl hx) | (rename_i hx; cases hx; done)))))
            refine g_yd rfl rfl (Ys.yd (ys_sx_lh (L := s) hT fr i rfl rfl rfl rfl rfl rfl rfl rfl hfr (by omega))) ?_
            have hBp : Bts ((s.take i).drop fr) := fun x hx => hB x (List.mem_of_mem_take (List.mem_of_mem_drop hx))
            refine g_mv rfl ?_; refine mv_call_rt (fun w hk => xpair_any ((s.take i).drop fr) w hBp (by rw [List.length_drop, List.length_take]; omega)) rfl rfl rfl rfl rfl (by kernel_rfl) (fun _ => rfl) (fun r hpr => ?_)
            rcases hpr with ⟨n, m, e1, e2, e3, e4⟩ | ⟨e1, e2⟩
            · obtain ⟨r1, r2, r3⟩ := r
              dsimp only at e2 e3 e4 ⊢
              subst e2
              subst e3
              subst e4
              have hpl := pairP_le e1
              rw [e1] at hp
              dsimp only at hp
              by_cases hnm : n ≤ m
              · rw [if_pos hnm] at hp
                (repeat' (first | (refine gG ?_; try intro _) | ((first | refine g_split rfl rfl tE (fun _ => ?_) (fun _ => ?_) | refine gk_cond rfl rfl tE (fun _ => ?_) (fun _ => ?_)) <;> (try first | (exfalso; omega; done) | (rename_i hx; exact absurd rfl hx) | (rename_i hx; cases hx; done)))))
                refine g_mv rfl (mv_append (L := out) rfl [(⟨n, (m : Int) - n + 1⟩ : RunD)] rfl rfl rfl rfl elt_R (by intro _; first | ((repeat (first | with_reducible exact Upd.here _ | with_reducible apply Upd.there)); done) | ((repeat (first | exact Upd.here _ | apply Upd.there)); done) | fail) (src_blk mE rfl) rfl oneRun (by simp only [maxLen, List.length_cons, List.length_nil]; omega) (by simp only [List.length_cons, List.length_nil]; omega) (Nat.zero_le _) (fun v2 => ?_))
                (repeat (refine gG ?_; try intro _))
                refine gk_say 13 (.int .i64 ((i + 1 : Nat) : Int)) rfl (by first | (congr 1; done) | (congr 1; omega)) ?_
                refine gk_say 5 (.int .i64 ((i + 1 : Nat) : Int)) rfl (by first | (congr 1; done) | (congr 1; omega)) ?_
                refine gk_again_sel rfl (i + 1, i + 1, v2, out ++ [⟨n, (m : Int) - n + 1⟩]) ⟨hlt, hp⟩ (by dsimp only; omega) (by repeat (first | exact trivial | refine ⟨rfl, ?_⟩)) sA sS
              · rw [if_neg hnm] at hp
                (repeat' (first | (refine gG ?_; try intro _) | ((first | refine g_split rfl rfl tE (fun _ => ?_) (fun _ => ?_) | refine gk_cond rfl rfl tE (fun _ => ?_) (fun _ => ?_)) <;> (try first | (exfalso; omega; done) | (rename_i hx; exact absurd rfl hx) | (rename_i hx; cases hx; done)))))
                refine gk_nilsl none 2 RE ?_
                refine gk_ret hT rfl rfl (.tmp rfl (.tmp rfl .nil)) (fun w' hk => ?_)
                exact Ret.mk ((⟨none, 0, 0⟩, [], 21) : SlV × List RunD × Int) ⟨.inr (.inr ⟨hs0, fun fr' out' h' => (by rw [rdN_none (i + 1) (s.length + 1) (by omega) hp] at h'; cases h'), rfl⟩), rfl, by decide⟩ rfl hk sA
            · obtain ⟨r1, r2, r3⟩ := r
              dsimp only at e2 ⊢
              subst e2
              rw [e1] at hp
              dsimp only at hp
              (repeat' (first | (refine gG ?_; try intro _) | ((first | refine g_split rfl rfl tE (fun _ => ?_) (fun _ => ?_) | refine gk_cond rfl rfl tE (fun _ => ?_) (fun _ => ?_)) <;> (try first | (exfalso; omega; done) | (rename_i hx; exact absurd rfl hx) | (rename_i hx; cases hx; done)))))
              refine gk_nilsl none 2 RE ?_
              refine gk_ret hT rfl rfl (.tmp rfl (.tmp rfl .nil)) (fun w' hk => ?_)
              exact Ret.mk ((⟨none, 0, 0⟩, [], 21) : SlV × List RunD × Int) ⟨.inr (.inr ⟨hs0, fun fr' out' h' => (by rw [rdN_none (i + 1) (s.length + 1) (by omega) hp] at h'; cases h'), rfl⟩), rfl, by decide⟩ rfl hk sA
    · have hie : i = s.length + 1 := by omega
      subst hie
      have hol2 : out.length ≤ 1000 := by omega
      (repeat' (first | (refine gG ?_; try intro _) | ((first | refine g_split rfl rfl tE (fun _ => ?_) (fun _ => ?_) | refine gk_cond rfl rfl tE (fun _ => ?_) (fun _ => ?_)) <;> (try first | (exfalso; omega; done) | (rename_i hx; exact absurd rfl hx) | (rename_i hx; cases hx; done)))))
      refine g_freeze _ (by intro _; first | ((repeat (first | with_reducible exact Upd.here _ | with_reducible apply Upd.there)); done) | ((repeat (first | exact Upd.here _ | apply Upd.there)); done) | fail) (fun A c hA hA1 hA2 hA3 => ?_)
      subst hA
      (repeat (refine gG ?_; try intro _))
      refine g_mv rfl (mv_call_bel (fun w hk => xtext_any A out.length c out w rfl hol2 (hk.rO (φ := sl A 2 RE out) mE)) rfl rfl rfl rfl rfl (by kernel_rfl) ?_)
      (repeat (refine gG ?_; try intro _))
      by_cases ht : txtP out = s
      · refine gk_cond_f rfl (congrArg some (congrArg Value.bool (tB_false (fun h => h (by rw [ht]))))) ?_
        (repeat (refine gG ?_; try intro _))
        refine gk_ret hT rfl rfl (.tmp rfl (.tmp rfl .nil)) (fun w' hk => ?_)
        exact Ret.mk ((⟨A, out.length, c⟩, out, 0) : SlV × List RunD × Int) ⟨.inr (.inl ⟨hs0, fr, out, hr, ht, rfl⟩), rfl, hA2⟩ rfl hk sA
      · refine gk_cond_t rfl (congrArg some (congrArg Value.bool (tB_true (fun h => ht (strOf_inj (txtP_bts out) hB h))))) ?_
        (repeat (refine gG ?_; try intro _))
        refine gk_nilsl none 2 RE ?_
        refine gk_ret hT rfl rfl (.tmp rfl (.tmp rfl .nil)) (fun w' hk => ?_)
        exact Ret.mk ((⟨none, 0, 0⟩, [], 21) : SlV × List RunD × Int) ⟨.inr (.inr ⟨hs0, fun fr' out' h' => by rw [hr] at h'; injection h' with h'; injection h' with h1 h2; rw [← h2]; exact ht, rfl⟩), rfl, by decide⟩ rfl hk sA
end Go.Proofs.Ytmehbhabheokbaa.Ex

