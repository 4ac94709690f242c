/- The law SuperGets. -/
import Derived.Test.YtkdphoacniigjaaSuper8
namespace Go.Proofs.Ytkdphoacniigjaa.Super
open Go.RowKit Mem Bytes Fix Reader Gx
set_option linter.unusedVariables false
set_option linter.unusedSimpArgs false
set_option maxRecDepth 100000
set_option maxHeartbeats 2000000
theorem agree {Sa Sb : Nat → Int} {ca cb : Int} (ha : ca = 0 → Sa 0 ≠ 0) (hb : cb = 0 → Sb 0 ≠ 0) (a0 : 0 ≤ Sa 0) (b0 : 0 ≤ Sb 0) :
    ∃ S c, pickS (Sa, ca) (Sb, cb) = (S, c) ∧ rpickS (Sa, ca) (Sb, cb) = (S, decide (c = 0)) ∧ (c = 0 ∨ c = 60) := by
  by_cases ok : ca = 0 ∧ Sa 0 % 2 = 0
  · by_cases is : cb = 0 ∧ Sb 0 % 2 = 1
    · have hr := rp_eq (Sa := Sa) (Sb := Sb) (x := Sa) (y := Sb) (.inl ⟨rfl, ok.1, ok.2⟩) (.inl ⟨rfl, is.1, is.2⟩)
      by_cases hgt : Sa 0 > Sb 0
      · exact ⟨Sa, 0, by unfold pickS; dsimp only; rw [if_pos ⟨ok, .inr hgt⟩], by rw [hr, if_pos hgt]; rfl, .inl rfl⟩
      · have := hb is.1
        exact ⟨Sb, 0, by unfold pickS; dsimp only; rw [if_neg (by omega), if_pos is], by rw [hr, if_neg hgt]; congr 1; simp; omega, .inl rfl⟩
    · have hr := rp_eq (Sa := Sa) (Sb := Sb) (x := Sa) (y := fun _ => 0) (.inl ⟨rfl, ok.1, ok.2⟩) (.inr ⟨rfl, Classical.not_and_iff_not_or_not.1 is⟩)
      have := ha ok.1
      exact ⟨Sa, 0, by unfold pickS; dsimp only; rw [if_pos ⟨ok, .inl is⟩], by rw [hr, if_pos (by show (0 : Int) < Sa 0; omega)]; rfl, .inl rfl⟩
  · by_cases is : cb = 0 ∧ Sb 0 % 2 = 1
    · have hr := rp_eq (Sa := Sa) (Sb := Sb) (x := fun _ => 0) (y := Sb) (.inr ⟨rfl, Classical.not_and_iff_not_or_not.1 ok⟩) (.inl ⟨rfl, is.1, is.2⟩)
      have := hb is.1
      exact ⟨Sb, 0, by unfold pickS; dsimp only; rw [if_neg (fun h => ok h.1), if_pos is], by rw [hr, if_neg (by show ¬ Sb 0 < (0 : Int); omega)]; congr 1; simp; omega, .inl rfl⟩
    · have hr := rp_eq (Sa := Sa) (Sb := Sb) (x := fun _ => 0) (y := fun _ => 0) (.inr ⟨rfl, Classical.not_and_iff_not_or_not.1 ok⟩) (.inr ⟨rfl, Classical.not_and_iff_not_or_not.1 is⟩)
      exact ⟨fun _ => 0, 60, by unfold pickS; dsimp only; rw [if_neg (fun h => ok h.1), if_neg is], by rw [hr, if_neg (by show ¬ (0 : Int) < 0; omega)]; rfl, .inr rfl⟩
theorem supR_ne {B : List Int} {code : Int} (h : (supR (B, code)).2 = 0) : (supR (B, code)).1 0 ≠ 0 := by
  unfold supR at h ⊢
  split at h
  · rename_i h1; exact absurd h h1
  · split at h
    · cases h
    · rename_i h1 h2
      rw [if_neg h1, if_neg h2]
      have h3 : RightS (chV B) := Classical.byContradiction fun h => h2 (.inr h)
      exact h3.1
theorem superGets_any (A A' : Option Addr) (m c m' c' : Nat) (L L' : List Int) (w : World) (hm : m = L.length) (hc : m ≤ c) (hm9 : m ≤ 9223372036854775807) (h : BS w A L) (hB : IsB L) (hm' : m' = L'.length) (hc' : m' ≤ c') (hm9' : m' ≤ 9223372036854775807) (h' : BS w A' L') (hB' : IsB L') :
    Calls Try.prog 8 [.slice A m c, .slice A' m' c'].toArray w fun e w' => e = .returned (.bool true) ∧ Below w.heap.size w w' := by
  by_cases hbig : 300 < m ∨ 300 < m'
  · refine g_enter0 T [] [] [] Try.func8 rfl Try.ntmps8 rfl (Kn.start w) ?_
    repeat' (first | (first | refine g_nil ?_ | refine g_pure true hT rfl rfl rfl (by first | exact trivial | omega | (simp only [inR]; omega)) ?_ | refine g_skip rfl rfl ?_ | refine g_skip0 rfl rfl ?_ | refine gk_region rfl ?_ | refine gk_cond_t rfl rfl ?_ | refine gk_cond_f rfl rfl ?_ | refine g_yd rfl rfl (yd_load_blk hT rfl rfl (by repeat (first | exact List.Mem.head _ | apply List.Mem.tail)) rfl rfl) ?_ | refine g_yd rfl rfl (yd_load_row hT rfl rfl (by repeat (first | exact List.Mem.head _ | apply List.Mem.tail)) rfl rfl) ?_ | refine g_yd rfl rfl (yd_load_row0 hT rfl rfl (by repeat (first | exact List.Mem.head _ | apply List.Mem.tail)) rfl rfl) ?_ | refine g_yd rfl rfl (yd_eql rfl rfl rfl rfl rfl (by kernel_rfl)) ?_ | refine g_yd rfl rfl (yd_neq rfl rfl rfl rfl rfl (by kernel_rfl)) ?_ | refine g_yd rfl rfl (yd_index hT rfl rfl rfl (by first | exact trivial | omega | (simp only [inR]; omega)) rfl) ?_ | (refine g_mv rfl ?_; first | (refine mv_box rfl rfl rfl rfl ?_; intro _) | (refine mv_alloc rfl hT rfl rfl ?_; intro _) | refine mv_store hT rfl rfl rfl rfl rfl rfl (by repeat (first | exact StO.here rfl | apply StO.there)) rfl ?_ | (refine mv_buildSlice rfl hT rfl rfl rfl rfl rfl rfl rfl rfl ?_; intro _))) | ((first | refine g_split rfl rfl (by first | exact tells_tB _ | exact tells_not (tells_tB _)) (fun _ => ?_) (fun _ => ?_) | refine gk_cond rfl rfl (by first | exact tells_tB _ | exact tells_not (tells_tB _)) (fun _ => ?_) (fun _ => ?_)) <;> (try first | (exfalso; omega; done) | (rename_i hx; exact absurd rfl hx) | (rename_i hx; cases hx; done))))
    all_goals (refine gk_ret hT rfl rfl (.tmp rfl .nil) (fun w' hk => ?_); exact ⟨rfl, hk.toBelow⟩)
  have hs : m ≤ 300 ∧ m' ≤ 300 := by omega
  have b1 := supR_bd (of_bytes hB 1).1 (Page.ofR 1 (Page.getS L)).2
  have b2 := supR_bd (of_bytes hB' 1).1 (Page.ofR 1 (Page.getS L')).2
  have n1 := fun h => supR_ne (B := (Page.ofR 1 (Page.getS L)).1) (code := (Page.ofR 1 (Page.getS L)).2) h
  have n2 := fun h => supR_ne (B := (Page.ofR 1 (Page.getS L')).1) (code := (Page.ofR 1 (Page.getS L')).2) h
  have c1 := fun (w : World) (h : BS w A L) => sget_any A m c L w hm hc h hB (by omega)
  have c2 := fun (w : World) (h : BS w A L) => rsget_any A m c L w hm hc h hB (by omega)
  have c3 := fun (w : World) (h : BS w A L) (h' : BS w A' L') => spick_any A A' m c m' c' L L' w hm hc h hB (by omega) hm' hc' h' hB' (by omega)
  have c4 := fun (w : World) (h : BS w A L) (h' : BS w A' L') => rpick_any A A' m c m' c' L L' w hm hc h hB (by omega) hm' hc' h' hB' (by omega)
  change 0 ≤ (supR (Page.ofR 1 (Page.getS L))).1 0 ∧ (supR (Page.ofR 1 (Page.getS L))).1 0 ≤ _ at b1
  change 0 ≤ (supR (Page.ofR 1 (Page.getS L'))).1 0 ∧ (supR (Page.ofR 1 (Page.getS L'))).1 0 ≤ _ at b2
  change (supR (Page.ofR 1 (Page.getS L))).2 = 0 → (supR (Page.ofR 1 (Page.getS L))).1 0 ≠ 0 at n1
  change (supR (Page.ofR 1 (Page.getS L'))).2 = 0 → (supR (Page.ofR 1 (Page.getS L'))).1 0 ≠ 0 at n2
  generalize supR (Page.ofR 1 (Page.getS L)) = ra at *
  generalize supR (Page.ofR 1 (Page.getS L')) = rb at *
  obtain ⟨Sa, ca⟩ := ra
  obtain ⟨Sb, cb⟩ := rb
  simp only at b1 b2 n1 n2
  obtain ⟨Sp, cp, hp, hr, hcp⟩ := agree n1 n2 b1.1 b2.1
  rw [hp] at c3
  replace c1 : ∀ w : World, BS w A L → Calls Try.prog 34 [.slice A m c].toArray w fun e w' => e = .returned (.tuple #[SV Sa, .int .i64 ca]) ∧ Below w.heap.size w w' := c1
  replace c2 : ∀ w : World, BS w A L → Calls Try.prog 35 [.slice A m c].toArray w fun e w' => e = .returned (.tuple #[SV Sa, .int .i64 ca]) ∧ Below w.heap.size w w' := c2
  replace c3 : ∀ w : World, BS w A L → BS w A' L' → Calls Try.prog 36 [.slice A m c, .slice A' m' c'].toArray w fun e w' => e = .returned (.tuple #[SV Sp, .int .i64 cp]) ∧ Below w.heap.size w w' := c3
  replace c4 : ∀ w : World, BS w A L → BS w A' L' → Calls Try.prog 37 [.slice A m c, .slice A' m' c'].toArray w fun e w' => e = .returned (.tuple #[SV Sp, .bool (tB (cp = 0))]) ∧ Below w.heap.size w w' := fun w h h' => (c4 w h h').mono fun e w' ⟨⟨S, b, e1, e2⟩, hb⟩ => by
    rw [hr] at e1
    injection e1 with e1 e3
    refine ⟨?_, hb⟩
    rw [e2, e1, e3, tB_eq]
  clear hB hB' hm hm' hc hc' hm9 hm9' n1 n2 hp hr
  refine g_enter0 T [] [] [sl A' 1 (IE .u8) L', sl A 1 (IE .u8) L] Try.func8 rfl Try.ntmps8 rfl (bs_argR (bs_argR (Kn.start w) h rfl) h' rfl) ?_
  repeat' (first | (first | refine g_nil ?_ | refine g_pure true hT rfl rfl rfl (by first | exact trivial | omega | (simp only [inR]; omega)) ?_ | refine g_skip rfl rfl ?_ | refine g_skip0 rfl rfl ?_ | refine gk_region rfl ?_ | refine gk_cond_t rfl rfl ?_ | refine gk_cond_f rfl rfl ?_ | refine g_yd rfl rfl (yd_load_blk hT rfl rfl (by repeat (first | exact List.Mem.head _ | apply List.Mem.tail)) rfl rfl) ?_ | refine g_yd rfl rfl (yd_load_row hT rfl rfl (by repeat (first | exact List.Mem.head _ | apply List.Mem.tail)) rfl rfl) ?_ | refine g_yd rfl rfl (yd_load_row0 hT rfl rfl (by repeat (first | exact List.Mem.head _ | apply List.Mem.tail)) rfl rfl) ?_ | refine g_yd rfl rfl (yd_eql rfl rfl rfl rfl rfl (by kernel_rfl)) ?_ | refine g_yd rfl rfl (yd_neq rfl rfl rfl rfl rfl (by kernel_rfl)) ?_ | refine g_yd rfl rfl (yd_index hT rfl rfl rfl (by first | exact trivial | omega | (simp only [inR]; omega)) rfl) ?_ | (refine g_mv rfl ?_; first | (refine mv_box rfl rfl rfl rfl ?_; intro _) | (refine mv_alloc rfl hT rfl rfl ?_; intro _) | refine mv_store hT rfl rfl rfl rfl rfl rfl (by repeat (first | exact StO.here rfl | apply StO.there)) rfl ?_ | (refine mv_buildSlice rfl hT rfl rfl rfl rfl rfl rfl rfl rfl ?_; intro _))) | (refine g_mv rfl ?_; first | refine mv_call_bel (fun w hk => c1 w (hk.pR (sl A 1 (IE .u8) L) (by repeat (first | exact List.Mem.head _ | apply List.Mem.tail)))) rfl rfl rfl rfl rfl (by kernel_rfl) ?_ | refine mv_call_bel (fun w hk => c2 w (hk.pR (sl A 1 (IE .u8) L) (by repeat (first | exact List.Mem.head _ | apply List.Mem.tail)))) rfl rfl rfl rfl rfl (by kernel_rfl) ?_ | refine mv_call_bel (fun w hk => c3 w (hk.pR (sl A 1 (IE .u8) L) (by repeat (first | exact List.Mem.head _ | apply List.Mem.tail))) (hk.pR (sl A' 1 (IE .u8) L') (by repeat (first | exact List.Mem.head _ | apply List.Mem.tail)))) rfl rfl rfl rfl rfl (by kernel_rfl) ?_ | refine mv_call_bel (fun w hk => c4 w (hk.pR (sl A 1 (IE .u8) L) (by repeat (first | exact List.Mem.head _ | apply List.Mem.tail))) (hk.pR (sl A' 1 (IE .u8) L') (by repeat (first | exact List.Mem.head _ | apply List.Mem.tail)))) rfl rfl rfl rfl rfl (by kernel_rfl) ?_ | refine mv_call_bel (fun w hk => salive w) rfl rfl rfl rfl rfl (by kernel_rfl) ?_) | ((first | refine g_split rfl rfl (by first | exact tells_tB _ | exact tells_not (tells_tB _)) (fun _ => ?_) (fun _ => ?_) | refine gk_cond rfl rfl (by first | exact tells_tB _ | exact tells_not (tells_tB _)) (fun _ => ?_) (fun _ => ?_)) <;> (try first | (exfalso; omega; done) | (rename_i hx; exact absurd rfl hx) | (rename_i hx; cases hx; done))))
  all_goals first
    | (rename_i hx; exfalso; apply hx; simp [conjP]; done)
    | (rename_i hx; exact absurd rfl hx)
    | (exfalso; omega)
    | exact absurd rfl ‹¬ tB (cp = 0) = tB (cp = 0)›
    | exact absurd rfl ‹¬ ca = ca›
    | (refine gk_ret hT rfl rfl (.tmp rfl .nil) (fun w' hk => ?_); exact ⟨rfl, hk.toBelow⟩)
    | (refine gk_ret hT rfl rfl (.tmp rfl .nil) (fun w' hk => ?_); exact ⟨ret_bool (by simp [tB_eq]; omega), hk.toBelow⟩)
    | trace_state
end Go.Proofs.Ytkdphoacniigjaa.Super
