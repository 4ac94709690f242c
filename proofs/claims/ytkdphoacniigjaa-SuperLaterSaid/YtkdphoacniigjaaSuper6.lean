/- Pick of both. -/
import Derived.Test.YtkdphoacniigjaaSuper5
import Derived.Test.YtkdphoacniigjaaTab
namespace Go.Proofs.Ytkdphoacniigjaa.Super
open Go.RowKit Mem Bytes Fix Reader Gx
set_option linter.unusedVariables false
set_option linter.unusedSimpArgs false
set_option maxRecDepth 100000
set_option maxHeartbeats 2000000
/-- What the two sectors answer. -/
def pickS (ra rb : (Nat → Int) × Int) : (Nat → Int) × Int :=
  if (ra.2 = 0 ∧ ra.1 0 % 2 = 0) ∧ (¬ (rb.2 = 0 ∧ rb.1 0 % 2 = 1) ∨ ra.1 0 > rb.1 0) then (ra.1, 0)
  else if rb.2 = 0 ∧ rb.1 0 % 2 = 1 then (rb.1, 0) else (fun _ => 0, 60)
theorem supR_bd {B : List Int} (hB : IsB B) (code : Int) : 0 ≤ (supR (B, code)).1 0 ∧ (supR (B, code)).1 0 ≤ 18446744073709551615 := by
  unfold supR
  split
  · exact ⟨Int.le_refl _, by show (0 : Int) ≤ _; omega⟩
  · split
    · exact ⟨Int.le_refl _, by show (0 : Int) ≤ _; omega⟩
    · rename_i h1 h2
      have h84 : B.length = 84 := Classical.byContradiction fun h => h2 (by simp [h])
      refine ⟨?_, ?_⟩
      · show 0 ≤ chV B 0
        rw [ch_val h84 0 (by omega)]
        exact (num_bd ((hB.drop _).take _)).1
      · show chV B 0 ≤ _
        rw [ch_val h84 0 (by omega)]
        have h3 := (num_bd ((hB.drop 0).take 8)).2
        have hl : ((B.drop 0).take 8).length = 8 := by rw [List.length_take, List.length_drop]; omega
        rw [hl] at h3
        have h4 : (256 : Int) ^ 8 = 18446744073709551616 := by decide
        show num ((B.drop 0).take 8) ≤ _
        omega
/-- A superblock as a value. -/
def SV (S : Nat → Int) : Value := .agg #[.int .u64 (S 0), .int .u64 (S 1), .int .u64 (S 2), .int .u64 (S 3), .int .u32 (S 4), .int .u32 (S 5), .int .u32 (S 6), .int .i64 (S 7), .int .i64 (S 8), .int .u64 (S 9), .int .u64 (S 10), .int .u64 (S 11), .int .u64 (S 12)]
theorem supRes_of {w w' : World} {e : Ending} {S : Nat → Int} {code : Int} (r : (Nat → Int) × Int) (hr : r = (S, code)) (h : e = .returned (.tuple #[SV S, .int .i64 code])) (hb : Below w.heap.size w w') : SupRes w w' e r := by
  subst hr; exact ⟨h, hb⟩
theorem bs_argR {E : List Nat} {w : World} {O R : List Fact} {A : Option Addr} {L : List Int} (h : Kn E w w O R) (hs : BS w A L) (hO : O = []) : Kn E w w O (sl A 1 (IE .u8) L :: R) := h.argR hs (by decide) (fun φ hφ => by rw [hO] at hφ; cases hφ)
theorem spick_any (A A' : Option Addr) (m c m' c' : Nat) (L L' : List Int) (w : World) (hm : m = L.length) (hc : m ≤ c) (h : BS w A L) (hB : IsB L) (hm9 : m ≤ 100000) (hm' : m' = L'.length) (hc' : m' ≤ c') (h' : BS w A' L') (hB' : IsB L') (hm9' : m' ≤ 100000) :
    Calls Try.prog 36 [.slice A m c, .slice A' m' c'].toArray w fun e w' => SupRes w w' e (pickS (supR (Page.ofR 1 (Page.getS L))) (supR (Page.ofR 1 (Page.getS L')))) := by
  have b1 := supR_bd (of_bytes hB 1).1 (Page.ofR 1 (Page.getS L)).2
  have b2 := supR_bd (of_bytes hB' 1).1 (Page.ofR 1 (Page.getS L')).2
  have c1 := fun (w : World) (h : BS w A L) => sget_any A m c L w hm hc h hB hm9
  have c2 := fun (w : World) (h : BS w A' L') => sget_any A' m' c' L' w hm' hc' h hB' hm9'
  change 0 ≤ (supR (Page.ofR 1 (Page.getS L))).1 0 ∧ (supR (Page.ofR 1 (Page.getS L))).1 0 ≤ _ at b1
  change 0 ≤ (supR (Page.ofR 1 (Page.getS L'))).1 0 ∧ (supR (Page.ofR 1 (Page.getS L'))).1 0 ≤ _ at b2
  generalize supR (Page.ofR 1 (Page.getS L)) = ra at *
  generalize supR (Page.ofR 1 (Page.getS L')) = rb at *
  obtain ⟨Sa, ca⟩ := ra
  obtain ⟨Sb, cb⟩ := rb
  simp only at b1 b2
  replace c1 : ∀ w : World, BS w A L → Calls Try.prog 34 [.slice A m c].toArray w fun e w' => e = .returned (.tuple #[SV Sa, .int .i64 ca]) ∧ Below w.heap.size w w' := c1
  replace c2 : ∀ w : World, BS w A' L' → Calls Try.prog 34 [.slice A' m' c'].toArray w fun e w' => e = .returned (.tuple #[SV Sb, .int .i64 cb]) ∧ Below w.heap.size w w' := c2
  clear hB hB' hm hm' hc hc' hm9 hm9'
  refine g_enter0 T [] [] [sl A' 1 (IE .u8) L', sl A 1 (IE .u8) L] Try.func36 rfl Try.ntmps36 rfl (bs_argR (bs_argR (Kn.start w) h rfl) h' rfl) ?_
  repeat' (first | (first | refine g_nil ?_ | refine g_pure true hT rfl rfl rfl (by first | exact trivial | omega | (simp only [inR]; omega)) ?_ | refine g_skip rfl rfl ?_ | refine g_skip0 rfl rfl ?_ | refine gk_region rfl ?_ | refine gk_cond_t rfl rfl ?_ | refine gk_cond_f rfl rfl ?_ | refine g_yd rfl rfl (yd_load_blk hT rfl rfl (by repeat (first | exact List.Mem.head _ | apply List.Mem.tail)) rfl rfl) ?_ | refine g_yd rfl rfl (yd_load_row hT rfl rfl (by repeat (first | exact List.Mem.head _ | apply List.Mem.tail)) rfl rfl) ?_ | refine g_yd rfl rfl (yd_load_row0 hT rfl rfl (by repeat (first | exact List.Mem.head _ | apply List.Mem.tail)) rfl rfl) ?_ | refine g_yd rfl rfl (yd_eql rfl rfl rfl rfl rfl (by kernel_rfl)) ?_ | refine g_yd rfl rfl (yd_neq rfl rfl rfl rfl rfl (by kernel_rfl)) ?_ | refine g_yd rfl rfl (yd_index hT rfl rfl rfl (by first | exact trivial | omega | (simp only [inR]; omega)) rfl) ?_ | (refine g_mv rfl ?_; first | (refine mv_box rfl rfl rfl rfl ?_; intro _) | (refine mv_alloc rfl hT rfl rfl ?_; intro _) | refine mv_store hT rfl rfl rfl rfl rfl rfl (by repeat (first | exact StO.here rfl | apply StO.there)) rfl ?_ | (refine mv_buildSlice rfl hT rfl rfl rfl rfl rfl rfl rfl rfl ?_; intro _))) | (refine g_mv rfl ?_; first | refine mv_call_bel (fun w hk => bel_same (slot_any _ w b1.1 b1.2)) rfl rfl rfl rfl rfl (by kernel_rfl) ?_ | refine mv_call_bel (fun w hk => bel_same (slot_any _ w b2.1 b2.2)) rfl rfl rfl rfl rfl (by kernel_rfl) ?_ | refine mv_call_bel (fun w hk => c1 w (hk.pR (sl A 1 (IE .u8) L) (by repeat (first | exact List.Mem.head _ | apply List.Mem.tail)))) rfl rfl rfl rfl rfl (by kernel_rfl) ?_ | refine mv_call_bel (fun w hk => c2 w (hk.pR (sl A' 1 (IE .u8) L') (by repeat (first | exact List.Mem.head _ | apply List.Mem.tail)))) rfl rfl rfl rfl rfl (by kernel_rfl) ?_) | ((first | refine g_split rfl rfl (by first | exact tells_tB _ | exact tells_not (tells_tB _)) (fun _ => ?_) (fun _ => ?_) | refine gk_cond rfl rfl (by first | exact tells_tB _ | exact tells_not (tells_tB _)) (fun _ => ?_) (fun _ => ?_)) <;> (try first | (exfalso; omega; done) | (rename_i hx; exact absurd rfl hx) | (rename_i hx; cases hx; done))))
  all_goals (refine gk_ret hT rfl rfl (.cell rfl (by repeat (first | exact List.Mem.head _ | apply List.Mem.tail)) rfl rfl (.tmp rfl .nil)) (fun w' hk => ?_))
  all_goals first
    | exact supRes_of (S := Sa) (code := 0) _ (by unfold pickS; dsimp only; rw [if_pos (by omega)]) rfl hk.toBelow
    | exact supRes_of (S := Sb) (code := 0) _ (by unfold pickS; dsimp only; rw [if_neg (by omega), if_pos (by omega)]) rfl hk.toBelow
    | exact supRes_of (S := fun _ => 0) (code := 60) _ (by unfold pickS; dsimp only; rw [if_neg (by omega), if_neg (by omega)]) rfl hk.toBelow
/-- The reference's answer. -/
def rpickS (ra rb : (Nat → Int) × Int) : (Nat → Int) × Bool :=
  let x : Nat → Int := if ra.2 ≠ 0 ∨ ra.1 0 % 2 ≠ 0 then fun _ => 0 else ra.1
  let y : Nat → Int := if rb.2 ≠ 0 ∨ rb.1 0 % 2 ≠ 1 then fun _ => 0 else rb.1
  if x 0 > y 0 then (x, true) else (y, decide (y 0 > 0))
theorem rp_eq {Sa Sb x y : Nat → Int} {ca cb : Int} (hx : (x = Sa ∧ ca = 0 ∧ Sa 0 % 2 = 0) ∨ (x = (fun _ => 0) ∧ (ca ≠ 0 ∨ Sa 0 % 2 ≠ 0))) (hy : (y = Sb ∧ cb = 0 ∧ Sb 0 % 2 = 1) ∨ (y = (fun _ => 0) ∧ (cb ≠ 0 ∨ Sb 0 % 2 ≠ 1))) :
    rpickS (Sa, ca) (Sb, cb) = if x 0 > y 0 then (x, true) else (y, decide (y 0 > 0)) := by
  have h1 : (if ca ≠ 0 ∨ Sa 0 % 2 ≠ 0 then fun _ => 0 else Sa) = x := by
    rcases hx with ⟨e, h1, h2⟩ | ⟨e, h1⟩
    · rw [if_neg (by omega), e]
    · rw [if_pos h1, e]
  have h2 : (if cb ≠ 0 ∨ Sb 0 % 2 ≠ 1 then fun _ => 0 else Sb) = y := by
    rcases hy with ⟨e, h1, h2⟩ | ⟨e, h1⟩
    · rw [if_neg (by omega), e]
    · rw [if_pos h1, e]
  unfold rpickS
  dsimp only
  rw [h1, h2]
theorem rp_t {Sa Sb x y : Nat → Int} {ca cb : Int} (hx : (x = Sa ∧ ca = 0 ∧ Sa 0 % 2 = 0) ∨ (x = (fun _ => 0) ∧ (ca ≠ 0 ∨ Sa 0 % 2 ≠ 0))) (hy : (y = Sb ∧ cb = 0 ∧ Sb 0 % 2 = 1) ∨ (y = (fun _ => 0) ∧ (cb ≠ 0 ∨ Sb 0 % 2 ≠ 1))) (h : y 0 < x 0) : (x, true) = rpickS (Sa, ca) (Sb, cb) := by
  rw [rp_eq hx hy, if_pos h]
theorem rp_f {Sa Sb x y : Nat → Int} {ca cb : Int} (hx : (x = Sa ∧ ca = 0 ∧ Sa 0 % 2 = 0) ∨ (x = (fun _ => 0) ∧ (ca ≠ 0 ∨ Sa 0 % 2 ≠ 0))) (hy : (y = Sb ∧ cb = 0 ∧ Sb 0 % 2 = 1) ∨ (y = (fun _ => 0) ∧ (cb ≠ 0 ∨ Sb 0 % 2 ≠ 1))) (h : ¬ y 0 < x 0) : (y, tB (0 < y 0)) = rpickS (Sa, ca) (Sb, cb) := by
  rw [rp_eq hx hy, if_neg h, tB_eq]
theorem rpick_any (A A' : Option Addr) (m c m' c' : Nat) (L L' : List Int) (w : World) (hm : m = L.length) (hc : m ≤ c) (h : BS w A L) (hB : IsB L) (hm9 : m ≤ 100000) (hm' : m' = L'.length) (hc' : m' ≤ c') (h' : BS w A' L') (hB' : IsB L') (hm9' : m' ≤ 100000) :
    Calls Try.prog 37 [.slice A m c, .slice A' m' c'].toArray w fun e w' => (∃ S b, (S, b) = rpickS (supR (Page.ofR 1 (Page.getS L))) (supR (Page.ofR 1 (Page.getS L'))) ∧ e = .returned (.tuple #[SV S, .bool b])) ∧ Below w.heap.size w w' := by
  have b1 := supR_bd (of_bytes hB 1).1 (Page.ofR 1 (Page.getS L)).2
  have b2 := supR_bd (of_bytes hB' 1).1 (Page.ofR 1 (Page.getS L')).2
  have c1 := fun (w : World) (h : BS w A L) => rsget_any A m c L w hm hc h hB hm9
  have c2 := fun (w : World) (h : BS w A' L') => rsget_any A' m' c' L' w hm' hc' h hB' hm9'
  change 0 ≤ (supR (Page.ofR 1 (Page.getS L))).1 0 ∧ (supR (Page.ofR 1 (Page.getS L))).1 0 ≤ _ at b1
  change 0 ≤ (supR (Page.ofR 1 (Page.getS L'))).1 0 ∧ (supR (Page.ofR 1 (Page.getS L'))).1 0 ≤ _ at b2
  generalize supR (Page.ofR 1 (Page.getS L)) = ra at *
  generalize supR (Page.ofR 1 (Page.getS L')) = rb at *
  obtain ⟨Sa, ca⟩ := ra
  obtain ⟨Sb, cb⟩ := rb
  simp only at b1 b2
  replace c1 : ∀ w : World, BS w A L → Calls Try.prog 35 [.slice A m c].toArray w fun e w' => e = .returned (.tuple #[SV Sa, .int .i64 ca]) ∧ Below w.heap.size w w' := c1
  replace c2 : ∀ w : World, BS w A' L' → Calls Try.prog 35 [.slice A' m' c'].toArray w fun e w' => e = .returned (.tuple #[SV Sb, .int .i64 cb]) ∧ Below w.heap.size w w' := c2
  clear hB hB' hm hm' hc hc' hm9 hm9'
  refine g_enter0 T [] [] [sl A' 1 (IE .u8) L', sl A 1 (IE .u8) L] Try.func37 rfl Try.ntmps37 rfl (bs_argR (bs_argR (Kn.start w) h rfl) h' rfl) ?_
  repeat' (first | (first | refine g_nil ?_ | refine g_pure true hT rfl rfl rfl (by first | exact trivial | omega | (simp only [inR]; omega)) ?_ | refine g_skip rfl rfl ?_ | refine g_skip0 rfl rfl ?_ | refine gk_region rfl ?_ | refine gk_cond_t rfl rfl ?_ | refine gk_cond_f rfl rfl ?_ | refine g_yd rfl rfl (yd_load_blk hT rfl rfl (by repeat (first | exact List.Mem.head _ | apply List.Mem.tail)) rfl rfl) ?_ | refine g_yd rfl rfl (yd_load_row hT rfl rfl (by repeat (first | exact List.Mem.head _ | apply List.Mem.tail)) rfl rfl) ?_ | refine g_yd rfl rfl (yd_load_row0 hT rfl rfl (by repeat (first | exact List.Mem.head _ | apply List.Mem.tail)) rfl rfl) ?_ | refine g_yd rfl rfl (yd_eql rfl rfl rfl rfl rfl (by kernel_rfl)) ?_ | refine g_yd rfl rfl (yd_neq rfl rfl rfl rfl rfl (by kernel_rfl)) ?_ | refine g_yd rfl rfl (yd_index hT rfl rfl rfl (by first | exact trivial | omega | (simp only [inR]; omega)) rfl) ?_ | (refine g_mv rfl ?_; first | (refine mv_box rfl rfl rfl rfl ?_; intro _) | (refine mv_alloc rfl hT rfl rfl ?_; intro _) | refine mv_store hT rfl rfl rfl rfl rfl rfl (by repeat (first | exact StO.here rfl | apply StO.there)) rfl ?_ | (refine mv_buildSlice rfl hT rfl rfl rfl rfl rfl rfl rfl rfl ?_; intro _))) | (refine g_mv rfl ?_; first | refine mv_call_bel (fun w hk => c1 w (hk.pR (sl A 1 (IE .u8) L) (by repeat (first | exact List.Mem.head _ | apply List.Mem.tail)))) rfl rfl rfl rfl rfl (by kernel_rfl) ?_ | refine mv_call_bel (fun w hk => c2 w (hk.pR (sl A' 1 (IE .u8) L') (by repeat (first | exact List.Mem.head _ | apply List.Mem.tail)))) rfl rfl rfl rfl rfl (by kernel_rfl) ?_) | ((first | refine g_split rfl rfl (by first | exact tells_tB _ | exact tells_not (tells_tB _)) (fun _ => ?_) (fun _ => ?_) | refine gk_cond rfl rfl (by first | exact tells_tB _ | exact tells_not (tells_tB _)) (fun _ => ?_) (fun _ => ?_)) <;> (try first | (exfalso; omega; done) | (rename_i hx; exact absurd rfl hx) | (rename_i hx; cases hx; done))))
  all_goals try (refine gk_drawn_at [0, 1] rfl rfl (by kernel_rfl) ?_; repeat (first | refine ga_nil (by decide +kernel) ?_ | refine ga_take (by decide +kernel) rfl rfl (ys_ev (nw := true) hT rfl (by first | exact trivial | omega | (simp only [inR]; omega))) (by repeat (first | exact subF_nil | refine subF_cons (by first | exact .inl (by repeat (first | exact List.Mem.head _ | apply List.Mem.tail)) | exact .inr (by repeat (first | exact List.Mem.head _ | apply List.Mem.tail))) ?_)) ?_ | refine ga_skip (by decide +kernel) rfl rfl (by repeat (first | exact subF_nil | refine subF_cons (by first | exact .inl (by repeat (first | exact List.Mem.head _ | apply List.Mem.tail)) | exact .inr (by repeat (first | exact List.Mem.head _ | apply List.Mem.tail))) ?_)) ?_ | refine ga_take (by decide +kernel) rfl rfl (ys_blk hT rfl rfl (by repeat (first | exact List.Mem.head _ | apply List.Mem.tail)) rfl rfl) (by repeat (first | exact subF_nil | refine subF_cons (by first | exact .inl (by repeat (first | exact List.Mem.head _ | apply List.Mem.tail)) | exact .inr (by repeat (first | exact List.Mem.head _ | apply List.Mem.tail))) ?_)) ?_ | refine ga_take (by decide +kernel) rfl rfl (ys_row hT rfl rfl (by repeat (first | exact List.Mem.head _ | apply List.Mem.tail)) rfl rfl) (by repeat (first | exact subF_nil | refine subF_cons (by first | exact .inl (by repeat (first | exact List.Mem.head _ | apply List.Mem.tail)) | exact .inr (by repeat (first | exact List.Mem.head _ | apply List.Mem.tail))) ?_)) ?_ | refine ga_take (by decide +kernel) rfl rfl (ys_row0 hT rfl rfl (by repeat (first | exact List.Mem.head _ | apply List.Mem.tail)) rfl rfl) (by repeat (first | exact subF_nil | refine subF_cons (by first | exact .inl (by repeat (first | exact List.Mem.head _ | apply List.Mem.tail)) | exact .inr (by repeat (first | exact List.Mem.head _ | apply List.Mem.tail))) ?_)) ?_ | (refine ga_mv (by decide +kernel) rfl ?_; (first | (refine mv_box rfl rfl rfl rfl ?_; intro _) | (refine mv_alloc rfl hT rfl rfl ?_; intro _) | refine mv_store hT rfl rfl rfl rfl rfl rfl (by repeat (first | exact StO.here rfl | apply StO.there)) rfl ?_ | (refine mv_buildSlice rfl hT rfl rfl rfl rfl rfl rfl rfl rfl ?_; intro _)); refine ⟨(by repeat (first | exact subF_nil | refine subF_cons (by first | exact .inl (by repeat (first | exact List.Mem.head _ | apply List.Mem.tail)) | exact .inr (by repeat (first | exact List.Mem.head _ | apply List.Mem.tail))) ?_)), ?_⟩)); repeat (first | refine g_nil ?_ | refine g_pure true hT rfl rfl rfl (by first | exact trivial | omega | (simp only [inR]; omega)) ?_ | refine g_skip rfl rfl ?_ | refine g_skip0 rfl rfl ?_ | refine gk_region rfl ?_ | refine gk_cond_t rfl rfl ?_ | refine gk_cond_f rfl rfl ?_ | refine g_yd rfl rfl (yd_load_blk hT rfl rfl (by repeat (first | exact List.Mem.head _ | apply List.Mem.tail)) rfl rfl) ?_ | refine g_yd rfl rfl (yd_load_row hT rfl rfl (by repeat (first | exact List.Mem.head _ | apply List.Mem.tail)) rfl rfl) ?_ | refine g_yd rfl rfl (yd_load_row0 hT rfl rfl (by repeat (first | exact List.Mem.head _ | apply List.Mem.tail)) rfl rfl) ?_ | refine g_yd rfl rfl (yd_eql rfl rfl rfl rfl rfl (by kernel_rfl)) ?_ | refine g_yd rfl rfl (yd_neq rfl rfl rfl rfl rfl (by kernel_rfl)) ?_ | refine g_yd rfl rfl (yd_index hT rfl rfl rfl (by first | exact trivial | omega | (simp only [inR]; omega)) rfl) ?_ | (refine g_mv rfl ?_; first | (refine mv_box rfl rfl rfl rfl ?_; intro _) | (refine mv_alloc rfl hT rfl rfl ?_; intro _) | refine mv_store hT rfl rfl rfl rfl rfl rfl (by repeat (first | exact StO.here rfl | apply StO.there)) rfl ?_ | (refine mv_buildSlice rfl hT rfl rfl rfl rfl rfl rfl rfl rfl ?_; intro _))))
  all_goals (refine gk_ret hT rfl rfl (.cell rfl (by repeat (first | exact List.Mem.head _ | apply List.Mem.tail)) rfl rfl (.tmp rfl .nil)) (fun w' hk => ?_))
  all_goals first
    | exact ⟨⟨_, _, rp_t (x := Sa) (y := Sb) (by first | exact .inl ⟨rfl, by omega, by omega⟩ | exact .inr ⟨rfl, by omega⟩) (by first | exact .inl ⟨rfl, by omega, by omega⟩ | exact .inr ⟨rfl, by omega⟩) (by omega), rfl⟩, hk.toBelow⟩
    | exact ⟨⟨_, _, rp_f (x := Sa) (y := Sb) (by first | exact .inl ⟨rfl, by omega, by omega⟩ | exact .inr ⟨rfl, by omega⟩) (by first | exact .inl ⟨rfl, by omega, by omega⟩ | exact .inr ⟨rfl, by omega⟩) (by omega), rfl⟩, hk.toBelow⟩
    | exact ⟨⟨_, _, rp_t (x := Sa) (y := fun _ => 0) (by first | exact .inl ⟨rfl, by omega, by omega⟩ | exact .inr ⟨rfl, by omega⟩) (by first | exact .inl ⟨rfl, by omega, by omega⟩ | exact .inr ⟨rfl, by omega⟩) (by omega), rfl⟩, hk.toBelow⟩
    | exact ⟨⟨_, _, rp_f (x := Sa) (y := fun _ => 0) (by first | exact .inl ⟨rfl, by omega, by omega⟩ | exact .inr ⟨rfl, by omega⟩) (by first | exact .inl ⟨rfl, by omega, by omega⟩ | exact .inr ⟨rfl, by omega⟩) (by omega), rfl⟩, hk.toBelow⟩
    | exact ⟨⟨_, _, rp_t (x := fun _ => 0) (y := Sb) (by first | exact .inl ⟨rfl, by omega, by omega⟩ | exact .inr ⟨rfl, by omega⟩) (by first | exact .inl ⟨rfl, by omega, by omega⟩ | exact .inr ⟨rfl, by omega⟩) (by omega), rfl⟩, hk.toBelow⟩
    | exact ⟨⟨_, _, rp_f (x := fun _ => 0) (y := Sb) (by first | exact .inl ⟨rfl, by omega, by omega⟩ | exact .inr ⟨rfl, by omega⟩) (by first | exact .inl ⟨rfl, by omega, by omega⟩ | exact .inr ⟨rfl, by omega⟩) (by omega), rfl⟩, hk.toBelow⟩
    | exact ⟨⟨_, _, rp_t (x := fun _ => 0) (y := fun _ => 0) (by first | exact .inl ⟨rfl, by omega, by omega⟩ | exact .inr ⟨rfl, by omega⟩) (by first | exact .inl ⟨rfl, by omega, by omega⟩ | exact .inr ⟨rfl, by omega⟩) (by omega), rfl⟩, hk.toBelow⟩
    | exact ⟨⟨_, _, rp_f (x := fun _ => 0) (y := fun _ => 0) (by first | exact .inl ⟨rfl, by omega, by omega⟩ | exact .inr ⟨rfl, by omega⟩) (by first | exact .inl ⟨rfl, by omega, by omega⟩ | exact .inr ⟨rfl, by omega⟩) (by omega), rfl⟩, hk.toBelow⟩
end Go.Proofs.Ytkdphoacniigjaa.Super
