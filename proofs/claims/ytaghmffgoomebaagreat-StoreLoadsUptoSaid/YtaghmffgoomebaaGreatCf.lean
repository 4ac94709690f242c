/- check.first: does each child begin with the key that its node has of it? -/
import Derived.Test.YtaghmffgoomebaaGreatTn
namespace Go.Proofs.YtaghmffgoomebaaGreat.Ck
open Go.RowKit Mem Nd Gx Sk Tw Wk
open Tr hiding T row
set_option linter.unusedVariables false
set_option linter.unusedSimpArgs false
set_option maxRecDepth 100000
set_option maxHeartbeats 1000000
def FirstP (Ks : List KeyD) (ds : List NodeD) : Prop := ∀ i d, ds[i]? = some d → d.Ks.length ≠ 0 ∧ d.Ks.getD 0 default = Ks.getD i default
theorem cfirst_any (g : Nat) (lf : Bool) (KA CA : Option Addr) (kn kc cc : Nat) (V : SlV) (a : Int) (Ks : List KeyD) (ds : List NodeD) (w : World) (h9 : ds.length ≤ 1000000) (hlen : ds.length ≤ Ks.length) (hok : ∀ d ∈ ds, d.Ok) (hB : Rd1 w (row g 0 [.bool lf, .slice KA kn kc, V.v, .slice CA ds.length cc, .int .u32 a])) (hK : Rd1 w (sl KA 3 KE Ks)) (hC : Rd1 w (sl CA 1 PE (ds.map NodeD.g))) (hD : Rd1 w (allF ds nodeF)) (hkn : kn = Ks.length) :
    Calls Tryz.prog 55 [.pointer (some ⟨g, 0, none⟩)].toArray w fun e w' => e = .returned (.bool (tB (FirstP Ks ds))) ∧ Below w.heap.size w w' := by
  refine g_enter0 T [] [] [row g 0 [.bool lf, .slice KA kn kc, V.v, .slice CA ds.length cc, .int .u32 a], sl KA 3 KE Ks, sl CA 1 PE (ds.map NodeD.g), allF ds nodeF] Tryz.func55 rfl Tryz.ntmps55 rfl (Rds.cons hB (.cons hK (.cons hC (.cons hD .nil)))).kn ?_
  (repeat (refine gG ?_; try intro _))
  refine gk_loop_sel (fun (i : Nat) => (i ≤ ds.length ∧ ∀ j d, j < i → ds[j]? = some d → d.Ks.length ≠ 0 ∧ d.Ks.getD 0 default = Ks.getD j default)) (fun (i : Nat) => [(0, .pointer (some ⟨g, 0, none⟩)), (8, .slice CA ds.length cc), (9, .int .i64 ds.length), (10, .int .i64 i)]) (fun (i : Nat) => []) (fun (i : Nat) => [row g 0 [.bool lf, .slice KA kn kc, V.v, .slice CA ds.length cc, .int .u32 a], sl KA 3 KE Ks, sl CA 1 PE (ds.map NodeD.g), allF ds nodeF]) (fun (i : Nat) => ds.length - i) 0 rfl ⟨Nat.zero_le _, fun j d hj => absurd hj (by omega)⟩ (by repeat (first | exact trivial | refine ⟨rfl, ?_⟩)) sA sS ?_
  rintro i hI
  replace hI : (i ≤ ds.length ∧ ∀ j d, j < i → ds[j]? = some d → d.Ks.length ≠ 0 ∧ d.Ks.getD 0 default = Ks.getD j default) := hI
  change GK _ _ [(0, .pointer (some ⟨g, 0, none⟩)), (8, .slice CA ds.length cc), (9, .int .i64 ds.length), (10, .int .i64 i)] [] [row g 0 [.bool lf, .slice KA kn kc, V.v, .slice CA ds.length cc, .int .u32 a], sl KA 3 KE Ks, sl CA 1 PE (ds.map NodeD.g), allF ds nodeF]
  obtain ⟨hi, hA⟩ := hI
  by_cases hlt : i < ds.length
  · obtain ⟨d, hd⟩ : ∃ d, ds[i]? = some d := ⟨ds[i], List.getElem?_eq_getElem hlt⟩
    have hdm := List.mem_of_getElem? hd
    have hdo := hok d hdm
    refine gk_elem (enc := PE) (L := ds.map NodeD.g) i mE (by rw [List.length_map]; exact hlt) (by decide) (fun b1 o1 y1 eA hy1 => ?_)
    subst eA
    obtain rfl : d.g = y1 := by rw [List.getElem?_map, hd] at hy1; exact Option.some.inj hy1
    refine gk_allR (l := ds) (F := nodeF) (x := d) mE hdm ?_
    refine gk_nB (d := d) mE ?_
    refine gk_nK (d := d) mE ?_
    obtain ⟨dA, hdA⟩ : ∃ x, x = d.K.A := ⟨_, rfl⟩
    obtain ⟨dc, hdc⟩ : ∃ x, x = d.K.c := ⟨_, rfl⟩
    have hKv : d.K.v = .slice dA d.Ks.length dc := by rw [hdA, hdc, ← hdo.K.n]; rfl
    have hdn := hdo.K.n
    rw [hKv, ← hdA]
    obtain ⟨k, hks⟩ : ∃ k, Ks[i]? = some k := ⟨Ks[i], List.getElem?_eq_getElem (by omega)⟩
    refine gk_elem (enc := KE) (L := Ks) i mE (by omega) (by decide) (fun b2 o2 y2 eA hy2 => ?_)
    subst eA
    obtain rfl : k = y2 := by rw [hks] at hy2; exact Option.some.inj hy2
    (repeat' (first | (refine gG ?_; try intro _) | ((first | refine g_split rfl rfl tE (fun _ => ?_) (fun _ => ?_) | refine gk_cond rfl rfl tE (fun _ => ?_) (fun _ => ?_)) <;> (try first | (exfalso; omega; done) | (rename_i hx; exact absurd rfl hx) | (rename_i hx; cases hx; done)))))
    by_cases h0 : d.Ks.length = 0
    · refine gk_any [0, 1, 2, 3, 4, 5] (Cut _ (fun _ : Unit => [(0, .pointer (some ⟨g, 0, none⟩)), (37, .bool true)]) (fun _ => []) (fun _ => [])) rfl rfl (by kernel_rfl) ?_ (cut_k fun _ => ?_)
      · skip
        refine gb_take 0 rfl (by decide +kernel) rfl rfl (ys_ev (nw := true) hT rfl sI) sF ?_
        refine gb_take 1 rfl (by decide +kernel) rfl rfl (ys_ev (nw := true) hT rfl sI) sF ?_
        refine gb_take 2 rfl (by decide +kernel) rfl rfl (ys_ev (nw := true) hT rfl sI) sF ?_
        first | refine gb_take 3 rfl (by decide +kernel) rfl rfl (ys_ev (nw := true) hT rfl sI) sF ?_ | refine gb_skip 3 rfl (by decide +kernel) rfl rfl sF ?_
        first | refine gb_skip 4 rfl (by decide +kernel) rfl rfl sF ?_ | (refine gb_only 4 (by decide +kernel) rfl rfl ?_; (refine mv_call_bel (fun w hk => nlen_any d.g [] d.leaf d.K d.V d.C d.a w (rd_nb (hk.rR (φ := nodeF d) mE)).1) rfl rfl rfl rfl rfl (by kernel_rfl) ?_); refine ⟨sF, ?_⟩)
        first | refine gb_take 5 rfl (by decide +kernel) rfl rfl (ys_ev (nw := true) hT rfl sI) sF ?_ | refine gb_skip 5 rfl (by decide +kernel) rfl rfl sF ?_
        try (refine gb_say 20 (.bool true) rfl (congrArg Value.bool (tB_true (by omega))) ?_)
        refine gb_take 6 rfl (by decide +kernel) rfl rfl (ys_ev (nw := true) hT rfl sI) sF ?_
        refine gb_take 7 rfl (by decide +kernel) rfl rfl (ys_ev (nw := true) hT rfl sI) sF ?_
        first | refine gb_take 8 rfl (by decide +kernel) rfl rfl (ys_ev (nw := true) hT rfl sI) sF ?_ | refine gb_skip 8 rfl (by decide +kernel) rfl rfl sF ?_
        first | refine gb_take 9 rfl (by decide +kernel) rfl rfl (ys_ev (nw := true) hT rfl sI) sF ?_ | refine gb_skip 9 rfl (by decide +kernel) rfl rfl sF ?_
        first | refine gb_take 10 rfl (by decide +kernel) rfl rfl (ys_ev (nw := true) hT rfl sI) sF ?_ | refine gb_skip 10 rfl (by decide +kernel) rfl rfl sF ?_
        first | refine gb_take 11 rfl (by decide +kernel) rfl rfl (by first | exact ys_blk hT rfl rfl mE rfl rfl | exact ys_row hT rfl rfl mE rfl rfl | exact ys_row0 hT rfl rfl mE rfl rfl) sF ?_ | refine gb_skip 11 rfl (by decide +kernel) rfl rfl sF ?_
        first | refine gb_take 12 rfl (by decide +kernel) rfl rfl (ys_ev (nw := true) hT rfl sI) sF ?_ | refine gb_skip 12 rfl (by decide +kernel) rfl rfl sF ?_
        first | refine gb_take 13 rfl (by decide +kernel) rfl rfl (by first | exact ys_blk hT rfl rfl mE rfl rfl | exact ys_row hT rfl rfl mE rfl rfl | exact ys_row0 hT rfl rfl mE rfl rfl) sF ?_ | refine gb_skip 13 rfl (by decide +kernel) rfl rfl sF ?_
        first | refine gb_take 14 rfl (by decide +kernel) rfl rfl (ys_ev (nw := true) hT rfl sI) sF ?_ | refine gb_skip 14 rfl (by decide +kernel) rfl rfl sF ?_
        first | refine gb_take 15 rfl (by decide +kernel) rfl rfl (ys_ev (nw := true) hT rfl sI) sF ?_ | refine gb_skip 15 rfl (by decide +kernel) rfl rfl sF ?_
        first | refine gb_take 16 rfl (by decide +kernel) rfl rfl (ys_ev (nw := true) hT rfl sI) sF ?_ | refine gb_skip 16 rfl (by decide +kernel) rfl rfl sF ?_
        first | refine gb_take 17 rfl (by decide +kernel) rfl rfl (by first | exact ys_blk hT rfl rfl mE rfl rfl | exact ys_row hT rfl rfl mE rfl rfl | exact ys_row0 hT rfl rfl mE rfl rfl) sF ?_ | refine gb_skip 17 rfl (by decide +kernel) rfl rfl sF ?_
        first | refine gb_take 18 rfl (by decide +kernel) rfl rfl (ys_ev (nw := true) hT rfl sI) sF ?_ | refine gb_skip 18 rfl (by decide +kernel) rfl rfl sF ?_
        first | refine gb_take 19 rfl (by decide +kernel) rfl rfl (ys_ev (nw := true) hT rfl sI) sF ?_ | refine gb_skip 19 rfl (by decide +kernel) rfl rfl sF ?_
        first | refine gb_take 20 rfl (by decide +kernel) rfl rfl (by first | exact ys_blk hT rfl rfl mE rfl rfl | exact ys_row hT rfl rfl mE rfl rfl | exact ys_row0 hT rfl rfl mE rfl rfl) sF ?_ | refine gb_skip 20 rfl (by decide +kernel) rfl rfl sF ?_
        first | refine gb_take 21 rfl (by decide +kernel) rfl rfl (ys_ev (nw := true) hT rfl sI) sF ?_ | refine gb_skip 21 rfl (by decide +kernel) rfl rfl sF ?_
        refine gb_take 22 rfl (by decide +kernel) rfl rfl (ys_ev (nw := true) hT rfl sI) sF ?_
        refine gb_nil (by decide +kernel) ?_
        exact ⟨(), (by repeat (first | exact trivial | refine ⟨rfl, ?_⟩)), sA, sS⟩
      · (repeat (refine gG ?_; try intro _))
        refine gk_ret hT rfl rfl (.tmp rfl .nil) (fun w' hk => ?_)
        refine ⟨?_, hk.toBelow⟩
        rw [tB_false (fun h : FirstP Ks ds => (h i d hd).1 h0)]
        rfl
    · obtain ⟨z, hz⟩ : ∃ z, d.Ks[0]? = some z := ⟨d.Ks[0], List.getElem?_eq_getElem (by omega)⟩
      refine gk_elem (enc := KE) (L := d.Ks) 0 mE (by omega) (by decide) (fun b3 o3 y3 eA hy3 => ?_)
      subst eA
      obtain rfl : z = y3 := by rw [hz] at hy3; exact Option.some.inj hy3
      by_cases hzk : z = k
      · refine gk_any [0, 1, 2, 3, 4, 5, 6, 7] (Cut _ (fun _ : Unit => [(0, .pointer (some ⟨g, 0, none⟩)), (8, .slice (some ⟨b1, o1, none⟩) ds.length cc), (9, .int .i64 ds.length), (10, .int .i64 i), (37, .bool false)]) (fun _ => []) (fun _ => [row g 0 [.bool lf, .slice (some ⟨b2, o2, none⟩) kn kc, V.v, .slice (some ⟨b1, o1, none⟩) ds.length cc, .int .u32 a], sl (some ⟨b2, o2, none⟩) 3 KE Ks, sl (some ⟨b1, o1, none⟩) 1 PE (ds.map NodeD.g), allF ds nodeF])) rfl rfl (by kernel_rfl) ?_ (cut_k fun _ => ?_)
        · skip
          refine gb_take 0 rfl (by decide +kernel) rfl rfl (ys_ev (nw := true) hT rfl sI) sF ?_
          refine gb_take 1 rfl (by decide +kernel) rfl rfl (ys_ev (nw := true) hT rfl sI) sF ?_
          refine gb_take 2 rfl (by decide +kernel) rfl rfl (ys_ev (nw := true) hT rfl sI) sF ?_
          first | refine gb_take 3 rfl (by decide +kernel) rfl rfl (ys_ev (nw := true) hT rfl sI) sF ?_ | refine gb_skip 3 rfl (by decide +kernel) rfl rfl sF ?_
          first | refine gb_skip 4 rfl (by decide +kernel) rfl rfl sF ?_ | (refine gb_only 4 (by decide +kernel) rfl rfl ?_; (refine mv_call_bel (fun w hk => nlen_any d.g [] d.leaf d.K d.V d.C d.a w (rd_nb (hk.rR (φ := nodeF d) mE)).1) rfl rfl rfl rfl rfl (by kernel_rfl) ?_); refine ⟨sF, ?_⟩)
          first | refine gb_take 5 rfl (by decide +kernel) rfl rfl (ys_ev (nw := true) hT rfl sI) sF ?_ | refine gb_skip 5 rfl (by decide +kernel) rfl rfl sF ?_
          try (refine gb_say 20 (.bool false) rfl (congrArg Value.bool (tB_false (by omega))) ?_)
          refine gb_take 6 rfl (by decide +kernel) rfl rfl (ys_ev (nw := true) hT rfl sI) sF ?_
          refine gb_take 7 rfl (by decide +kernel) rfl rfl (ys_ev (nw := true) hT rfl sI) sF ?_
          first | refine gb_take 8 rfl (by decide +kernel) rfl rfl (ys_ev (nw := true) hT rfl sI) sF ?_ | refine gb_skip 8 rfl (by decide +kernel) rfl rfl sF ?_
          first | refine gb_take 9 rfl (by decide +kernel) rfl rfl (ys_ev (nw := true) hT rfl sI) sF ?_ | refine gb_skip 9 rfl (by decide +kernel) rfl rfl sF ?_
          first | refine gb_take 10 rfl (by decide +kernel) rfl rfl (ys_ev (nw := true) hT rfl sI) sF ?_ | refine gb_skip 10 rfl (by decide +kernel) rfl rfl sF ?_
          first | refine gb_take 11 rfl (by decide +kernel) rfl rfl (by first | exact ys_blk hT rfl rfl mE rfl rfl | exact ys_row hT rfl rfl mE rfl rfl | exact ys_row0 hT rfl rfl mE rfl rfl) sF ?_ | refine gb_skip 11 rfl (by decide +kernel) rfl rfl sF ?_
          first | refine gb_take 12 rfl (by decide +kernel) rfl rfl (ys_ev (nw := true) hT rfl sI) sF ?_ | refine gb_skip 12 rfl (by decide +kernel) rfl rfl sF ?_
          first | refine gb_take 13 rfl (by decide +kernel) rfl rfl (by first | exact ys_blk hT rfl rfl mE rfl rfl | exact ys_row hT rfl rfl mE rfl rfl | exact ys_row0 hT rfl rfl mE rfl rfl) sF ?_ | refine gb_skip 13 rfl (by decide +kernel) rfl rfl sF ?_
          first | refine gb_take 14 rfl (by decide +kernel) rfl rfl (ys_ev (nw := true) hT rfl sI) sF ?_ | refine gb_skip 14 rfl (by decide +kernel) rfl rfl sF ?_
          first | refine gb_take 15 rfl (by decide +kernel) rfl rfl (ys_ev (nw := true) hT rfl sI) sF ?_ | refine gb_skip 15 rfl (by decide +kernel) rfl rfl sF ?_
          first | refine gb_take 16 rfl (by decide +kernel) rfl rfl (ys_ev (nw := true) hT rfl sI) sF ?_ | refine gb_skip 16 rfl (by decide +kernel) rfl rfl sF ?_
          first | refine gb_take 17 rfl (by decide +kernel) rfl rfl (by first | exact ys_blk hT rfl rfl mE rfl rfl | exact ys_row hT rfl rfl mE rfl rfl | exact ys_row0 hT rfl rfl mE rfl rfl) sF ?_ | refine gb_skip 17 rfl (by decide +kernel) rfl rfl sF ?_
          first | refine gb_take 18 rfl (by decide +kernel) rfl rfl (ys_ev (nw := true) hT rfl sI) sF ?_ | refine gb_skip 18 rfl (by decide +kernel) rfl rfl sF ?_
          first | refine gb_take 19 rfl (by decide +kernel) rfl rfl (ys_ev (nw := true) hT rfl sI) sF ?_ | refine gb_skip 19 rfl (by decide +kernel) rfl rfl sF ?_
          first | refine gb_take 20 rfl (by decide +kernel) rfl rfl (by first | exact ys_blk hT rfl rfl mE rfl rfl | exact ys_row hT rfl rfl mE rfl rfl | exact ys_row0 hT rfl rfl mE rfl rfl) sF ?_ | refine gb_skip 20 rfl (by decide +kernel) rfl rfl sF ?_
          first | refine gb_take 21 rfl (by decide +kernel) rfl rfl (ys_neq rfl rfl rfl rfl rfl (by kernel_rfl)) sF ?_ | refine gb_skip 21 rfl (by decide +kernel) rfl rfl sF ?_
          try (refine gb_say 36 (.bool false) rfl (congrArg Value.bool (tB_false (fun h => h (by rw [hzk]; exact ⟨rfl, rfl, rfl, trivial⟩)))) ?_)
          refine gb_take 22 rfl (by decide +kernel) rfl rfl (ys_ev (nw := true) hT rfl sI) sF ?_
          refine gb_nil (by decide +kernel) ?_
          exact ⟨(), (by repeat (first | exact trivial | refine ⟨rfl, ?_⟩)), sA, sS⟩
        · (repeat (refine gG ?_; try intro _))
          refine gk_again_sel rfl (i + 1) ⟨hlt, fun j d' hj hd' => ?_⟩ (by omega) (by repeat (first | exact trivial | refine ⟨rfl, ?_⟩)) sA sS
          by_cases e : j = i
          · subst e
            rw [hd] at hd'
            obtain rfl := Option.some.inj hd'
            exact ⟨h0, by rw [getD_at hz, getD_at hks, hzk]⟩
          · exact hA j d' (by omega) hd'
      · refine gk_any [0, 1, 2, 3, 4, 5, 6, 7] (Cut _ (fun _ : Unit => [(0, .pointer (some ⟨g, 0, none⟩)), (37, .bool true)]) (fun _ => []) (fun _ => [])) rfl rfl (by kernel_rfl) ?_ (cut_k fun _ => ?_)
        · skip
          refine gb_take 0 rfl (by decide +kernel) rfl rfl (ys_ev (nw := true) hT rfl sI) sF ?_
          refine gb_take 1 rfl (by decide +kernel) rfl rfl (ys_ev (nw := true) hT rfl sI) sF ?_
          refine gb_take 2 rfl (by decide +kernel) rfl rfl (ys_ev (nw := true) hT rfl sI) sF ?_
          first | refine gb_take 3 rfl (by decide +kernel) rfl rfl (ys_ev (nw := true) hT rfl sI) sF ?_ | refine gb_skip 3 rfl (by decide +kernel) rfl rfl sF ?_
          first | refine gb_skip 4 rfl (by decide +kernel) rfl rfl sF ?_ | (refine gb_only 4 (by decide +kernel) rfl rfl ?_; (refine mv_call_bel (fun w hk => nlen_any d.g [] d.leaf d.K d.V d.C d.a w (rd_nb (hk.rR (φ := nodeF d) mE)).1) rfl rfl rfl rfl rfl (by kernel_rfl) ?_); refine ⟨sF, ?_⟩)
          first | refine gb_take 5 rfl (by decide +kernel) rfl rfl (ys_ev (nw := true) hT rfl sI) sF ?_ | refine gb_skip 5 rfl (by decide +kernel) rfl rfl sF ?_
          try (refine gb_say 20 (.bool false) rfl (congrArg Value.bool (tB_false (by omega))) ?_)
          refine gb_take 6 rfl (by decide +kernel) rfl rfl (ys_ev (nw := true) hT rfl sI) sF ?_
          refine gb_take 7 rfl (by decide +kernel) rfl rfl (ys_ev (nw := true) hT rfl sI) sF ?_
          first | refine gb_take 8 rfl (by decide +kernel) rfl rfl (ys_ev (nw := true) hT rfl sI) sF ?_ | refine gb_skip 8 rfl (by decide +kernel) rfl rfl sF ?_
          first | refine gb_take 9 rfl (by decide +kernel) rfl rfl (ys_ev (nw := true) hT rfl sI) sF ?_ | refine gb_skip 9 rfl (by decide +kernel) rfl rfl sF ?_
          first | refine gb_take 10 rfl (by decide +kernel) rfl rfl (ys_ev (nw := true) hT rfl sI) sF ?_ | refine gb_skip 10 rfl (by decide +kernel) rfl rfl sF ?_
          first | refine gb_take 11 rfl (by decide +kernel) rfl rfl (by first | exact ys_blk hT rfl rfl mE rfl rfl | exact ys_row hT rfl rfl mE rfl rfl | exact ys_row0 hT rfl rfl mE rfl rfl) sF ?_ | refine gb_skip 11 rfl (by decide +kernel) rfl rfl sF ?_
          first | refine gb_take 12 rfl (by decide +kernel) rfl rfl (ys_ev (nw := true) hT rfl sI) sF ?_ | refine gb_skip 12 rfl (by decide +kernel) rfl rfl sF ?_
          first | refine gb_take 13 rfl (by decide +kernel) rfl rfl (by first | exact ys_blk hT rfl rfl mE rfl rfl | exact ys_row hT rfl rfl mE rfl rfl | exact ys_row0 hT rfl rfl mE rfl rfl) sF ?_ | refine gb_skip 13 rfl (by decide +kernel) rfl rfl sF ?_
          first | refine gb_take 14 rfl (by decide +kernel) rfl rfl (ys_ev (nw := true) hT rfl sI) sF ?_ | refine gb_skip 14 rfl (by decide +kernel) rfl rfl sF ?_
          first | refine gb_take 15 rfl (by decide +kernel) rfl rfl (ys_ev (nw := true) hT rfl sI) sF ?_ | refine gb_skip 15 rfl (by decide +kernel) rfl rfl sF ?_
          first | refine gb_take 16 rfl (by decide +kernel) rfl rfl (ys_ev (nw := true) hT rfl sI) sF ?_ | refine gb_skip 16 rfl (by decide +kernel) rfl rfl sF ?_
          first | refine gb_take 17 rfl (by decide +kernel) rfl rfl (by first | exact ys_blk hT rfl rfl mE rfl rfl | exact ys_row hT rfl rfl mE rfl rfl | exact ys_row0 hT rfl rfl mE rfl rfl) sF ?_ | refine gb_skip 17 rfl (by decide +kernel) rfl rfl sF ?_
          first | refine gb_take 18 rfl (by decide +kernel) rfl rfl (ys_ev (nw := true) hT rfl sI) sF ?_ | refine gb_skip 18 rfl (by decide +kernel) rfl rfl sF ?_
          first | refine gb_take 19 rfl (by decide +kernel) rfl rfl (ys_ev (nw := true) hT rfl sI) sF ?_ | refine gb_skip 19 rfl (by decide +kernel) rfl rfl sF ?_
          first | refine gb_take 20 rfl (by decide +kernel) rfl rfl (by first | exact ys_blk hT rfl rfl mE rfl rfl | exact ys_row hT rfl rfl mE rfl rfl | exact ys_row0 hT rfl rfl mE rfl rfl) sF ?_ | refine gb_skip 20 rfl (by decide +kernel) rfl rfl sF ?_
          first | refine gb_take 21 rfl (by decide +kernel) rfl rfl (ys_neq rfl rfl rfl rfl rfl (by kernel_rfl)) sF ?_ | refine gb_skip 21 rfl (by decide +kernel) rfl rfl sF ?_
          try (refine gb_say 36 (.bool true) rfl (congrArg Value.bool (tB_true (fun h => hzk (key_ext h.1 h.2.1 h.2.2.1)))) ?_)
          refine gb_take 22 rfl (by decide +kernel) rfl rfl (ys_ev (nw := true) hT rfl sI) sF ?_
          refine gb_nil (by decide +kernel) ?_
          exact ⟨(), (by repeat (first | exact trivial | refine ⟨rfl, ?_⟩)), sA, sS⟩
        · (repeat (refine gG ?_; try intro _))
          refine gk_ret hT rfl rfl (.tmp rfl .nil) (fun w' hk => ?_)
          refine ⟨?_, hk.toBelow⟩
          rw [tB_false (fun h : FirstP Ks ds => hzk (by have := (h i d hd).2; rw [getD_at hz, getD_at hks] at this; exact this))]
          rfl
  · (repeat' (first | (refine gG ?_; try intro _) | ((first | refine g_split rfl rfl tE (fun _ => ?_) (fun _ => ?_) | refine gk_cond rfl rfl tE (fun _ => ?_) (fun _ => ?_)) <;> (try first | (exfalso; omega; done) | (rename_i hx; exact absurd rfl hx) | (rename_i hx; cases hx; done)))))
    refine gk_ret hT rfl rfl (.tmp rfl .nil) (fun w' hk => ?_)
    refine ⟨?_, hk.toBelow⟩
    rw [tB_true (show FirstP Ks ds from fun j d hd => hA j d (by have := (List.getElem?_eq_some_iff.1 hd).1; omega) hd)]
    rfl
end Go.Proofs.YtaghmffgoomebaaGreat.Ck
