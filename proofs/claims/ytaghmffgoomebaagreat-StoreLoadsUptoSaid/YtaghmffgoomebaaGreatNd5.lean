/- The reference's entry, Get. -/
import Derived.Test.YtaghmffgoomebaaGreatNd4
namespace Go.Proofs.YtaghmffgoomebaaGreat.Nd
open Go.RowKit Mem Gx Rd Bytes
set_option linter.unusedVariables false
set_option linter.unusedSimpArgs false
set_option maxRecDepth 100000
set_option maxHeartbeats 4000000
theorem num_lt {l : List Int} (h : IsB l) {k : Nat} (hl : l.length = k) (m : Int) (hm : (256 : Int) ^ k = m) : 0 ≤ num l ∧ num l < m := by
  have := num_bd h
  rw [hl, hm] at this
  exact this
theorem num_one (y : Int) : num [y] = y := by
  have := num_snoc [] y
  have h0 : num [] = 0 := rfl
  simpa [h0] using this
/-- The entry of 18 bytes. -/
def ent18 (L : List Int) : EntD := ⟨⟨num (L.take 2), num ((L.drop 2).take 4), num ((L.drop 6).take 8)⟩, num ((L.drop 14).take 4)⟩
theorem ent18_at (B : List Int) (o : Nat) : ent18 ((B.drop o).take 18) = entAt B o := by
  unfold ent18 entAt keyAt
  congr 2
  · rw [List.take_take]; rfl
  · rw [List.drop_take, List.drop_drop, List.take_take]; rfl
  · rw [List.drop_take, List.drop_drop, List.take_take]; rfl
  · rw [List.drop_take, List.drop_drop, List.take_take]; rfl
theorem rentry_any (A : Option Addr) (n c : Nat) (L : List Int) (w : World) (hn : n = L.length) (h18 : L.length = 18) (hc : n ≤ c) (hs : Sl w A 1 (IE .u8) L) (hB : IsB L) :
    Calls Tryz.prog 35 [.slice A n c].toArray w fun e w' => e = .returned (ent18 L).val ∧ Below w.heap.size w w' := by
  refine g_enter0 T [] [] [sl A 1 (IE .u8) L] Tryz.func35 rfl Tryz.ntmps35 rfl ((Kn.start w).argR hs (by decide) (fun _ h => by cases h)) ?_
  have q1 := num_lt (hB.take 2) (k := 2) (by rw [List.length_take]; omega) 65536 (by decide)
  have q2 := num_lt ((hB.drop 2).take 4) (k := 4) (by rw [List.length_take, List.length_drop]; omega) 4294967296 (by decide)
  have q3 := num_lt ((hB.drop 6).take 8) (k := 8) (by rw [List.length_take, List.length_drop]; omega) 18446744073709551616 (by decide)
  have q4 := num_lt ((hB.drop 14).take 4) (k := 4) (by rw [List.length_take, List.length_drop]; omega) 4294967296 (by decide)
  refine gk_takeS (enc := IE .u8) (L := L) 2 c mE (by omega) ?_
  refine gk_sub (enc := IE .u8) (L := L) 2 c 4 mE (by omega) ?_
  refine gk_sub (enc := IE .u8) (L := L) 6 c 8 mE (by omega) ?_
  refine gk_sub (enc := IE .u8) (L := L) 14 c 4 mE (by omega) ?_
  (repeat (refine gG ?_; try intro _))
  rename_i g2
  refine gk_any [] (Cut _ (fun g3 : Nat => [(0, .slice A n c), (2, .pointer (some ⟨g2, 0, none⟩)), (3, .pointer (some ⟨g3, 0, none⟩))]) (fun g3 => [blk g3 [.int .u16 (num (L.take 2)), .int .u32 (num ((L.drop 2).take 4)), .int .u64 (num ((L.drop 6).take 8))] 29, blk g2 [.int .u16 0, .int .u32 0, .int .u64 0, .int .u32 0] 31]) (fun _ => [sl (shA A 14 c 1) 1 (IE .u8) ((L.drop 14).take 4)])) rfl rfl (by kernel_rfl) ?_ (cut_k fun g3 => ?_)
  · skip
    refine gb_take 0 rfl (by decide +kernel) rfl rfl (ys_ev (nw := true) hT rfl sI) sF ?_
    refine gb_take 1 rfl (by decide +kernel) rfl rfl (ys_slice_h hT 2 rfl rfl rfl rfl rfl (by omega)) sF ?_
    refine gb_take 4 rfl (by decide +kernel) rfl rfl (ys_ev (nw := true) hT rfl sI) sF ?_
    refine gb_take 5 rfl (by decide +kernel) rfl rfl (ys_slice_lh hT 2 6 rfl rfl rfl rfl rfl rfl rfl (by omega) (by omega)) sF ?_
    refine gb_take 8 rfl (by decide +kernel) rfl rfl (ys_ev (nw := true) hT rfl sI) sF ?_
    refine gb_take 9 rfl (by decide +kernel) rfl rfl (ys_slice_lh hT 6 14 rfl rfl rfl rfl rfl rfl rfl (by omega) (by omega)) sF ?_
    refine gb_all (by decide +kernel) ?_
    refine gball_not (by decide +kernel) ?_
    refine gball_not (by decide +kernel) ?_
    refine gball_yes rfl rfl ?_ ?_
    · refine mv_call_bel (fun w hk => Fix.rget_any (shA A 0 c 1) 2 c (L.take 2) w (by rw [List.length_take]; omega) (hk.pR (sl (shA A 0 c 1) 1 (IE .u8) (L.take 2)) mE) (hB.take 2) (by omega)) rfl rfl rfl rfl rfl (by kernel_rfl) ?_
      refine ⟨sF, ?_⟩
      refine gb_take 3 rfl (by decide +kernel) rfl rfl (ys_ev (nw := true) hT rfl sI) sF ?_
      refine gb_all (by decide +kernel) ?_
      refine gball_not (by decide +kernel) ?_
      refine gball_not (by decide +kernel) ?_
      refine gball_not (by decide +kernel) ?_
      refine gball_not (by decide +kernel) ?_
      refine gball_not (by decide +kernel) ?_
      refine gball_not (by decide +kernel) ?_
      refine gball_yes rfl rfl ?_ ?_
      · refine mv_call_bel (fun w hk => Fix.rget_any (shA A 2 c 1) (6 - 2) (c - 2) ((L.drop 2).take 4) w (by rw [List.length_take, List.length_drop]; omega) (hk.pR (sl (shA A 2 c 1) 1 (IE .u8) ((L.drop 2).take 4)) mE) ((hB.drop 2).take 4) (by omega)) rfl rfl rfl rfl rfl (by kernel_rfl) ?_
        refine ⟨sF, ?_⟩
        refine gb_take 7 rfl (by decide +kernel) rfl rfl (ys_ev (nw := true) hT rfl sI) sF ?_
        refine gb_all (by decide +kernel) ?_
        refine gball_not (by decide +kernel) ?_
        refine gball_not (by decide +kernel) ?_
        refine gball_not (by decide +kernel) ?_
        refine gball_not (by decide +kernel) ?_
        refine gball_not (by decide +kernel) ?_
        refine gball_not (by decide +kernel) ?_
        refine gball_not (by decide +kernel) ?_
        refine gball_not (by decide +kernel) ?_
        refine gball_not (by decide +kernel) ?_
        refine gball_not (by decide +kernel) ?_
        refine gball_yes rfl rfl ?_ ?_
        · refine mv_call_bel (fun w hk => Fix.rget_any (shA A 6 c 1) (14 - 6) (c - 6) ((L.drop 6).take 8) w (by rw [List.length_take, List.length_drop]; omega) (hk.pR (sl (shA A 6 c 1) 1 (IE .u8) ((L.drop 6).take 8)) mE) ((hB.drop 6).take 8) (by omega)) rfl rfl rfl rfl rfl (by kernel_rfl) ?_
          refine ⟨sF, ?_⟩
          refine gb_take 11 rfl (by decide +kernel) rfl rfl (ys_ev (nw := true) hT rfl sI) sF ?_
          refine gb_only 12 (by decide +kernel) rfl rfl ?_
          (refine mv_alloc rfl hT rfl rfl ?_; intro g3)
          refine ⟨sF, ?_⟩
          refine gb_only 13 (by decide +kernel) rfl rfl ?_
          first | (refine mv_box rfl rfl rfl rfl ?_; intro _) | (refine mv_alloc rfl hT rfl rfl ?_; intro _) | refine mv_store hT rfl rfl rfl rfl rfl rfl sO rfl ?_ | (refine mv_buildSlice rfl hT rfl rfl rfl rfl rfl rfl rfl rfl ?_; intro _)
          refine ⟨sF, ?_⟩
          refine gb_nil (by decide +kernel) ?_
          exact ⟨g3, (by repeat (first | exact trivial | refine ⟨rfl, ?_⟩)), sA, sS⟩
        refine gball_not (by decide +kernel) ?_
        refine gball_yes rfl rfl ?_ ?_
        · (refine mv_alloc rfl hT rfl rfl ?_; intro g3)
          refine ⟨sF, ?_⟩
          refine gb_only 10 (by decide +kernel) rfl rfl ?_
          refine mv_call_bel (fun w hk => Fix.rget_any (shA A 6 c 1) (14 - 6) (c - 6) ((L.drop 6).take 8) w (by rw [List.length_take, List.length_drop]; omega) (hk.pR (sl (shA A 6 c 1) 1 (IE .u8) ((L.drop 6).take 8)) mE) ((hB.drop 6).take 8) (by omega)) rfl rfl rfl rfl rfl (by kernel_rfl) ?_
          refine ⟨sF, ?_⟩
          refine gb_take 11 rfl (by decide +kernel) rfl rfl (ys_ev (nw := true) hT rfl sI) sF ?_
          refine gb_only 13 (by decide +kernel) rfl rfl ?_
          first | (refine mv_box rfl rfl rfl rfl ?_; intro _) | (refine mv_alloc rfl hT rfl rfl ?_; intro _) | refine mv_store hT rfl rfl rfl rfl rfl rfl sO rfl ?_ | (refine mv_buildSlice rfl hT rfl rfl rfl rfl rfl rfl rfl rfl ?_; intro _)
          refine ⟨sF, ?_⟩
          refine gb_nil (by decide +kernel) ?_
          exact ⟨g3, (by repeat (first | exact trivial | refine ⟨rfl, ?_⟩)), sA, sS⟩
        refine gball_not (by decide +kernel) ?_
        exact gball_end (by decide +kernel)
      refine gball_not (by decide +kernel) ?_
      refine gball_not (by decide +kernel) ?_
      refine gball_not (by decide +kernel) ?_
      refine gball_not (by decide +kernel) ?_
      refine gball_not (by decide +kernel) ?_
      refine gball_yes rfl rfl ?_ ?_
      · (refine mv_alloc rfl hT rfl rfl ?_; intro g3)
        refine ⟨sF, ?_⟩
        refine gb_only 6 (by decide +kernel) rfl rfl ?_
        refine mv_call_bel (fun w hk => Fix.rget_any (shA A 2 c 1) (6 - 2) (c - 2) ((L.drop 2).take 4) w (by rw [List.length_take, List.length_drop]; omega) (hk.pR (sl (shA A 2 c 1) 1 (IE .u8) ((L.drop 2).take 4)) mE) ((hB.drop 2).take 4) (by omega)) rfl rfl rfl rfl rfl (by kernel_rfl) ?_
        refine ⟨sF, ?_⟩
        refine gb_take 7 rfl (by decide +kernel) rfl rfl (ys_ev (nw := true) hT rfl sI) sF ?_
        refine gb_only 10 (by decide +kernel) rfl rfl ?_
        refine mv_call_bel (fun w hk => Fix.rget_any (shA A 6 c 1) (14 - 6) (c - 6) ((L.drop 6).take 8) w (by rw [List.length_take, List.length_drop]; omega) (hk.pR (sl (shA A 6 c 1) 1 (IE .u8) ((L.drop 6).take 8)) mE) ((hB.drop 6).take 8) (by omega)) rfl rfl rfl rfl rfl (by kernel_rfl) ?_
        refine ⟨sF, ?_⟩
        refine gb_take 11 rfl (by decide +kernel) rfl rfl (ys_ev (nw := true) hT rfl sI) sF ?_
        refine gb_only 13 (by decide +kernel) rfl rfl ?_
        first | (refine mv_box rfl rfl rfl rfl ?_; intro _) | (refine mv_alloc rfl hT rfl rfl ?_; intro _) | refine mv_store hT rfl rfl rfl rfl rfl rfl sO rfl ?_ | (refine mv_buildSlice rfl hT rfl rfl rfl rfl rfl rfl rfl rfl ?_; intro _)
        refine ⟨sF, ?_⟩
        refine gb_nil (by decide +kernel) ?_
        exact ⟨g3, (by repeat (first | exact trivial | refine ⟨rfl, ?_⟩)), sA, sS⟩
      refine gball_not (by decide +kernel) ?_
      exact gball_end (by decide +kernel)
    refine gball_not (by decide +kernel) ?_
    refine gball_not (by decide +kernel) ?_
    refine gball_not (by decide +kernel) ?_
    refine gball_not (by decide +kernel) ?_
    refine gball_not (by decide +kernel) ?_
    refine gball_not (by decide +kernel) ?_
    refine gball_not (by decide +kernel) ?_
    refine gball_not (by decide +kernel) ?_
    refine gball_not (by decide +kernel) ?_
    refine gball_yes rfl rfl ?_ ?_
    · (refine mv_alloc rfl hT rfl rfl ?_; intro g3)
      refine ⟨sF, ?_⟩
      refine gb_only 2 (by decide +kernel) rfl rfl ?_
      refine mv_call_bel (fun w hk => Fix.rget_any (shA A 0 c 1) 2 c (L.take 2) w (by rw [List.length_take]; omega) (hk.pR (sl (shA A 0 c 1) 1 (IE .u8) (L.take 2)) mE) (hB.take 2) (by omega)) rfl rfl rfl rfl rfl (by kernel_rfl) ?_
      refine ⟨sF, ?_⟩
      refine gb_take 3 rfl (by decide +kernel) rfl rfl (ys_ev (nw := true) hT rfl sI) sF ?_
      refine gb_only 6 (by decide +kernel) rfl rfl ?_
      refine mv_call_bel (fun w hk => Fix.rget_any (shA A 2 c 1) (6 - 2) (c - 2) ((L.drop 2).take 4) w (by rw [List.length_take, List.length_drop]; omega) (hk.pR (sl (shA A 2 c 1) 1 (IE .u8) ((L.drop 2).take 4)) mE) ((hB.drop 2).take 4) (by omega)) rfl rfl rfl rfl rfl (by kernel_rfl) ?_
      refine ⟨sF, ?_⟩
      refine gb_take 7 rfl (by decide +kernel) rfl rfl (ys_ev (nw := true) hT rfl sI) sF ?_
      refine gb_only 10 (by decide +kernel) rfl rfl ?_
      refine mv_call_bel (fun w hk => Fix.rget_any (shA A 6 c 1) (14 - 6) (c - 6) ((L.drop 6).take 8) w (by rw [List.length_take, List.length_drop]; omega) (hk.pR (sl (shA A 6 c 1) 1 (IE .u8) ((L.drop 6).take 8)) mE) ((hB.drop 6).take 8) (by omega)) rfl rfl rfl rfl rfl (by kernel_rfl) ?_
      refine ⟨sF, ?_⟩
      refine gb_take 11 rfl (by decide +kernel) rfl rfl (ys_ev (nw := true) hT rfl sI) sF ?_
      refine gb_only 13 (by decide +kernel) rfl rfl ?_
      first | (refine mv_box rfl rfl rfl rfl ?_; intro _) | (refine mv_alloc rfl hT rfl rfl ?_; intro _) | refine mv_store hT rfl rfl rfl rfl rfl rfl sO rfl ?_ | (refine mv_buildSlice rfl hT rfl rfl rfl rfl rfl rfl rfl rfl ?_; intro _)
      refine ⟨sF, ?_⟩
      refine gb_nil (by decide +kernel) ?_
      exact ⟨g3, (by repeat (first | exact trivial | refine ⟨rfl, ?_⟩)), sA, sS⟩
    refine gball_not (by decide +kernel) ?_
    exact gball_end (by decide +kernel)
  · refine gk_any [0] (Cut _ (fun _ : Unit => [(2, .pointer (some ⟨g2, 0, none⟩))]) (fun _ => [blk g2 [.int .u16 (num (L.take 2)), .int .u32 (num ((L.drop 2).take 4)), .int .u64 (num ((L.drop 6).take 8)), .int .u32 (num ((L.drop 14).take 4))] 31]) (fun _ => [])) rfl rfl (by kernel_rfl) ?_ (cut_k fun _ => ?_)
    · skip
      refine gb_take 0 rfl (by decide +kernel) rfl rfl (by first | exact ys_blk hT rfl rfl mE rfl rfl | exact ys_row hT rfl rfl mE rfl rfl | exact ys_row0 hT rfl rfl mE rfl rfl) sF ?_
      refine gb_take 1 rfl (by decide +kernel) rfl rfl (ys_ev (nw := true) hT rfl sI) sF ?_
      refine gb_take 2 rfl (by decide +kernel) rfl rfl (ys_slice_lh hT 14 18 rfl rfl rfl rfl rfl rfl rfl (by omega) (by omega)) sF ?_
      refine gb_only 3 (by decide +kernel) rfl rfl ?_
      refine mv_call_bel (fun w hk => Fix.rget_any (shA A 14 c 1) (18 - 14) (c - 14) ((L.drop 14).take 4) w (by rw [List.length_take, List.length_drop]; omega) (hk.pR (sl (shA A 14 c 1) 1 (IE .u8) ((L.drop 14).take 4)) mE) ((hB.drop 14).take 4) (by omega)) rfl rfl rfl rfl rfl (by kernel_rfl) ?_
      refine ⟨sF, ?_⟩
      refine gb_take 4 rfl (by decide +kernel) rfl rfl (ys_ev (nw := true) hT rfl sI) sF ?_
      refine gb_take 5 rfl (by decide +kernel) rfl rfl (ys_ev (nw := true) hT rfl sI) sF ?_
      refine gb_only 6 (by decide +kernel) rfl rfl ?_
      first | (refine mv_box rfl rfl rfl rfl ?_; intro _) | (refine mv_alloc rfl hT rfl rfl ?_; intro _) | refine mv_store hT rfl rfl rfl rfl rfl rfl sO rfl ?_ | (refine mv_buildSlice rfl hT rfl rfl rfl rfl rfl rfl rfl rfl ?_; intro _)
      refine ⟨sF, ?_⟩
      refine gb_nil (by decide +kernel) ?_
      exact ⟨(), (by repeat (first | exact trivial | refine ⟨rfl, ?_⟩)), sA, List.nil_subset _⟩
    · (repeat (refine gG ?_; try intro _))
      refine gk_ret hT rfl rfl (.cell rfl mE rfl rfl .nil) (fun w' hk => ?_)
      exact ⟨rfl, hk.toBelow⟩
/-- Where an entry may not stand, by the bytes. -/
def badQ (k : Int) (B : List Int) (i : Nat) : Prop := (0 < i ∧ ¬ klt (entAt B (1 + 18 * (i - 1))).k (entAt B (1 + 18 * i)).k) ∨ (k = 4 ∧ (entAt B (1 + 18 * i)).a = 0)
theorem decN_get {B : List Int} {n i : Nat} (h : i < n) : (decN B n)[i]? = some (entAt B (1 + 18 * i)) := by
  unfold decN
  rw [List.getElem?_map, List.getElem?_range h]
  rfl
theorem badQ_iff {k : Int} {B : List Int} {n i : Nat} (h : i < n) : badP k (decN B n) i ↔ badQ k B i := by
  unfold badP badQ
  rw [List.getD_eq_getElem?_getD, List.getD_eq_getElem?_getD, decN_get h, decN_get (show i - 1 < n by omega)]
  rfl
end Go.Proofs.YtaghmffgoomebaaGreat.Nd
