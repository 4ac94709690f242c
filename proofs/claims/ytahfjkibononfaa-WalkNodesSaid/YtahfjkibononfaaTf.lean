/- The reference's rows (layer 31): Find, Get, Floor, Ceil, Without, Set. -/
import Derived.Test.YtahfjkibononfaaTrA
import Derived.Test.YtahfjkibononfaaNdN
namespace Go.Proofs.Ytahfjkibononfaa.Tw
open Go.RowKit Mem Nd Gx
open Tr hiding T row
set_option linter.unusedVariables false
set_option linter.unusedSimpArgs false
set_option maxRecDepth 100000
set_option maxHeartbeats 4000000
theorem pos_stop {L : List KeyD} {k : KeyD} {i : Nat} (ha : AscK L) (hi : i ≤ L.length) (hlo : ∀ m, m < i → klt (L.getD m default) k) (hs : i < L.length → ¬ klt (L.getD i default) k) : PosK L k i :=
  ⟨hi, hlo, fun m h1 h2 h3 => by
    rcases Nat.lt_or_ge i m with h | h
    · exact hs (by omega) (klt_trans (ha i m h h2) h3)
    · have : m = i := by omega
      subst this
      exact hs h2 h3⟩
theorem rfind_any (A : Option Addr) (n c : Nat) (L : List EntD) (k : KeyD) (w : World) (hn : n = L.length) (h9 : n ≤ 100000) (ha : AscK (keysOf L)) (hL : Rd1 w (sl A 4 EE L)) :
    Calls Try.prog 71 [.slice A n c, k.val].toArray w (Ret (PosK (keysOf L) k) (fun p => .int .i64 (p : Int)) (fun _ => []) w) := by
  refine g_enter0 T [] [] [sl A 4 EE L] Try.func71 rfl Try.ntmps71 rfl (Rds.cons hL .nil).kn ?_
  (repeat (refine gG ?_; try intro _))
  rename_i g3
  refine gk_loop_sel (fun (i : Nat) => (i ≤ L.length ∧ ∀ m, m < i → klt ((keysOf L).getD m default) k)) (fun (i : Nat) => [(0, .slice A n c), (3, .pointer (some ⟨g3, 0, none⟩)), (5, .int .i64 i)]) (fun (i : Nat) => [blk g3 [.int .u16 k.v, .int .u32 k.b, .int .u64 k.s] 27]) (fun (i : Nat) => [sl A 4 EE L]) (fun (i : Nat) => L.length - i) 0 rfl ⟨Nat.zero_le _, fun m h => absurd h (by omega)⟩ (by repeat (first | exact trivial | refine ⟨rfl, ?_⟩)) sA sS ?_
  rintro i hI
  replace hI : (i ≤ L.length ∧ ∀ m, m < i → klt ((keysOf L).getD m default) k) := hI
  change GK _ _ [(0, .slice A n c), (3, .pointer (some ⟨g3, 0, none⟩)), (5, .int .i64 i)] [blk g3 [.int .u16 k.v, .int .u32 k.b, .int .u64 k.s] 27] [sl A 4 EE L]
  obtain ⟨hi, hlo⟩ := hI
  have hkl : (keysOf L).length = L.length := List.length_map ..
  by_cases hlt : i < L.length
  · obtain ⟨y, hy⟩ : ∃ y, L[i]? = some y := ⟨L[i], List.getElem?_eq_getElem hlt⟩
    have hky : (keysOf L).getD i default = y.k := getD_at (by rw [List.getElem?_map, hy]; rfl)
    refine gk_elem (enc := EE) (L := L) i mE hlt (by decide) (fun b1 o1 y1 eA hy1 => ?_)
    subst eA
    obtain rfl : y = y1 := by rw [hy] at hy1; exact Option.some.inj hy1
    refine gk_any [0, 1] (Cut _ (fun _ : Unit => [(0, .slice (some ⟨b1, o1, none⟩) n c), (3, .pointer (some ⟨g3, 0, none⟩)), (5, .int .i64 i), (18, .bool (tB (klt y.k k)))]) (fun _ => [blk g3 [.int .u16 k.v, .int .u32 k.b, .int .u64 k.s] 27]) (fun _ => [sl (some ⟨b1, o1, none⟩) 4 EE L])) rfl rfl (by kernel_rfl) ?_ (cut_k fun _ => ?_)
    · skip
      refine gb_take 0 rfl (by decide +kernel) rfl rfl (ys_ev (nw := true) hT rfl sI) sF ?_
      refine gb_take 1 rfl (by decide +kernel) rfl rfl (ys_ev (nw := true) hT rfl sI) sF ?_
      refine gb_take 2 rfl (by decide +kernel) rfl rfl (ys_ev (nw := true) hT rfl sI) sF ?_
      refine gb_take 3 rfl (by decide +kernel) rfl rfl (ys_ev (nw := true) hT rfl sI) sF ?_
      try (refine gb_say 9 (.bool true) rfl (congrArg Value.bool (tB_true (by omega))) ?_)
      refine gb_take 4 rfl (by decide +kernel) rfl rfl (ys_ev (nw := true) hT rfl sI) sF ?_
      first | refine gb_take 5 rfl (by decide +kernel) rfl rfl (ys_ev (nw := true) hT rfl sI) sF ?_ | refine gb_skip 5 rfl (by decide +kernel) rfl rfl sF ?_
      first | refine gb_take 6 rfl (by decide +kernel) rfl rfl (ys_ev (nw := true) hT rfl sI) sF ?_ | refine gb_skip 6 rfl (by decide +kernel) rfl rfl sF ?_
      first | refine gb_take 7 rfl (by decide +kernel) rfl rfl (ys_ev (nw := true) hT rfl sI) sF ?_ | refine gb_skip 7 rfl (by decide +kernel) rfl rfl sF ?_
      first | refine gb_take 8 rfl (by decide +kernel) rfl rfl (ys_ev (nw := true) hT rfl sI) sF ?_ | refine gb_skip 8 rfl (by decide +kernel) rfl rfl sF ?_
      first | refine gb_take 9 rfl (by decide +kernel) rfl rfl (by first | exact ys_blk hT rfl rfl mE rfl rfl | exact ys_row hT rfl rfl mE rfl rfl | exact ys_row0 hT rfl rfl mE rfl rfl) sF ?_ | refine gb_skip 9 rfl (by decide +kernel) rfl rfl sF ?_
      first | refine gb_take 10 rfl (by decide +kernel) rfl rfl (by first | exact ys_blk hT rfl rfl mE rfl rfl | exact ys_row hT rfl rfl mE rfl rfl | exact ys_row0 hT rfl rfl mE rfl rfl) sF ?_ | refine gb_skip 10 rfl (by decide +kernel) rfl rfl sF ?_
      first | refine gb_skip 11 rfl (by decide +kernel) rfl rfl sF ?_ | (refine gb_only 11 (by decide +kernel) rfl rfl ?_; (refine mv_call_bel (fun w hk => rless_any y.k k w) rfl rfl rfl rfl rfl (by kernel_rfl) ?_); refine ⟨sF, ?_⟩)
      refine gb_take 12 rfl (by decide +kernel) rfl rfl (ys_ev (nw := true) hT rfl sI) sF ?_
      refine gb_nil (by decide +kernel) ?_
      exact ⟨(), (by repeat (first | exact trivial | refine ⟨rfl, ?_⟩)), sA, sS⟩
    · refine gk_cond rfl rfl (tells_tB _) (fun hx => ?_) (fun hx => ?_)
      · (repeat (refine gG ?_; try intro _))
        refine gk_again_sel rfl (i + 1) ⟨by omega, fun m hm => ?_⟩ (by omega) (by repeat (first | exact trivial | refine ⟨rfl, ?_⟩)) sA sS
        rcases Nat.lt_or_ge m i with h | h
        · exact hlo m h
        · have : m = i := by omega
          subst this
          rw [hky]; exact hx
      · (repeat (refine gG ?_; try intro _))
        refine gk_ret hT rfl rfl (.tmp rfl .nil) (fun w' hk => ?_)
        exact Ret.mk i (pos_stop ha (by omega) hlo (fun _ => by rw [hky]; exact hx)) rfl hk sA
  · refine gk_any [] (Cut _ (fun _ : Unit => [(5, .int .i64 i), (18, .bool false)]) (fun _ => []) (fun _ => [])) rfl rfl (by kernel_rfl) ?_ (cut_k fun _ => ?_)
    · skip
      refine gb_take 0 rfl (by decide +kernel) rfl rfl (ys_ev (nw := true) hT rfl sI) sF ?_
      refine gb_take 1 rfl (by decide +kernel) rfl rfl (ys_ev (nw := true) hT rfl sI) sF ?_
      refine gb_take 2 rfl (by decide +kernel) rfl rfl (ys_ev (nw := true) hT rfl sI) sF ?_
      refine gb_take 3 rfl (by decide +kernel) rfl rfl (ys_ev (nw := true) hT rfl sI) sF ?_
      try (refine gb_say 9 (.bool false) rfl (congrArg Value.bool (tB_false (by omega))) ?_)
      refine gb_take 4 rfl (by decide +kernel) rfl rfl (ys_ev (nw := true) hT rfl sI) sF ?_
      first | refine gb_take 5 rfl (by decide +kernel) rfl rfl (ys_ev (nw := true) hT rfl sI) sF ?_ | refine gb_skip 5 rfl (by decide +kernel) rfl rfl sF ?_
      first | refine gb_take 6 rfl (by decide +kernel) rfl rfl (ys_ev (nw := true) hT rfl sI) sF ?_ | refine gb_skip 6 rfl (by decide +kernel) rfl rfl sF ?_
      first | refine gb_take 7 rfl (by decide +kernel) rfl rfl (ys_ev (nw := true) hT rfl sI) sF ?_ | refine gb_skip 7 rfl (by decide +kernel) rfl rfl sF ?_
      first | refine gb_take 8 rfl (by decide +kernel) rfl rfl (ys_ev (nw := true) hT rfl sI) sF ?_ | refine gb_skip 8 rfl (by decide +kernel) rfl rfl sF ?_
      first | refine gb_take 9 rfl (by decide +kernel) rfl rfl (by first | exact ys_blk hT rfl rfl mE rfl rfl | exact ys_row hT rfl rfl mE rfl rfl | exact ys_row0 hT rfl rfl mE rfl rfl) sF ?_ | refine gb_skip 9 rfl (by decide +kernel) rfl rfl sF ?_
      first | refine gb_take 10 rfl (by decide +kernel) rfl rfl (by first | exact ys_blk hT rfl rfl mE rfl rfl | exact ys_row hT rfl rfl mE rfl rfl | exact ys_row0 hT rfl rfl mE rfl rfl) sF ?_ | refine gb_skip 10 rfl (by decide +kernel) rfl rfl sF ?_
      first | refine gb_skip 11 rfl (by decide +kernel) rfl rfl sF ?_ | (refine gb_only 11 (by decide +kernel) rfl rfl ?_; (skip); refine ⟨sF, ?_⟩)
      refine gb_take 12 rfl (by decide +kernel) rfl rfl (ys_ev (nw := true) hT rfl sI) sF ?_
      refine gb_nil (by decide +kernel) ?_
      exact ⟨(), (by repeat (first | exact trivial | refine ⟨rfl, ?_⟩)), sA, sS⟩
    · (repeat (refine gG ?_; try intro _))
      refine gk_ret hT rfl rfl (.tmp rfl .nil) (fun w' hk => ?_)
      exact Ret.mk i (pos_stop ha (by omega) hlo (fun h => absurd h (by omega))) rfl hk sA
end Go.Proofs.Ytahfjkibononfaa.Tw

