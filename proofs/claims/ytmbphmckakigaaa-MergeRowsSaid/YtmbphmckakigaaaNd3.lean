/- halves, Leaves; the chapter's example. -/
import Derived.Test.YtmbphmckakigaaaNd2
import Derived.Test.YtmbphmckakigaaaGxI
namespace Go.Proofs.Ytmbphmckakigaaa.Nd
open Go.RowKit Mem Gx
set_option linter.unusedVariables false
set_option linter.unusedSimpArgs false
set_option maxRecDepth 100000
set_option maxHeartbeats 4000000
theorem halvesE_any (A : Option Addr) (n c : Nat) (w : World) (hc : n ≤ c) (h9 : n ≤ 10000) :
    Calls Try.prog 75 [.slice A n c].toArray w fun e w' => e = .returned (.tuple #[.slice (shA A 0 c 4) (n / 2) c, .slice (shA A (n / 2) c 4) (n - n / 2) (c - n / 2)]) ∧ Below w.heap.size w w' := by
  refine g_enter0 T [] [] [] Try.func75 rfl Try.ntmps75 rfl (Kn.start _) ?_
  (repeat (refine gG ?_; try intro _))
  have hd : (n : Int) / 2 = ((n / 2 : Nat) : Int) := by omega
  refine gk_any [] (Cut _ (fun _ : Unit => [(2, .slice (shA A 0 c 4) (n / 2) c), (3, .slice (shA A (n / 2) c 4) (n - n / 2) (c - n / 2))]) (fun _ => []) (fun _ => [])) rfl rfl (by kernel_rfl) ?_ (cut_k fun _ => ?_)
  · skip
    refine gb_take 0 rfl (by decide +kernel) rfl rfl (ys_ev (nw := true) hT rfl sI) sF ?_
    refine gb_take 1 rfl (by decide +kernel) rfl rfl (ys_ev (nw := true) hT rfl sI) sF ?_
    refine gb_take 2 rfl (by decide +kernel) rfl rfl (ys_ev (nw := true) hT rfl sI) sF ?_
    refine gb_take 3 rfl (by decide +kernel) rfl rfl (ys_ev (nw := true) hT rfl sI) sF ?_
    refine gb_take 4 rfl (by decide +kernel) rfl rfl (ys_slice_h hT (n / 2) rfl rfl rfl rfl hd (by omega)) sF ?_
    refine gb_take 5 rfl (by decide +kernel) rfl rfl (ys_ev (nw := true) hT rfl sI) sF ?_
    refine gb_take 6 rfl (by decide +kernel) rfl rfl (ys_ev (nw := true) hT rfl sI) sF ?_
    refine gb_take 7 rfl (by decide +kernel) rfl rfl (ys_ev (nw := true) hT rfl sI) sF ?_
    refine gb_take 8 rfl (by decide +kernel) rfl rfl (ys_ev (nw := true) hT rfl sI) sF ?_
    refine gb_take 9 rfl (by decide +kernel) rfl rfl (ys_slice_l hT (n / 2) rfl rfl rfl rfl hd (by omega)) sF ?_
    refine gb_take 10 rfl (by decide +kernel) rfl rfl (ys_ev (nw := true) hT rfl sI) sF ?_
    refine gb_take 11 rfl (by decide +kernel) rfl rfl (ys_ev (nw := true) hT rfl sI) sF ?_
    refine gb_nil (by decide +kernel) ?_
    exact ⟨(), (by repeat (first | exact trivial | refine ⟨rfl, ?_⟩)), sA, List.nil_subset _⟩
  · (repeat (refine gG ?_; try intro _))
    refine gk_ret hT rfl rfl (.tmp rfl (.tmp rfl .nil)) (fun w' hk => ?_)
    exact ⟨rfl, hk.toBelow⟩
/-- Some nodes, one or two, as a slice. -/
def ptrs (l : List NodeD) : List Nat := l.map (·.g)
theorem leaves_none (A : Option Addr) (c : Nat) (w : World) : Calls Try.prog 52 [.slice A 0 c].toArray w fun e w' => e = .returned (.slice none 0 0) ∧ Below w.heap.size w w' := by
  refine g_enter0 T [] [] [] Try.func52 rfl Try.ntmps52 rfl (Kn.start _) ?_
  (repeat' (first | (refine gG ?_; try intro _) | ((first | refine g_split rfl rfl tE (fun _ => ?_) (fun _ => ?_) | refine gk_cond rfl rfl tE (fun _ => ?_) (fun _ => ?_)) <;> (try first | (exfalso; omega; done) | (rename_i hx; exact absurd rfl hx) | (rename_i hx; cases hx; done)))))
  refine gk_ret hT rfl rfl (.tmp rfl .nil) (fun w' hk => ?_)
  exact ⟨rfl, hk.toBelow⟩
theorem leaves_one (A : Option Addr) (n c : Nat) (L : List EntD) (w : World) (hn : n = L.length) (h0 : 0 < n) (h6 : n ≤ 6) (hs : Sl w A 4 EE L) :
    Calls Try.prog 52 [.slice A n c].toArray w (Ret (fun p : Nat × NodeD => IsLeaf L p.2) (fun p => .slice (some ⟨p.1, 0, none⟩) 1 1) (fun p => blk p.1 [p.2.ptr] 41 :: p.2.fs) w) := by
  refine g_enter0 T [] [] [sl A 4 EE L] Try.func52 rfl Try.ntmps52 rfl ((Kn.start w).argR hs (by decide) (fun _ h => by cases h)) ?_
  (repeat' (first | (refine gG ?_; try intro _) | ((first | refine g_split rfl rfl tE (fun _ => ?_) (fun _ => ?_) | refine gk_cond rfl rfl tE (fun _ => ?_) (fun _ => ?_)) <;> (try first | (exfalso; omega; done) | (rename_i hx; exact absurd rfl hx) | (rename_i hx; cases hx; done)))))
  refine g_mv rfl ?_; refine mv_call_rt (fun w hk => leaf_any A n c L w hn (by omega) (hk.pR (sl A 4 EE L) mE)) rfl rfl rfl rfl rfl (by kernel_rfl) (fun _ => rfl) (fun d hd => ?_)
  (repeat (refine gG ?_; try intro _))
  rename_i g1
  refine gk_ret hT rfl rfl (.tmp rfl .nil) (fun w' hk => ?_)
  exact Ret.mk (g1, d) hd rfl hk sA
theorem leaves_two (A : Option Addr) (n c : Nat) (L : List EntD) (w : World) (hn : n = L.length) (h6 : 6 < n) (hc : n ≤ c) (h9 : n ≤ 10000) (hs : Sl w A 4 EE L) :
    Calls Try.prog 52 [.slice A n c].toArray w (Ret (fun p : Nat × NodeD × NodeD => IsLeaf (L.take (n / 2)) p.2.1 ∧ IsLeaf (L.drop (n / 2)) p.2.2) (fun p => .slice (some ⟨p.1, 0, none⟩) 2 2) (fun p => blk p.1 [p.2.1.ptr, p.2.2.ptr] 41 :: (p.2.1.fs ++ p.2.2.fs)) w) := by
  refine g_enter0 T [] [] [sl A 4 EE L] Try.func52 rfl Try.ntmps52 rfl ((Kn.start w).argR hs (by decide) (fun _ h => by cases h)) ?_
  refine gk_takeS (enc := EE) (L := L) (n / 2) c mE (by omega) ?_
  refine gk_dropS (enc := EE) (L := L) (n / 2) c mE (by omega) ?_
  (repeat' (first | (refine gG ?_; try intro _) | (refine g_mv rfl ?_; first | refine mv_call_bel (fun w hk => halvesE_any A n c w hc h9) rfl rfl rfl rfl rfl (by kernel_rfl) ?_) | ((first | refine g_split rfl rfl tE (fun _ => ?_) (fun _ => ?_) | refine gk_cond rfl rfl tE (fun _ => ?_) (fun _ => ?_)) <;> (try first | (exfalso; omega; done) | (rename_i hx; exact absurd rfl hx) | (rename_i hx; cases hx; done)))))
  refine g_mv rfl ?_; refine mv_call_rt (fun w hk => leaf_any (shA A 0 c 4) (n / 2) c (L.take (n / 2)) w (by rw [List.length_take]; omega) (by rw [List.length_take]; omega) (hk.pR (sl (shA A 0 c 4) 4 EE (L.take (n / 2))) mE)) rfl rfl rfl rfl rfl (by kernel_rfl) (fun _ => rfl) (fun d hd => ?_)
  (repeat (refine gG ?_; try intro _))
  refine g_mv rfl ?_; refine mv_call_rt (fun w hk => leaf_any (shA A (n / 2) c 4) (n - n / 2) (c - n / 2) (L.drop (n / 2)) w (by rw [List.length_drop]; omega) (by rw [List.length_drop]; omega) (hk.pR (sl (shA A (n / 2) c 4) 4 EE (L.drop (n / 2))) mE)) rfl rfl rfl rfl rfl (by kernel_rfl) (fun _ => rfl) (fun d2 hd2 => ?_)
  (repeat (refine gG ?_; try intro _))
  rename_i g1
  refine gk_ret hT rfl rfl (.tmp rfl .nil) (fun w' hk => ?_)
  exact Ret.mk (g1, d, d2) ⟨hd, hd2⟩ rfl hk sA
theorem rd_blk {w : World} {g T : Nat} {cs : List Value} (h : w.heap[g]? = some (.cells cs.toArray T (0, 0))) : Rd1 w (blk g cs T) := ⟨h, fun b hb => by
  have : b = g := hb
  subst this
  rcases Nat.lt_or_ge b w.heap.size with h' | h'
  · exact h'
  · rw [Array.getElem?_eq_none h'] at h; cases h⟩
theorem nlen_any (g : Nat) (cs : List Value) (lf : Bool) (K V C : SlV) (a : Int) (w : World) (h : w.heap[g]? = some (.cells [.bool lf, K.v, V.v, C.v, .int .u32 a].toArray 48 (0, 0))) :
    Calls Try.prog 16 [.pointer (some ⟨g, 0, none⟩)].toArray w fun e w' => e = .returned (.int .i64 (K.n : Int)) ∧ Below w.heap.size w w' := by
  refine g_enter0 T [] [] [row g 0 [.bool lf, K.v, V.v, C.v, .int .u32 a]] Try.func16 rfl Try.ntmps16 rfl (Rds.cons (rd_blk (cs := [.bool lf, K.v, V.v, C.v, .int .u32 a]) h).row .nil).kn ?_
  (repeat (refine gG ?_; try intro _))
  refine gk_ret hT rfl rfl (.tmp rfl .nil) (fun w' hk => ?_)
  exact ⟨rfl, hk.toBelow⟩
end Go.Proofs.Ytmbphmckakigaaa.Nd

