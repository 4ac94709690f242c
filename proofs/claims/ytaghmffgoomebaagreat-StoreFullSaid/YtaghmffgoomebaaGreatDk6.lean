/- A disk: Write, New. A new disk. -/
import Derived.Test.YtaghmffgoomebaaGreatDk4
namespace Go.Proofs.YtaghmffgoomebaaGreat.Dk
open Go.RowKit Mem Gx Bytes
set_option linter.unusedVariables false
set_option linter.unusedSimpArgs false
set_option maxRecDepth 100000
set_option maxHeartbeats 1000000
theorem dwrite_any (g : Nat) (sv lv : Value) (S : List SecD) (W : List WrD) (a : Nat) (bA : Option Addr) (bn bc : Nat) (B : List Int) (w : World) (ho : DkOk S W) (hl : W.length ≤ 100000) (ha : a < S.length) (hbn : bn = B.length) (hB : SecOk B) (h : Rd1 w (dkF g ⟨sv, lv, S, W⟩)) (hb : Rd1 w (sl bA 1 (IE .u8) B)) (hbd : ∀ b, (dkF g ⟨sv, lv, S, W⟩).S b → ¬ (sl bA 1 (IE .u8) B).S b) :
    Calls Tryz.prog 26 [.pointer (some ⟨g, 0, none⟩), .int .i64 (a : Nat), .slice bA bn bc].toArray w (RetM (dkF g ⟨sv, lv, S, W⟩) (fun q : Value × SecD => q.2.Ok ∧ q.2.L = B) (fun _ => .int .i64 0) (fun q => dkF g ⟨sv, q.1, S, W ++ [(⟨a, q.2⟩ : WrD)]⟩) w) := by
  obtain ⟨uA, uc, rfl, _, _, _, _⟩ := own_rdv (α := SecD) (Rd1.unpack h (φ := own 0 23 1 sv SE S) (.tail _ (.head _)))
  have hk0 : Kn (finE (dkF g ⟨.slice uA S.length uc, lv, S, W⟩) w) w w (dkL g ⟨.slice uA S.length uc, lv, S, W⟩) [sl bA 1 (IE .u8) B] := Kn.startP h (fun b hb => (finE_mem h.2 b).2 hb) (fun ψ hψ => by obtain rfl := List.mem_singleton.1 hψ; exact ⟨hb, hbd⟩)
  have hfin : ∀ b, b ∈ finE (dkF g ⟨.slice uA S.length uc, lv, S, W⟩) w → (dkF g ⟨.slice uA S.length uc, lv, S, W⟩).S b := fun b hb => (finE_mem h.2 b).1 hb
  have hn := ho.n
  have h128 : B.length = 128 := hB.1
  refine g_enter0 T (finE (dkF g ⟨.slice uA S.length uc, lv, S, W⟩) w) [blk g [.slice uA S.length uc, lv, .bool false, .int .i64 0] 114, own 0 23 1 (.slice uA S.length uc) SE S, own 0 119 2 lv WE W, allF S secF, allF W wrF] [sl bA 1 (IE .u8) B] Tryz.func26 rfl Tryz.ntmps26 rfl hk0 ?_
  (repeat' (first | (refine gG ?_; try intro _) | ((first | refine g_split rfl rfl tE (fun _ => ?_) (fun _ => ?_) | refine gk_cond rfl rfl tE (fun _ => ?_) (fun _ => ?_)) <;> (try first | (exfalso; omega; done) | (rename_i hx; exact absurd rfl hx) | (rename_i hx; cases hx; done)))))
  (repeat' (first | (refine gG ?_; try intro _) | (refine g_mv rfl ?_; first | refine mv_call_bel (fun w hk => spend_any g (.slice uA S.length uc) lv w (hk.rO (φ := blk g [.slice uA S.length uc, lv, .bool false, .int .i64 0] 114) mE)) rfl rfl rfl rfl rfl (by kernel_rfl) ?_) | ((first | refine g_split rfl rfl tE (fun _ => ?_) (fun _ => ?_) | refine gk_cond rfl rfl tE (fun _ => ?_) (fun _ => ?_)) <;> (try first | (exfalso; omega; done) | (rename_i hx; exact absurd rfl hx) | (rename_i hx; cases hx; done)))))
  refine gk_any [] (Cut _ (fun _ : Value × {d : SecD // d.Ok ∧ d.L = B} => []) (fun q => [blk g [.slice uA S.length uc, q.1, .bool false, .int .i64 0] 114, own 0 23 1 (.slice uA S.length uc) SE S, own 0 119 2 q.1 WE (W ++ [⟨a, q.2.1⟩]), allF S secF, allF W wrF, secF q.2.1]) (fun _ => [])) rfl rfl (by kernel_rfl) ?_ (cut_k fun q => ?_)
  · skip
    refine gb_take 0 rfl (by decide +kernel) rfl rfl (ys_ev (nw := true) hT rfl sI) sF ?_
    refine gb_take 1 rfl (by decide +kernel) rfl rfl (ys_ev (nw := true) hT rfl sI) sF ?_
    refine gb_take 2 rfl (by decide +kernel) rfl rfl (ys_ev (nw := true) hT rfl sI) sF ?_
    refine gb_take 3 rfl (by decide +kernel) rfl rfl (ys_ev (nw := true) hT rfl sI) sF ?_
    refine gb_take 5 rfl (by decide +kernel) rfl rfl (ys_ev (nw := true) hT rfl sI) sF ?_
    refine gb_take 6 rfl (by decide +kernel) rfl rfl (ys_ev (nw := true) hT rfl sI) sF ?_
    refine gb_all (by decide +kernel) ?_
    refine gball_not (by decide +kernel) ?_
    refine gball_not (by decide +kernel) ?_
    refine gball_not (by decide +kernel) ?_
    refine gball_not (by decide +kernel) ?_
    refine gball_yes rfl rfl ?_ ?_
    · refine mv_yd rfl (yd_load_blk hT rfl rfl mE rfl rfl) ?_
      refine ⟨sF, ?_⟩
      refine gb_only 7 (by decide +kernel) rfl rfl ?_
      refine mv_call_rt (fun w hk => clone_B bA bn bc B w hbn (by omega) (hk.rR (φ := sl bA 1 (IE .u8) B) mE).1) rfl rfl rfl rfl rfl (by kernel_rfl) (fun _ => rfl) (fun ⟨cA, cn, cc⟩ hs => ?_)
      refine ⟨sF, ?_⟩
      try (refine gb_say 32 (.slice cA cn cc) rfl rfl ?_)
      refine gb_take 8 rfl (by decide +kernel) rfl rfl (ys_ev (nw := true) hT rfl sI) sF ?_
      refine gb_only 9 (by decide +kernel) rfl rfl ?_
      first | (refine mv_box rfl rfl rfl rfl ?_; intro _) | (refine mv_alloc rfl hT rfl rfl ?_; intro _) | refine mv_store hT rfl rfl rfl rfl rfl rfl sO rfl ?_ | (refine mv_buildSlice rfl hT rfl rfl rfl rfl rfl rfl rfl rfl ?_; intro _)
      refine ⟨sF, ?_⟩
      refine gb_only 10 (by decide +kernel) rfl rfl ?_
      refine mv_append (L := W) rfl [(⟨a, ⟨⟨cA, cn, cc⟩, B⟩⟩ : WrD)] rfl rfl rfl rfl elt_W (by intro _; first | ((repeat (first | with_reducible exact Upd.here _ | with_reducible apply Upd.there)); done) | ((repeat (first | exact Upd.here _ | apply Upd.there)); done) | fail) (src_blk mE rfl) rfl oneW (by simp only [maxLen, List.length_cons, List.length_nil]; omega) (by simp only [List.length_cons, List.length_nil]; omega) (Nat.zero_le _) (fun v1 => ?_)
      refine ⟨sF, ?_⟩
      refine gb_ownv v1 mE (fun A1 c1 hv1 _ _ _ => ?_); subst hv1
      refine gb_take 11 rfl (by decide +kernel) rfl rfl (ys_ev (nw := true) hT rfl sI) sF ?_
      refine gb_take 12 rfl (by decide +kernel) rfl rfl (ys_ev (nw := true) hT rfl sI) sF ?_
      refine gb_only 13 (by decide +kernel) rfl rfl ?_
      first | (refine mv_box rfl rfl rfl rfl ?_; intro _) | (refine mv_alloc rfl hT rfl rfl ?_; intro _) | refine mv_store hT rfl rfl rfl rfl rfl rfl sO rfl ?_ | (refine mv_buildSlice rfl hT rfl rfl rfl rfl rfl rfl rfl rfl ?_; intro _)
      refine ⟨sF, ?_⟩
      refine gb_nil (by decide +kernel) ?_
      exact ⟨(.slice A1 (W ++ [(⟨a, ⟨⟨cA, cn, cc⟩, B⟩⟩ : WrD)]).length c1, ⟨⟨⟨cA, cn, cc⟩, B⟩, ⟨hs, hB⟩, rfl⟩), (by repeat (first | exact trivial | refine ⟨rfl, ?_⟩)), sA, sS⟩
    refine gball_not (by decide +kernel) ?_
    refine gball_not (by decide +kernel) ?_
    refine gball_yes rfl rfl ?_ ?_
    · refine mv_call_rt (fun w hk => clone_B bA bn bc B w hbn (by omega) (hk.rR (φ := sl bA 1 (IE .u8) B) mE).1) rfl rfl rfl rfl rfl (by kernel_rfl) (fun _ => rfl) (fun ⟨cA, cn, cc⟩ hs => ?_)
      refine ⟨sF, ?_⟩
      try (refine gb_say 32 (.slice cA cn cc) rfl rfl ?_)
      refine gb_take 8 rfl (by decide +kernel) rfl rfl (ys_ev (nw := true) hT rfl sI) sF ?_
      refine gb_all (by decide +kernel) ?_
      refine gball_not (by decide +kernel) ?_
      refine gball_not (by decide +kernel) ?_
      refine gball_not (by decide +kernel) ?_
      refine gball_not (by decide +kernel) ?_
      refine gball_yes rfl rfl ?_ ?_
      · refine mv_yd rfl (yd_load_blk hT rfl rfl mE rfl rfl) ?_
        refine ⟨sF, ?_⟩
        refine gb_only 9 (by decide +kernel) rfl rfl ?_
        first | (refine mv_box rfl rfl rfl rfl ?_; intro _) | (refine mv_alloc rfl hT rfl rfl ?_; intro _) | refine mv_store hT rfl rfl rfl rfl rfl rfl sO rfl ?_ | (refine mv_buildSlice rfl hT rfl rfl rfl rfl rfl rfl rfl rfl ?_; intro _)
        refine ⟨sF, ?_⟩
        refine gb_only 10 (by decide +kernel) rfl rfl ?_
        refine mv_append (L := W) rfl [(⟨a, ⟨⟨cA, cn, cc⟩, B⟩⟩ : WrD)] rfl rfl rfl rfl elt_W (by intro _; first | ((repeat (first | with_reducible exact Upd.here _ | with_reducible apply Upd.there)); done) | ((repeat (first | exact Upd.here _ | apply Upd.there)); done) | fail) (src_blk mE rfl) rfl oneW (by simp only [maxLen, List.length_cons, List.length_nil]; omega) (by simp only [List.length_cons, List.length_nil]; omega) (Nat.zero_le _) (fun v1 => ?_)
        refine ⟨sF, ?_⟩
        refine gb_ownv v1 mE (fun A1 c1 hv1 _ _ _ => ?_); subst hv1
        refine gb_take 11 rfl (by decide +kernel) rfl rfl (ys_ev (nw := true) hT rfl sI) sF ?_
        refine gb_take 12 rfl (by decide +kernel) rfl rfl (ys_ev (nw := true) hT rfl sI) sF ?_
        refine gb_only 13 (by decide +kernel) rfl rfl ?_
        first | (refine mv_box rfl rfl rfl rfl ?_; intro _) | (refine mv_alloc rfl hT rfl rfl ?_; intro _) | refine mv_store hT rfl rfl rfl rfl rfl rfl sO rfl ?_ | (refine mv_buildSlice rfl hT rfl rfl rfl rfl rfl rfl rfl rfl ?_; intro _)
        refine ⟨sF, ?_⟩
        refine gb_nil (by decide +kernel) ?_
        exact ⟨(.slice A1 (W ++ [(⟨a, ⟨⟨cA, cn, cc⟩, B⟩⟩ : WrD)]).length c1, ⟨⟨⟨cA, cn, cc⟩, B⟩, ⟨hs, hB⟩, rfl⟩), (by repeat (first | exact trivial | refine ⟨rfl, ?_⟩)), sA, sS⟩
      refine gball_not (by decide +kernel) ?_
      refine gball_not (by decide +kernel) ?_
      refine gball_not (by decide +kernel) ?_
      refine gball_not (by decide +kernel) ?_
      refine gball_yes rfl rfl ?_ ?_
      · first | (refine mv_box rfl rfl rfl rfl ?_; intro _) | (refine mv_alloc rfl hT rfl rfl ?_; intro _) | refine mv_store hT rfl rfl rfl rfl rfl rfl sO rfl ?_ | (refine mv_buildSlice rfl hT rfl rfl rfl rfl rfl rfl rfl rfl ?_; intro _)
        refine ⟨sF, ?_⟩
        refine gb_only 4 (by decide +kernel) rfl rfl ?_
        refine mv_yd rfl (yd_load_blk hT rfl rfl mE rfl rfl) ?_
        refine ⟨sF, ?_⟩
        refine gb_only 10 (by decide +kernel) rfl rfl ?_
        refine mv_append (L := W) rfl [(⟨a, ⟨⟨cA, cn, cc⟩, B⟩⟩ : WrD)] rfl rfl rfl rfl elt_W (by intro _; first | ((repeat (first | with_reducible exact Upd.here _ | with_reducible apply Upd.there)); done) | ((repeat (first | exact Upd.here _ | apply Upd.there)); done) | fail) (src_blk mE rfl) rfl oneW (by simp only [maxLen, List.length_cons, List.length_nil]; omega) (by simp only [List.length_cons, List.length_nil]; omega) (Nat.zero_le _) (fun v1 => ?_)
        refine ⟨sF, ?_⟩
        refine gb_ownv v1 mE (fun A1 c1 hv1 _ _ _ => ?_); subst hv1
        refine gb_take 11 rfl (by decide +kernel) rfl rfl (ys_ev (nw := true) hT rfl sI) sF ?_
        refine gb_take 12 rfl (by decide +kernel) rfl rfl (ys_ev (nw := true) hT rfl sI) sF ?_
        refine gb_only 13 (by decide +kernel) rfl rfl ?_
        first | (refine mv_box rfl rfl rfl rfl ?_; intro _) | (refine mv_alloc rfl hT rfl rfl ?_; intro _) | refine mv_store hT rfl rfl rfl rfl rfl rfl sO rfl ?_ | (refine mv_buildSlice rfl hT rfl rfl rfl rfl rfl rfl rfl rfl ?_; intro _)
        refine ⟨sF, ?_⟩
        refine gb_nil (by decide +kernel) ?_
        exact ⟨(.slice A1 (W ++ [(⟨a, ⟨⟨cA, cn, cc⟩, B⟩⟩ : WrD)]).length c1, ⟨⟨⟨cA, cn, cc⟩, B⟩, ⟨hs, hB⟩, rfl⟩), (by repeat (first | exact trivial | refine ⟨rfl, ?_⟩)), sA, sS⟩
      refine gball_not (by decide +kernel) ?_
      refine gball_not (by decide +kernel) ?_
      refine gball_not (by decide +kernel) ?_
      refine gball_not (by decide +kernel) ?_
      exact gball_end (by decide +kernel)
    refine gball_not (by decide +kernel) ?_
    refine gball_not (by decide +kernel) ?_
    refine gball_not (by decide +kernel) ?_
    refine gball_not (by decide +kernel) ?_
    refine gball_not (by decide +kernel) ?_
    refine gball_not (by decide +kernel) ?_
    exact gball_end (by decide +kernel)
  · obtain ⟨v1, d, hd, hdB⟩ := q
    dsimp only
    (repeat (refine gG ?_; try intro _))
    refine gk_derO [allF W wrF, secF d] [blk g [.slice uA S.length uc, v1, .bool false, .int .i64 0] 114, own 0 23 1 (.slice uA S.length uc) SE S, own 0 119 2 v1 WE (W ++ [⟨a, d⟩]), allF S secF] (all_snoc (x := ⟨a, d⟩)) sA ?_
    refine gk_ret hT rfl rfl (.tmp rfl .nil) (fun w' hk => ?_)
    exact RetM.mkP (ll := fun q : Value × SecD => dkL g ⟨.slice uA S.length uc, q.1, S, W ++ [(⟨a, q.2⟩ : WrD)]⟩) (v1, d) ⟨hd, hdB⟩ rfl hk hfin sA
end Go.Proofs.YtaghmffgoomebaaGreat.Dk
namespace Go.Proofs.YtaghmffgoomebaaGreat.Dk
open Go.RowKit Mem Gx Bytes
set_option linter.unusedVariables false
set_option linter.unusedSimpArgs false
set_option maxRecDepth 100000
set_option maxHeartbeats 1000000
abbrev zsec : List Int := List.replicate 128 0
abbrev nilSec : SecD := ⟨⟨none, 0, 0⟩, []⟩
theorem zsec_ok : SecOk zsec := ⟨by simp, fun x hx => by have := List.eq_of_mem_replicate hx; omega⟩
theorem der_blk {g T : Nat} {cs : List Value} {α : Type} [Inhabited α] {sz : Nat} {enc : α → Nat → Value} {M : List α} (he : cs = flatF sz enc M) : Der [blk g cs T] (sl (some ⟨g, 0, none⟩) sz enc M) := ⟨fun w hw => by
  have hb : w.heap[g]? = some (.cells cs.toArray T (0, 0)) := hw _ (.head _)
  intro hn
  refine ⟨g, 0, rfl, fun i hi j hj => ?_⟩
  have hy : M[i]? = some M[i] := List.getElem?_eq_getElem hi
  rw [Nat.zero_add, cell_of_row w g _ cs.toArray T (0, 0) hb, LF_at hy, he]
  simpa using flatF_get sz enc M i j _ hy hj, fun b hb => by
    obtain ⟨_, a, ha, hb⟩ := hb
    injection ha with ha
    subst ha
    subst hb
    exact ⟨_, .head _, rfl⟩⟩
theorem der_nil {l : List Fact} {α : Type} [Inhabited α] {sz : Nat} {enc : α → Nat → Value} : Der l (sl none sz enc ([] : List α)) := ⟨fun w _ h => absurd h (Nat.lt_irrefl 0), fun b hb => by
  obtain ⟨_, a, ha, _⟩ := hb
  cases ha⟩
theorem flatF_snocA {α : Type} (sz : Nat) (enc : α → Nat → Value) (y : α) : ∀ L : List α, flatF sz enc (L ++ [y]) = flatF sz enc L ++ encF enc y 0 sz
  | [] => List.append_nil _
  | x :: L => by
    show encF enc x 0 sz ++ flatF sz enc (L ++ [y]) = _
    rw [flatF_snocA sz enc y L, ← List.append_assoc]
    rfl
theorem rep_flat : ∀ n, rep n [.slice none 0 0] = flatF 1 SE (List.replicate n nilSec)
  | 0 => rfl
  | n + 1 => by
    show rep n [.slice none 0 0] ++ [.slice none 0 0] = _
    rw [List.replicate_succ', flatF_snocA, rep_flat n]
    rfl
theorem rep_lenA (z : List Value) : ∀ n, (rep n z).length = n * z.length
  | 0 => (Nat.zero_mul _).symm
  | n + 1 => by
    show (rep n z ++ z).length = _
    rw [List.length_append, rep_lenA z n, Nat.succ_mul]
theorem zrep : rep 128 [.int .u8 0] = flatF 1 (IE .u8) zsec := by kernel_rfl
theorem dnew_any (n : Nat) (h1 : 1 ≤ n) (h9 : n ≤ 4096) (w : World) :
    Calls Tryz.prog 24 [.int .i64 (n : Nat)].toArray w (Ret (fun q : Nat × Value × List SecD => (∀ d ∈ q.2.2, d.Ok) ∧ q.2.2.map SecD.L = List.replicate n zsec) (fun q => .tuple #[.pointer (some ⟨q.1, 0, none⟩), .int .i64 0]) (fun q => [dkF q.1 ⟨q.2.1, .slice none 0 0, q.2.2, []⟩]) w) := by
  refine g_enter0 T [] [] [] Tryz.func24 rfl Tryz.ntmps24 rfl (Kn.start _) ?_
  (repeat' (first | (refine gG ?_; try intro _) | ((first | refine g_split rfl rfl tE (fun _ => ?_) (fun _ => ?_) | refine gk_cond rfl rfl tE (fun _ => ?_) (fun _ => ?_)) <;> (try first | (exfalso; omega; done) | (rename_i hx; exact absurd rfl hx) | (rename_i hx; cases hx; done)))))
  refine g_mv rfl (mv_make rfl hT n 24 rfl rfl rfl rfl rfl rfl rfl (by kernel_rfl) (by omega) (by omega) rfl rfl (fun g1 => ?_))
  refine g_blk_own (sz := 1) (enc := SE) (n := n) (c := n) (base := 0) (List.replicate n nilSec) (by decide) (by first | ((repeat (first | with_reducible exact Upd.here _ | with_reducible apply Upd.there)); done) | ((repeat (first | exact Upd.here _ | apply Upd.there)); done) | fail) (by rw [rep_lenA]; rfl) (by rw [List.length_replicate]) (Nat.le_refl _) (by unfold maxLen; omega) (Nat.zero_le _) (by rw [List.take_of_length_le (by rw [rep_lenA]; exact Nat.le_refl _), rep_flat]) ?_
  (repeat (refine gG ?_; try intro _))
  rename_i g2
  refine gk_derO [] [blk g2 [.slice (some ⟨g1, 0, none⟩) n n, .slice none 0 0, .bool false, .int .i64 0] 114, own 0 23 1 (.slice (some ⟨g1, 0, none⟩) n n) SE (List.replicate n nilSec)] (φ := allF (List.replicate n nilSec) secF) (.all fun x hx => by rw [List.eq_of_mem_replicate hx]; exact der_nil) sA ?_
  refine gk_loop_sel (fun (q : (List SecD) × Nat) => match q with | (S, i) => (i ≤ n ∧ S.length = n ∧ ∀ j d, j < i → S[j]? = some d → d.Ok ∧ d.L = zsec)) (fun (q : (List SecD) × Nat) => match q with | (S, i) => [(0, .int .i64 (n : Nat)), (4, .pointer (some ⟨g2, 0, none⟩)), (20, .int .i64 (n : Nat)), (21, .int .i64 i)]) (fun (q : (List SecD) × Nat) => match q with | (S, i) => [blk g2 [.slice (some ⟨g1, 0, none⟩) n n, .slice none 0 0, .bool false, .int .i64 0] 114, own 0 23 1 (.slice (some ⟨g1, 0, none⟩) n n) SE S, allF S secF]) (fun (q : (List SecD) × Nat) => match q with | (S, i) => []) (fun (q : (List SecD) × Nat) => match q with | (S, i) => n - i) (List.replicate n nilSec, 0) rfl ⟨Nat.zero_le _, List.length_replicate, fun j d hj => absurd hj (Nat.not_lt_zero _)⟩ (by repeat (first | exact trivial | refine ⟨rfl, ?_⟩)) sA sS ?_
  rintro ⟨S, i⟩ hI
  replace hI : (i ≤ n ∧ S.length = n ∧ ∀ j d, j < i → S[j]? = some d → d.Ok ∧ d.L = zsec) := hI
  change GK _ _ [(0, .int .i64 (n : Nat)), (4, .pointer (some ⟨g2, 0, none⟩)), (20, .int .i64 (n : Nat)), (21, .int .i64 i)] [blk g2 [.slice (some ⟨g1, 0, none⟩) n n, .slice none 0 0, .bool false, .int .i64 0] 114, own 0 23 1 (.slice (some ⟨g1, 0, none⟩) n n) SE S, allF S secF] []
  obtain ⟨hin, hSl, hSo⟩ := hI
  by_cases hlt : i < n
  · (repeat' (first | (refine gG ?_; try intro _) | ((first | refine g_split rfl rfl tE (fun _ => ?_) (fun _ => ?_) | refine gk_cond rfl rfl tE (fun _ => ?_) (fun _ => ?_)) <;> (try first | (exfalso; omega; done) | (rename_i hx; exact absurd rfl hx) | (rename_i hx; cases hx; done)))))
    obtain ⟨d0, hd0⟩ : ∃ d, S[i]? = some d := ⟨S[i], List.getElem?_eq_getElem (by omega)⟩
    refine gk_any [0] (Cut _ (fun _ : Nat => [(0, .int .i64 (n : Nat)), (4, .pointer (some ⟨g2, 0, none⟩)), (20, .int .i64 (n : Nat)), (21, .int .i64 i)]) (fun g6 => [blk g2 [.slice (some ⟨g1, 0, none⟩) n n, .slice none 0 0, .bool false, .int .i64 0] 114, own 0 23 1 (.slice (some ⟨g1, 0, none⟩) n n) SE (S.set i ⟨⟨some ⟨g6, 0, none⟩, 128, 128⟩, zsec⟩), allF S secF, blk g6 (rep 128 [.int .u8 0]) 5]) (fun _ => [])) rfl rfl (by kernel_rfl) ?_ (cut_k fun g6 => ?_)
    · skip
      refine gb_take 0 rfl (by decide +kernel) rfl rfl (ys_ev (nw := true) hT rfl sI) sF ?_
      refine gb_take 1 rfl (by decide +kernel) rfl rfl (ys_ev (nw := true) hT rfl sI) sF ?_
      refine gb_take 2 rfl (by decide +kernel) rfl rfl (ys_ev (nw := true) hT rfl sI) sF ?_
      refine gb_take 3 rfl (by decide +kernel) rfl rfl (by first | exact ys_blk hT rfl rfl mE rfl rfl | exact ys_row hT rfl rfl mE rfl rfl | exact ys_row0 hT rfl rfl mE rfl rfl) sF ?_
      refine gb_take 4 rfl (by decide +kernel) rfl rfl (ys_ev (nw := true) hT rfl sI) sF ?_
      refine gb_only 5 (by decide +kernel) rfl rfl ?_
      (refine mv_make rfl hT 128 1 rfl rfl rfl rfl rfl rfl rfl (by kernel_rfl) (by omega) (by omega) rfl rfl ?_; intro g6)
      refine ⟨sF, ?_⟩
      refine gb_take 6 rfl (by decide +kernel) rfl rfl (ys_ev (nw := true) hT rfl sI) sF ?_
      refine gb_only 7 (by decide +kernel) rfl rfl ?_
      refine mv_store_own (enc := SE) (sz := 1) hT i 0 d0 ⟨⟨some ⟨g6, 0, none⟩, 128, 128⟩, zsec⟩ rfl rfl (by omega) rfl rfl rfl rfl hd0 (by decide) (fun b hb hne => by omega) rfl (by first | ((repeat (first | with_reducible exact Upd.here _ | with_reducible apply Upd.there)); done) | ((repeat (first | exact Upd.here _ | apply Upd.there)); done) | fail) rfl ?_
      refine ⟨sF, ?_⟩
      refine gb_nil (by decide +kernel) ?_
      exact ⟨g6, (by repeat (first | exact trivial | refine ⟨rfl, ?_⟩)), sA, sS⟩
    · refine gk_derO [allF S secF, blk g6 (rep 128 [.int .u8 0]) 5] [blk g2 [.slice (some ⟨g1, 0, none⟩) n n, .slice none 0 0, .bool false, .int .i64 0] 114, own 0 23 1 (.slice (some ⟨g1, 0, none⟩) n n) SE (S.set i ⟨⟨some ⟨g6, 0, none⟩, 128, 128⟩, zsec⟩)] (φ := allF (S.set i ⟨⟨some ⟨g6, 0, none⟩, 128, 128⟩, zsec⟩) secF) (Der.trans all_set fun ψ hψ => by
        rcases List.mem_cons.1 hψ with rfl | hψ
        · exact .mem (.head _)
        · obtain rfl := List.mem_singleton.1 hψ
          exact Der.trans (der_blk zrep) fun χ hχ => .mem (.tail _ hχ)) sA ?_
      (repeat (refine gG ?_; try intro _))
      refine gk_again_sel rfl (S.set i ⟨⟨some ⟨g6, 0, none⟩, 128, 128⟩, zsec⟩, i + 1) ⟨hlt, by rw [List.length_set]; exact hSl, fun j d hj hd => by
        by_cases hji : j = i
        · subst hji
          rw [List.getElem?_set, if_pos rfl, if_pos (by omega)] at hd
          obtain rfl := Option.some.inj hd
          exact ⟨⟨⟨rfl, Nat.le_refl _, by show 128 ≤ maxLen; unfold maxLen; omega, fun h => by cases h⟩, zsec_ok⟩, rfl⟩
        · rw [List.getElem?_set_ne (fun h => hji h.symm)] at hd
          exact hSo j d (by omega) hd⟩ (by dsimp only; omega) (by repeat (first | exact trivial | refine ⟨rfl, ?_⟩)) sA sS
  · have hie : i = n := by omega
    subst hie
    (repeat' (first | (refine gG ?_; try intro _) | ((first | refine g_split rfl rfl tE (fun _ => ?_) (fun _ => ?_) | refine gk_cond rfl rfl tE (fun _ => ?_) (fun _ => ?_)) <;> (try first | (exfalso; omega; done) | (rename_i hx; exact absurd rfl hx) | (rename_i hx; cases hx; done)))))
    refine gk_own 0 119 2 WE ?_
    refine gk_derO [] [blk g2 [.slice (some ⟨g1, 0, none⟩) i i, .slice none 0 0, .bool false, .int .i64 0] 114, own 0 23 1 (.slice (some ⟨g1, 0, none⟩) i i) SE S, own 0 119 2 (.slice none 0 0) WE [], allF S secF] (φ := allF ([] : List WrD) wrF) (.all fun x hx => by cases hx) sA ?_
    refine gk_pack (dkL g2 ⟨.slice (some ⟨g1, 0, none⟩) i i, .slice none 0 0, S, []⟩) [] sA ?_
    refine gk_ret hT rfl rfl (.tmp rfl (.tmp rfl .nil)) (fun w' hk => ?_)
    exact Ret.mk (g2, .slice (some ⟨g1, 0, none⟩) i i, S) ⟨fun d (hd : d ∈ S) => by
      obtain ⟨j, hj⟩ := List.getElem?_of_mem hd
      exact (hSo j d (by have := (List.getElem?_eq_some_iff.1 hj).1; omega) hj).1, by
      show S.map SecD.L = _
      apply List.ext_getElem?
      intro j
      rw [List.getElem?_map, List.getElem?_replicate]
      by_cases hj : j < i
      · obtain ⟨d, hd⟩ : ∃ d, S[j]? = some d := ⟨S[j], List.getElem?_eq_getElem (by omega)⟩
        rw [hd, if_pos hj]
        exact congrArg some (hSo j d hj hd).2
      · rw [List.getElem?_eq_none (by omega), if_neg hj]
        rfl⟩ rfl hk sA
end Go.Proofs.YtaghmffgoomebaaGreat.Dk
