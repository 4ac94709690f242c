/- A disk: Flush, Crash, Write. -/
import Derived.Test.YteajefmnbalofaaDk3
namespace Go.Proofs.Yteajefmnbalofaa.Dk
open Go.RowKit Mem Gx Bytes
set_option linter.unusedVariables false
set_option linter.unusedSimpArgs false
set_option maxRecDepth 100000
set_option maxHeartbeats 1000000
structure DkOk (S : List SecD) (W : List WrD) : Prop where
  s : ∀ d ∈ S, d.Ok
  w : ∀ x ∈ W, x.d.Ok ∧ x.a < S.length
  n : S.length ≤ 4096
theorem flushF_any (i : Int) (w : World) : Calls Try.prog 43 [.int .i64 i].toArray w fun e w' => e = .returned (.bool true) ∧ Below w.heap.size w w' := by
  refine g_enter0 T [] [] [] Try.func43 rfl Try.ntmps43 rfl (Kn.start _) ?_
  (repeat (refine gG ?_; try intro _))
  refine gk_ret hT rfl rfl (.tmp rfl .nil) (fun w' hk => ?_)
  exact ⟨rfl, hk.toBelow⟩
theorem dflush_any (g : Nat) (sv lv : Value) (S : List SecD) (W : List WrD) (w : World) (ho : DkOk S W) (hl : W.length ≤ 100000) (h : Rd1 w (dkF g ⟨sv, lv, S, W⟩)) :
    Calls Try.prog 19 [.pointer (some ⟨g, 0, none⟩)].toArray w (RetM (dkF g ⟨sv, lv, S, W⟩) (fun q : Value × List SecD => (∀ d ∈ q.2, d.Ok) ∧ q.2.length = S.length ∧ q.2.map SecD.L = eachC (fun _ => true) 0 (W.map WrD.c) (S.map SecD.L)) (fun _ => .tuple #[]) (fun q => dkF g ⟨q.1, .slice none 0 0, q.2, []⟩) w) := by
  refine g_enter0 T (finE (dkF g ⟨sv, lv, S, W⟩) w) [dkF g ⟨sv, lv, S, W⟩] [] Try.func19 rfl Try.ntmps19 rfl (Kn.startM h (fun b hb => (finE_mem h.2 b).2 hb) (fun ψ hψ => by cases hψ)) ?_
  (repeat' (first | (refine gG ?_; try intro _) | (refine g_mv rfl ?_; first | refine mv_call_bel (fun w hk => spend_any g sv lv w (Rd1.unpack (hk.rO (φ := dkF g ⟨sv, lv, S, W⟩) mE) (.head _))) rfl rfl rfl rfl rfl (by kernel_rfl) ?_) | ((first | refine g_split rfl rfl tE (fun _ => ?_) (fun _ => ?_) | refine gk_cond rfl rfl tE (fun _ => ?_) (fun _ => ?_)) <;> (try first | (exfalso; omega; done) | (rename_i hx; exact absurd rfl hx) | (rename_i hx; cases hx; done)))))
  refine g_yd rfl rfl (Ys.yd (ys_makeFuncB rfl rfl rfl)) ?_
  refine g_mv rfl (mv_call_mod (φ := dkF g ⟨sv, lv, S, W⟩) (ψ := fun q : Value × List SecD => dkF g ⟨q.1, .slice none 0 0, q.2, []⟩) (fun w1 hk => by exact each_any g sv lv S W 43 [] (fun _ => true) [] w1 ho.s ho.w ho.n hl (by kernel_rfl) (fun i w' _ _ => flushF_any i w') (hk.rO (φ := dkF g ⟨sv, lv, S, W⟩) mE) (fun ψ hψ => by cases hψ)) rfl rfl rfl rfl rfl (by kernel_rfl) (by intro _; first | ((repeat (first | with_reducible exact Upd.here _ | with_reducible apply Upd.there)); done) | ((repeat (first | exact Upd.here _ | apply Upd.there)); done) | fail) (fun q hq => ?_))
  (repeat (refine gG ?_; try intro _))
  refine gk_fin hT rfl rfl .nil (fun w' hk => ?_)
  exact RetM.mk (ψ := fun q : Value × List SecD => dkF g ⟨q.1, .slice none 0 0, q.2, []⟩) q hq rfl hk (fun b hb => (finE_mem h.2 b).1 hb) mE
def BoE : Bool → Nat → Value := fun x _ => .bool x
theorem crashF_any (i : Nat) (kb : Nat) (kA : Option Addr) (kn kc : Nat) (K : List Bool) (w : World) (hkn : kn = K.length) (hi : i ≤ 100000) (hB : Rds w [blk kb [.slice kA kn kc] 52, sl kA 1 BoE K]) :
    Calls Try.prog 45 [.int .i64 (i : Nat), .pointer (some ⟨kb, 0, none⟩)].toArray w fun e w' => e = .returned (.bool (K.getD i false)) ∧ Below w.heap.size w w' := by
  refine g_enter0 T [] [] [blk kb [.slice kA kn kc] 52, sl kA 1 BoE K] Try.func45 rfl Try.ntmps45 rfl hB.kn ?_
  refine gk_rowR (g := kb) mE ?_
  by_cases hlt : i < kn
  · obtain ⟨x, hx⟩ : ∃ x, K[i]? = some x := ⟨K[i], List.getElem?_eq_getElem (by omega)⟩
    refine gk_elem (enc := BoE) (L := K) i mE (by omega) (by decide) (fun b2 o2 y2 eA2 hy2 => ?_)
    subst eA2
    obtain rfl : x = y2 := by rw [hx] at hy2; exact Option.some.inj hy2
    (repeat' (first | (refine gG ?_; try intro _) | ((first | refine g_split rfl rfl tE (fun _ => ?_) (fun _ => ?_) | refine gk_cond rfl rfl tE (fun _ => ?_) (fun _ => ?_)) <;> (try first | (exfalso; omega; done) | (rename_i hx; exact absurd rfl hx) | (rename_i hx; cases hx; done)))))
    refine gk_ret hT rfl rfl (.tmp rfl .nil) (fun w' hk => ?_)
    refine ⟨?_, hk.toBelow⟩
    rw [List.getD_eq_getElem?_getD, hx]
    rfl
  · (repeat' (first | (refine gG ?_; try intro _) | ((first | refine g_split rfl rfl tE (fun _ => ?_) (fun _ => ?_) | refine gk_cond rfl rfl tE (fun _ => ?_) (fun _ => ?_)) <;> (try first | (exfalso; omega; done) | (rename_i hx; exact absurd rfl hx) | (rename_i hx; cases hx; done)))))
    refine gk_ret hT rfl rfl (.tmp rfl .nil) (fun w' hk => ?_)
    refine ⟨?_, hk.toBelow⟩
    rw [List.getD_eq_getElem?_getD, List.getElem?_eq_none (by omega)]
    rfl
theorem dcrash_any (g : Nat) (sv lv : Value) (S : List SecD) (W : List WrD) (kA : Option Addr) (kn kc : Nat) (K : List Bool) (w : World) (ho : DkOk S W) (hl : W.length ≤ 100000) (hkn : kn = K.length) (h : Rd1 w (dkF g ⟨sv, lv, S, W⟩)) (hK : Rd1 w (sl kA 1 BoE K)) (hKd : ∀ b, (dkF g ⟨sv, lv, S, W⟩).S b → ¬ (sl kA 1 BoE K).S b) :
    Calls Try.prog 20 [.pointer (some ⟨g, 0, none⟩), .slice kA kn kc].toArray w (RetM (dkF g ⟨sv, lv, S, W⟩) (fun q : Value × List SecD => (∀ d ∈ q.2, d.Ok) ∧ q.2.length = S.length ∧ q.2.map SecD.L = eachC (fun i => K.getD i false) 0 (W.map WrD.c) (S.map SecD.L)) (fun _ => .tuple #[]) (fun q => dkF g ⟨q.1, .slice none 0 0, q.2, []⟩) w) := by
  refine g_enter0 T (finE (dkF g ⟨sv, lv, S, W⟩) w) [dkF g ⟨sv, lv, S, W⟩] [sl kA 1 BoE K] Try.func20 rfl Try.ntmps20 rfl (Kn.startM h (fun b hb => (finE_mem h.2 b).2 hb) (fun ψ hψ => by obtain rfl := List.mem_singleton.1 hψ; exact ⟨hK, hKd⟩)) ?_
  (repeat (refine gG ?_; try intro _))
  rename_i g3
  refine g_yd rfl rfl (Ys.yd (ys_makeFuncB rfl rfl rfl)) ?_
  (repeat (refine gG ?_; try intro _))
  refine g_yd rfl rfl (Ys.yd (ys_makeFuncB rfl rfl rfl)) ?_
  refine g_share (φ := blk g3 [.slice kA kn kc] 52) (by repeat (first | with_reducible exact Sel.here | with_reducible apply Sel.there)) ?_
  refine g_mv rfl (mv_call_mod (φ := dkF g ⟨sv, lv, S, W⟩) (ψ := fun q : Value × List SecD => dkF g ⟨q.1, .slice none 0 0, q.2, []⟩) (fun w1 hk => by exact each_any g sv lv S W 45 [.pointer (some ⟨g3, 0, none⟩)] (fun i => K.getD i false) [blk g3 [.slice kA kn kc] 52, sl kA 1 BoE K] w1 ho.s ho.w ho.n hl (by kernel_rfl) (fun i w' hi hB => crashF_any i g3 kA kn kc K w' hkn (by omega) hB) (hk.rO (φ := dkF g ⟨sv, lv, S, W⟩) mE) (fun ψ hψ => ⟨hk.rR hψ, fun b hb => hk.disR (dkF g ⟨sv, lv, S, W⟩) mE ψ hψ b hb⟩)) rfl rfl rfl rfl rfl (by kernel_rfl) (by intro _; first | ((repeat (first | with_reducible exact Upd.here _ | with_reducible apply Upd.there)); done) | ((repeat (first | exact Upd.here _ | apply Upd.there)); done) | fail) (fun q hq => ?_))
  obtain ⟨sv1, S1⟩ := q
  dsimp only
  refine g_unpack (l := [blk g [sv1, .slice none 0 0, .bool false, .int .i64 0] 75, own 0 36 1 sv1 SE S1, own 0 118 2 (.slice none 0 0) WE [], allF S1 secF, allF [] wrF]) (by repeat (first | with_reducible exact Sel.here | with_reducible apply Sel.there)) ?_
  (repeat (refine gG ?_; try intro _))
  refine gk_fin hT rfl rfl .nil (fun w' hk => ?_)
  exact RetM.mkP (ll := fun q : Value × List SecD => dkL g ⟨q.1, .slice none 0 0, q.2, []⟩) (sv1, S1) hq rfl hk (fun b hb => (finE_mem h.2 b).1 hb) sA
end Go.Proofs.Yteajefmnbalofaa.Dk
