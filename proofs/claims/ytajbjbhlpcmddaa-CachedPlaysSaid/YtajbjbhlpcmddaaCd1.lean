/- A disk with a cache: New, Told, Flush, Crash, Write. -/
import Derived.Test.YtajbjbhlpcmddaaDk8
import Derived.Test.YtajbjbhlpcmddaaLr5
namespace Go.Proofs.Ytajbjbhlpcmddaa.Dk
open Go.RowKit Mem Gx Bytes
set_option linter.unusedVariables false
set_option linter.unusedSimpArgs false
set_option maxRecDepth 100000
set_option maxHeartbeats 1000000
theorem cnew_nil (most : Int) (w : World) : Calls Try.prog 7 [.pointer none, .int .i64 most].toArray w fun e w' => e = .returned (.tuple #[.pointer none, .int .i64 10]) ∧ Below w.heap.size w w' := by
  refine g_enter0 T [] [] [] Try.func7 rfl Try.ntmps7 rfl (Kn.start _) ?_
  (repeat' (first | (refine gG ?_; try intro _) | ((first | refine g_split rfl rfl tE (fun _ => ?_) (fun _ => ?_) | refine gk_cond rfl rfl tE (fun _ => ?_) (fun _ => ?_)) <;> (try first | (exfalso; omega; done) | (rename_i hx; exact absurd rfl hx) | (rename_i hx; cases hx; done)))))
  refine gk_ret hT rfl rfl (.tmp rfl (.tmp rfl .nil)) (fun w' hk => ?_)
  exact ⟨rfl, hk.toBelow⟩
theorem cnew_any (g : Nat) (most : Int) (w : World) :
    Calls Try.prog 7 [.pointer (some ⟨g, 0, none⟩), .int .i64 most].toArray w (Ret (fun q : Nat × Nat × Nat × Nat => (q.2.2.2 : Int) = min (max most 0) 4096) (fun q => .tuple #[.pointer (some ⟨q.1, 0, none⟩), .int .i64 0]) (fun q => [blk q.1 [.pointer (some ⟨g, 0, none⟩), .pointer (some ⟨q.2.1, 0, none⟩)] 76, lrF q.2.1 ⟨q.2.2.1, q.2.2.2, 0, 0, 0, []⟩]) w) := by
  refine g_enter0 T [] [] [] Try.func7 rfl Try.ntmps7 rfl (Kn.start _) ?_
  (repeat' (first | (refine gG ?_; try intro _) | ((first | refine g_split rfl rfl tE (fun _ => ?_) (fun _ => ?_) | refine gk_cond rfl rfl tE (fun _ => ?_) (fun _ => ?_)) <;> (try first | (exfalso; omega; done) | (rename_i hx; exact absurd rfl hx) | (rename_i hx; cases hx; done)))))
  refine g_mv rfl (mv_call_rt (fun w hk => lnew_any most w) rfl rfl rfl rfl rfl (by kernel_rfl) (fun _ => rfl) (fun q hq => ?_))
  obtain ⟨c, r, mo⟩ := q
  dsimp only
  (repeat (refine gG ?_; try intro _))
  rename_i x
  refine gk_ret hT rfl rfl (.tmp rfl (.tmp rfl .nil)) (fun w' hk => ?_)
  exact Ret.mk (x, c, r, mo) hq rfl hk sA
theorem ctold_any (x g c r mo now hit miss : Nat) (M : List Itm) (w : World) (hX : Rd1 w (blk x [.pointer (some ⟨g, 0, none⟩), .pointer (some ⟨c, 0, none⟩)] 76)) (hL : Rd1 w (lrF c ⟨r, mo, now, hit, miss, M⟩)) :
    Calls Try.prog 17 [.pointer (some ⟨x, 0, none⟩)].toArray w fun e w' => e = .returned (.tuple #[.int .i64 (hit : Nat), .int .i64 (miss : Nat)]) ∧ Below w.heap.size w w' := by
  refine g_enter0 T [] [] [blk x [.pointer (some ⟨g, 0, none⟩), .pointer (some ⟨c, 0, none⟩)] 76, lrF c ⟨r, mo, now, hit, miss, M⟩] Try.func17 rfl Try.ntmps17 rfl (Rds.cons hX (.cons hL .nil)).kn ?_
  refine gk_rowR (g := x) mE ?_
  (repeat' (first | (refine gG ?_; try intro _) | (refine g_mv rfl ?_; first | refine mv_call_bel (fun w hk => ltold_any c ⟨r, mo, now, hit, miss, M⟩ w (hk.rR (φ := lrF c ⟨r, mo, now, hit, miss, M⟩) mE)) rfl rfl rfl rfl rfl (by kernel_rfl) ?_) | ((first | refine g_split rfl rfl tE (fun _ => ?_) (fun _ => ?_) | refine gk_cond rfl rfl tE (fun _ => ?_) (fun _ => ?_)) <;> (try first | (exfalso; omega; done) | (rename_i hx; exact absurd rfl hx) | (rename_i hx; cases hx; done)))))
  refine gk_ret hT rfl rfl (.tmp rfl (.tmp rfl .nil)) (fun w' hk => ?_)
  exact ⟨rfl, hk.toBelow⟩
theorem cflush_any (x g c : Nat) (sv lv : Value) (S : List SecD) (W : List WrD) (w : World) (ho : DkOk S W) (hl : W.length ≤ 100000) (h : Rd1 w (packF [blk x [.pointer (some ⟨g, 0, none⟩), .pointer (some ⟨c, 0, none⟩)] 76, dkF g ⟨sv, lv, S, W⟩])) :
    Calls Try.prog 10 [.pointer (some ⟨x, 0, none⟩)].toArray w (RetM (packF [blk x [.pointer (some ⟨g, 0, none⟩), .pointer (some ⟨c, 0, none⟩)] 76, dkF g ⟨sv, lv, S, W⟩]) (fun q : Value × List SecD => (∀ d ∈ q.2, d.Ok) ∧ q.2.length = S.length ∧ q.2.map SecD.L = eachC (fun _ => true) 0 (W.map WrD.c) (S.map SecD.L)) (fun _ => .tuple #[]) (fun q => packF [blk x [.pointer (some ⟨g, 0, none⟩), .pointer (some ⟨c, 0, none⟩)] 76, dkF g ⟨q.1, .slice none 0 0, q.2, []⟩]) w) := by
  refine g_enter0 T (finE (packF [blk x [.pointer (some ⟨g, 0, none⟩), .pointer (some ⟨c, 0, none⟩)] 76, dkF g ⟨sv, lv, S, W⟩]) w) [blk x [.pointer (some ⟨g, 0, none⟩), .pointer (some ⟨c, 0, none⟩)] 76, dkF g ⟨sv, lv, S, W⟩] [] Try.func10 rfl Try.ntmps10 rfl (Kn.startP h (fun b hb => (finE_mem h.2 b).2 hb) (fun ψ hψ => by cases hψ)) ?_
  (repeat (refine gG ?_; try intro _))
  refine g_mv rfl (mv_call_mod (φ := dkF g ⟨sv, lv, S, W⟩) (ψ := fun q : Value × List SecD => dkF g ⟨q.1, .slice none 0 0, q.2, []⟩) (fun w1 hk => by exact dflush_any g sv lv S W w1 ho hl (hk.rO (φ := dkF g ⟨sv, lv, S, W⟩) mE)) rfl rfl rfl rfl rfl (by kernel_rfl) (by intro _; first | ((repeat (first | with_reducible exact Upd.here _ | with_reducible apply Upd.there)); done) | ((repeat (first | exact Upd.here _ | apply Upd.there)); done) | fail) (fun q hq => ?_))
  (repeat (refine gG ?_; try intro _))
  refine gk_fin hT rfl rfl .nil (fun w' hk => ?_)
  exact RetM.mkP (ll := fun q : Value × List SecD => [blk x [.pointer (some ⟨g, 0, none⟩), .pointer (some ⟨c, 0, none⟩)] 76, dkF g ⟨q.1, .slice none 0 0, q.2, []⟩]) q hq rfl hk (fun b hb => (finE_mem h.2 b).1 hb) sA
theorem ccrash_any (x g c r mo now hit miss : Nat) (M : List Itm) (sv lv : Value) (S : List SecD) (W : List WrD) (kA : Option Addr) (kn kc : Nat) (K : List Bool) (w : World) (ho : DkOk S W) (hl : W.length ≤ 100000) (hkn : kn = K.length) (h : Rd1 w (packF [blk x [.pointer (some ⟨g, 0, none⟩), .pointer (some ⟨c, 0, none⟩)] 76, lrF c ⟨r, mo, now, hit, miss, M⟩, dkF g ⟨sv, lv, S, W⟩])) (hK : Rd1 w (sl kA 1 BoE K)) (hKd : ∀ b, (packF [blk x [.pointer (some ⟨g, 0, none⟩), .pointer (some ⟨c, 0, none⟩)] 76, lrF c ⟨r, mo, now, hit, miss, M⟩, dkF g ⟨sv, lv, S, W⟩]).S b → ¬ (sl kA 1 BoE K).S b) :
    Calls Try.prog 12 [.pointer (some ⟨x, 0, none⟩), .slice kA kn kc].toArray w (RetM (packF [blk x [.pointer (some ⟨g, 0, none⟩), .pointer (some ⟨c, 0, none⟩)] 76, lrF c ⟨r, mo, now, hit, miss, M⟩, dkF g ⟨sv, lv, S, W⟩]) (fun q : Value × List SecD => (∀ d ∈ q.2, d.Ok) ∧ q.2.length = S.length ∧ q.2.map SecD.L = eachC (fun i => K.getD i false) 0 (W.map WrD.c) (S.map SecD.L)) (fun _ => .tuple #[]) (fun q => packF [blk x [.pointer (some ⟨g, 0, none⟩), .pointer (some ⟨c, 0, none⟩)] 76, lrF c ⟨r, mo, now, hit, miss, []⟩, dkF g ⟨q.1, .slice none 0 0, q.2, []⟩]) w) := by
  refine g_enter0 T (finE (packF [blk x [.pointer (some ⟨g, 0, none⟩), .pointer (some ⟨c, 0, none⟩)] 76, lrF c ⟨r, mo, now, hit, miss, M⟩, dkF g ⟨sv, lv, S, W⟩]) w) [blk x [.pointer (some ⟨g, 0, none⟩), .pointer (some ⟨c, 0, none⟩)] 76, lrF c ⟨r, mo, now, hit, miss, M⟩, dkF g ⟨sv, lv, S, W⟩] [sl kA 1 BoE K] Try.func12 rfl Try.ntmps12 rfl (Kn.startP h (fun b hb => (finE_mem h.2 b).2 hb) (fun ψ hψ => by obtain rfl := List.mem_singleton.1 hψ; exact ⟨hK, hKd⟩)) ?_
  (repeat (refine gG ?_; try intro _))
  refine g_mv rfl (mv_call_mod (φ := dkF g ⟨sv, lv, S, W⟩) (ψ := fun q : Value × List SecD => dkF g ⟨q.1, .slice none 0 0, q.2, []⟩) (fun w1 hk => by exact dcrash_any g sv lv S W kA kn kc K w1 ho hl hkn (hk.rO (φ := dkF g ⟨sv, lv, S, W⟩) mE) (hk.rR (φ := sl kA 1 BoE K) mE) (fun b hb => hk.disR (dkF g ⟨sv, lv, S, W⟩) mE (sl kA 1 BoE K) mE b hb)) rfl rfl rfl rfl rfl (by kernel_rfl) (by intro _; first | ((repeat (first | with_reducible exact Upd.here _ | with_reducible apply Upd.there)); done) | ((repeat (first | exact Upd.here _ | apply Upd.there)); done) | fail) (fun q hq => ?_))
  (repeat (refine gG ?_; try intro _))
  refine g_mv rfl (mv_call_mod (φ := lrF c ⟨r, mo, now, hit, miss, M⟩) (ψ := fun _ : Unit => lrF c ⟨r, mo, now, hit, miss, []⟩) (fun w1 hk => by exact lclear_any c r mo now hit miss M w1 (hk.rO (φ := lrF c ⟨r, mo, now, hit, miss, M⟩) mE)) rfl rfl rfl rfl rfl (by kernel_rfl) (by intro _; first | ((repeat (first | with_reducible exact Upd.here _ | with_reducible apply Upd.there)); done) | ((repeat (first | exact Upd.here _ | apply Upd.there)); done) | fail) (fun _ _ => ?_))
  (repeat (refine gG ?_; try intro _))
  refine gk_fin hT rfl rfl .nil (fun w' hk => ?_)
  exact RetM.mkP (ll := fun q : Value × List SecD => [blk x [.pointer (some ⟨g, 0, none⟩), .pointer (some ⟨c, 0, none⟩)] 76, lrF c ⟨r, mo, now, hit, miss, []⟩, dkF g ⟨q.1, .slice none 0 0, q.2, []⟩]) q hq rfl hk (fun b hb => (finE_mem h.2 b).1 hb) sA
theorem cwrite_bad (x g c : Nat) (sv lv : Value) (S : List SecD) (W : List WrD) (a : Int) (bA : Option Addr) (bn bc : Nat) (w : World) (ha : a < 0 ∨ (S.length : Int) ≤ a) (hX : Rd1 w (blk x [.pointer (some ⟨g, 0, none⟩), .pointer (some ⟨c, 0, none⟩)] 76)) (h : Rd1 w (dkF g ⟨sv, lv, S, W⟩)) :
    Calls Try.prog 8 [.pointer (some ⟨x, 0, none⟩), .int .i64 a, .slice bA bn bc].toArray w fun e w' => e = .returned (.int .i64 11) ∧ Below w.heap.size w w' := by
  refine g_enter0 T [] [] [blk x [.pointer (some ⟨g, 0, none⟩), .pointer (some ⟨c, 0, none⟩)] 76, dkF g ⟨sv, lv, S, W⟩] Try.func8 rfl Try.ntmps8 rfl (Rds.cons hX (.cons h .nil)).kn ?_
  refine gk_rowR (g := x) mE ?_
  (repeat' (first | (refine gG ?_; try intro _) | (refine g_mv rfl ?_; first | refine mv_call_bel (fun w hk => dwrite_bad g sv lv S W a bA bn bc w ha (hk.rR (φ := dkF g ⟨sv, lv, S, W⟩) mE)) rfl rfl rfl rfl rfl (by kernel_rfl) ?_) | ((first | refine g_split rfl rfl tE (fun _ => ?_) (fun _ => ?_) | refine gk_cond rfl rfl tE (fun _ => ?_) (fun _ => ?_)) <;> (try first | (exfalso; omega; done) | (rename_i hx; exact absurd rfl hx) | (rename_i hx; cases hx; done)))))
  refine gk_ret hT rfl rfl (.tmp rfl .nil) (fun w' hk => ?_)
  exact ⟨rfl, hk.toBelow⟩
theorem cwrite_any (x g c r mo now hit miss : Nat) (M : List Itm) (sv lv : Value) (S : List SecD) (W : List WrD) (a : Nat) (bA : Option Addr) (bn bc : Nat) (B : List Int) (w : World) (ho : DkOk S W) (hl : W.length ≤ 100000) (ha : a < S.length) (hbn : bn = B.length) (hB : SecOk B) (h : Rd1 w (packF [blk x [.pointer (some ⟨g, 0, none⟩), .pointer (some ⟨c, 0, none⟩)] 76, lrF c ⟨r, mo, now, hit, miss, M⟩, dkF g ⟨sv, lv, S, W⟩])) (hb : Rd1 w (sl bA 1 (IE .u8) B)) (hbd : ∀ b, (packF [blk x [.pointer (some ⟨g, 0, none⟩), .pointer (some ⟨c, 0, none⟩)] 76, lrF c ⟨r, mo, now, hit, miss, M⟩, dkF g ⟨sv, lv, S, W⟩]).S b → ¬ (sl bA 1 (IE .u8) B).S b) :
    Calls Try.prog 8 [.pointer (some ⟨x, 0, none⟩), .int .i64 (a : Nat), .slice bA bn bc].toArray w (RetM (packF [blk x [.pointer (some ⟨g, 0, none⟩), .pointer (some ⟨c, 0, none⟩)] 76, lrF c ⟨r, mo, now, hit, miss, M⟩, dkF g ⟨sv, lv, S, W⟩]) (fun q : Value × SecD => q.2.Ok ∧ q.2.L = B) (fun _ => .int .i64 0) (fun q => packF [blk x [.pointer (some ⟨g, 0, none⟩), .pointer (some ⟨c, 0, none⟩)] 76, lrF c ⟨r, mo, now, hit, miss, delI a M⟩, dkF g ⟨sv, q.1, S, W ++ [(⟨a, q.2⟩ : WrD)]⟩]) w) := by
  refine g_enter0 T (finE (packF [blk x [.pointer (some ⟨g, 0, none⟩), .pointer (some ⟨c, 0, none⟩)] 76, lrF c ⟨r, mo, now, hit, miss, M⟩, dkF g ⟨sv, lv, S, W⟩]) w) [blk x [.pointer (some ⟨g, 0, none⟩), .pointer (some ⟨c, 0, none⟩)] 76, lrF c ⟨r, mo, now, hit, miss, M⟩, dkF g ⟨sv, lv, S, W⟩] [sl bA 1 (IE .u8) B] Try.func8 rfl Try.ntmps8 rfl (Kn.startP h (fun b hb => (finE_mem h.2 b).2 hb) (fun ψ hψ => by obtain rfl := List.mem_singleton.1 hψ; exact ⟨hb, hbd⟩)) ?_
  (repeat (refine gG ?_; try intro _))
  refine g_mv rfl (mv_call_mod (φ := dkF g ⟨sv, lv, S, W⟩) (ψ := fun q : Value × SecD => dkF g ⟨sv, q.1, S, W ++ [(⟨a, q.2⟩ : WrD)]⟩) (fun w1 hk => by exact dwrite_any g sv lv S W a bA bn bc B w1 ho hl ha hbn hB (hk.rO (φ := dkF g ⟨sv, lv, S, W⟩) mE) (hk.rR (φ := sl bA 1 (IE .u8) B) mE) (fun b hb => hk.disR (dkF g ⟨sv, lv, S, W⟩) mE (sl bA 1 (IE .u8) B) mE b hb)) rfl rfl rfl rfl rfl (by kernel_rfl) (by intro _; first | ((repeat (first | with_reducible exact Upd.here _ | with_reducible apply Upd.there)); done) | ((repeat (first | exact Upd.here _ | apply Upd.there)); done) | fail) (fun q hq => ?_))
  (repeat' (first | (refine gG ?_; try intro _) | ((first | refine g_split rfl rfl tE (fun _ => ?_) (fun _ => ?_) | refine gk_cond rfl rfl tE (fun _ => ?_) (fun _ => ?_)) <;> (try first | (exfalso; omega; done) | (rename_i hx; exact absurd rfl hx) | (rename_i hx; cases hx; done)))))
  refine g_mv rfl (mv_call_mod (φ := lrF c ⟨r, mo, now, hit, miss, M⟩) (ψ := fun _ : Unit => lrF c ⟨r, mo, now, hit, miss, delI a M⟩) (fun w1 hk => by exact drop_any c r mo now hit miss M a w1 (hk.rO (φ := lrF c ⟨r, mo, now, hit, miss, M⟩) mE)) rfl rfl rfl rfl rfl (by kernel_rfl) (by intro _; first | ((repeat (first | with_reducible exact Upd.here _ | with_reducible apply Upd.there)); done) | ((repeat (first | exact Upd.here _ | apply Upd.there)); done) | fail) (fun _ _ => ?_))
  (repeat' (first | (refine gG ?_; try intro _) | ((first | refine g_split rfl rfl tE (fun _ => ?_) (fun _ => ?_) | refine gk_cond rfl rfl tE (fun _ => ?_) (fun _ => ?_)) <;> (try first | (exfalso; omega; done) | (rename_i hx; exact absurd rfl hx) | (rename_i hx; cases hx; done)))))
  refine gk_ret hT rfl rfl (.tmp rfl .nil) (fun w' hk => ?_)
  exact RetM.mkP (ll := fun q : Value × SecD => [blk x [.pointer (some ⟨g, 0, none⟩), .pointer (some ⟨c, 0, none⟩)] 76, lrF c ⟨r, mo, now, hit, miss, delI a M⟩, dkF g ⟨sv, q.1, S, W ++ [(⟨a, q.2⟩ : WrD)]⟩]) q hq rfl hk (fun b hb => (finE_mem h.2 b).1 hb) sA
end Go.Proofs.Ytajbjbhlpcmddaa.Dk

