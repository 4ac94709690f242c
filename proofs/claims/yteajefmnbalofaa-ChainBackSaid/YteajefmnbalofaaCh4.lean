/- Law 36's Made; law 37's alive. -/
import Derived.Test.YteajefmnbalofaaCh3
namespace Go.Proofs.Yteajefmnbalofaa.Ch
open Go.RowKit Mem Gx Bytes Dk Al Rf Hp
set_option linter.unusedVariables false
set_option linter.unusedSimpArgs false
set_option maxRecDepth 100000
set_option maxHeartbeats 4000000
structure MdR where
  g : Nat
  sv : Value
  S : List SecD
  pa : Nat
  D : AlD
structure MdOk (n : Nat) (q : MdR) : Prop where
  d : DkOk q.S []
  l : q.S.length = 100
  a : AlI n q.D ⟨iota n, [], [], []⟩
  z : q.S.map SecD.L = List.replicate 100 zsec
theorem made_any (n : Nat) (w : World) (hn : n ≤ 4096) : Calls Try.prog 21 [.int .i64 (n : Nat)].toArray w (Ret (MdOk n) (fun q => .tuple #[.agg #[.pointer (some ⟨q.g, 0, none⟩), .int .i64 ((4 : Nat) : Int)], .pointer (some ⟨q.pa, 0, none⟩), .bool true]) (fun q => [dkF q.g ⟨q.sv, .slice none 0 0, q.S, []⟩, alF q.pa n q.D ⟨iota n, [], [], []⟩]) w) := by
  refine g_enter0 T [] [] [] Try.func21 rfl Try.ntmps21 rfl (Kn.start _) ?_
  (repeat (refine gG ?_; try intro _))
  rename_i g2
  refine g_mv rfl ?_; refine mv_call_rt (fun w hk => dnew_any 100 (by decide) (by decide) w) rfl rfl rfl rfl rfl (by kernel_rfl) (fun _ => rfl) (fun q hq => ?_)
  obtain ⟨g, sv, S⟩ := q
  obtain ⟨hS, hSm⟩ := hq
  have hSl : S.length = 100 := by have := congrArg List.length hSm; simpa using this
  dsimp only at *
  (repeat (refine gG ?_; try intro _))
  refine g_mv rfl ?_; refine mv_call_rt (fun w hk => anew_any n w hn) rfl rfl rfl rfl rfl (by kernel_rfl) (fun _ => rfl) (fun q hq => ?_)
  obtain ⟨pa, D⟩ := q
  dsimp only at hq ⊢
  (repeat' (first | (refine gG ?_; try intro _) | ((first | refine g_split rfl rfl tE (fun _ => ?_) (fun _ => ?_) | refine gk_cond rfl rfl tE (fun _ => ?_) (fun _ => ?_)) <;> (try first | (exfalso; omega; done) | (rename_i hx; exact absurd rfl hx) | (rename_i hx; cases hx; done)))))
  refine gk_ret hT rfl rfl (.cell rfl mE rfl rfl (.tmp rfl (.tmp rfl .nil))) (fun w' hk => ?_)
  refine Ret.mk (⟨g, sv, S, pa, D⟩ : MdR) ⟨⟨hS, (fun x h => by cases h), by dsimp only; omega⟩, hSl, hq, hSm⟩ ?_ hk sA
  first | rfl | (simp [resVal, tB_eq]; done)
theorem sl_blk {w : World} {g T : Nat} {cs : List Value} {k : IntKind} {M : List Int} (h : (blk g cs T).p w) (he : cs = flatF 1 (IE k) M) : Sl w (some ⟨g, 0, none⟩) 1 (IE k) M := (der_blk (T := T) (g := g) he).1 w (fun φ hφ => by obtain rfl := List.mem_singleton.1 hφ; exact h)
theorem calls_b {P : Program} {fid : FuncId} {args : Array Value} {w : World} {b c : Bool} (hb : b = c) (h : Calls P fid args w fun e w' => e = .returned (.bool b) ∧ Below w.heap.size w w') : Calls P fid args w fun e w' => e = .returned (.bool c) ∧ Below w.heap.size w w' := by rwa [hb] at h
theorem iota_get {n j : Nat} (h : j < n) : (iota n)[j]? = some ((j : Int) + 1) := by
  unfold iota
  rw [List.getElem?_map, List.getElem?_range h]
  rfl
theorem alive37 (w : World) : Calls Try.prog 26 [].toArray w fun e w' => e = .returned (.bool true) ∧ Below w.heap.size w w' := by
  refine g_enter0 T [] [] [] Try.func26 rfl Try.ntmps26 rfl (Kn.start _) ?_
  (repeat (refine gG ?_; try intro _))
  refine g_mv rfl ?_; refine mv_call_rt (fun w hk => made_any 9 w (by decide)) rfl rfl rfl rfl rfl (by kernel_rfl) (fun _ => rfl) (fun q hq => ?_)
  obtain ⟨g, sv, S, pa, D⟩ := q
  obtain ⟨hD, hSl, ha, _⟩ := hq
  dsimp only at hD hSl ha ⊢
  (repeat' (first | (refine gG ?_; try intro _) | ((first | refine g_split rfl rfl tE (fun _ => ?_) (fun _ => ?_) | refine gk_cond rfl rfl tE (fun _ => ?_) (fun _ => ?_)) <;> (try first | (exfalso; omega; done) | (rename_i hx; exact absurd rfl hx) | (rename_i hx; cases hx; done)))))
  refine g_der [] (φ := sl none 1 (IE .u8) ([] : List Int)) Dk.der_nil sS ?_
  rename_i g1
  refine g_pack [alF pa 9 D (⟨iota 9, [], [], []⟩ : AlS), dkF g ⟨sv, .slice none 0 0, S, []⟩] [blk g1 [.pointer (some ⟨g, 0, none⟩), .int .i64 ((4 : Nat) : Int)] 56] sA ?_
  refine g_mv rfl (mv_call_mod (φ := packF [alF pa 9 D (⟨iota 9, [], [], []⟩ : AlS), dkF g ⟨sv, .slice none 0 0, S, []⟩]) (ψ := fun q : SvR => packF [alF pa 9 q.D (takeS (⟨iota 9, [], [], []⟩ : AlS) 0), dkF g ⟨sv, q.lv, S, q.W⟩, sl q.A 1 (IE .u32) (((⟨iota 9, [], [], []⟩ : AlS)).S.take 0)]) (fun w hk => by exact csave_any none 0 0 [] pa 9 D (⟨iota 9, [], [], []⟩ : AlS) g 4 0 sv (.slice none 0 0) S [] w rfl (Nat.le_refl _) (by decide) IsB.nil (by decide) ha (by decide) (by omega) (by decide) rfl (Nat.zero_le _) hD (by decide) (hk.rR (φ := sl none 1 (IE .u8) ([] : List Int)) mE) (fun b hb => hk.disR _ mE (sl none 1 (IE .u8) ([] : List Int)) mE b hb) (hk.rO (φ := packF [alF pa 9 D (⟨iota 9, [], [], []⟩ : AlS), dkF g ⟨sv, .slice none 0 0, S, []⟩]) mE)) rfl rfl rfl rfl rfl (by kernel_rfl) (by intro _; first | ((repeat (first | with_reducible exact Upd.here _ | with_reducible apply Upd.there)); done) | ((repeat (first | exact Upd.here _ | apply Upd.there)); done) | fail) (fun q hq => ?_))
  obtain ⟨D1, lv1, W1, A1, c1⟩ := q
  obtain ⟨hI1, hV1, _⟩ := hq
  rw [take_0] at hI1
  dsimp only at hI1 hV1 ⊢
  rw [take_0]
  refine g_unpack (l := [alF pa 9 D1 (⟨iota 9, [], [], []⟩ : AlS), dkF g ⟨sv, lv1, S, W1⟩, sl A1 1 (IE .u32) (((⟨iota 9, [], [], []⟩ : AlS)).S.take 0)]) (by repeat (first | with_reducible exact Sel.here | with_reducible apply Sel.there)) ?_
  (repeat (refine gG ?_; try intro _))
  rename_i g2
  refine g_derO [blk g2 [.int .u8 7] 5] [alF pa 9 D1 (⟨iota 9, [], [], []⟩ : AlS), dkF g ⟨sv, lv1, S, W1⟩, blk g1 [.pointer (some ⟨g, 0, none⟩), .int .i64 ((4 : Nat) : Int)] 56] (φ := sl (some ⟨g2, 0, none⟩) 1 (IE .u8) ([7] : List Int)) (der_blk rfl) sA ?_
  refine g_share (φ := sl (some ⟨g2, 0, none⟩) 1 (IE .u8) ([7] : List Int)) (by repeat (first | with_reducible exact Sel.here | with_reducible apply Sel.there)) ?_
  refine g_pack [alF pa 9 D1 (⟨iota 9, [], [], []⟩ : AlS), dkF g ⟨sv, lv1, S, W1⟩] [blk g1 [.pointer (some ⟨g, 0, none⟩), .int .i64 ((4 : Nat) : Int)] 56] sA ?_
  have hB7 : IsB ([7] : List Int) := IsB.cons (by omega) IsB.nil
  have hn1 : W1.length ≤ 0 := hV1.n
  refine g_mv rfl (mv_call_mod (φ := packF [alF pa 9 D1 (⟨iota 9, [], [], []⟩ : AlS), dkF g ⟨sv, lv1, S, W1⟩]) (ψ := fun q : SvR => packF [alF pa 9 q.D (takeS (⟨iota 9, [], [], []⟩ : AlS) 1), dkF g ⟨sv, q.lv, S, q.W⟩, sl q.A 1 (IE .u32) (((⟨iota 9, [], [], []⟩ : AlS)).S.take 1)]) (fun w hk => by exact csave_any (some ⟨g2, 0, none⟩) 1 1 [7] pa 9 D1 (⟨iota 9, [], [], []⟩ : AlS) g 4 1 sv lv1 S W1 w rfl (Nat.le_refl _) (by decide) hB7 (by decide) hI1 (by decide) (by omega) (by decide) rfl (by decide) hV1.d (by omega) (hk.rR (φ := sl (some ⟨g2, 0, none⟩) 1 (IE .u8) ([7] : List Int)) mE) (fun b hb => hk.disR _ mE (sl (some ⟨g2, 0, none⟩) 1 (IE .u8) ([7] : List Int)) mE b hb) (hk.rO (φ := packF [alF pa 9 D1 (⟨iota 9, [], [], []⟩ : AlS), dkF g ⟨sv, lv1, S, W1⟩]) mE)) rfl rfl rfl rfl rfl (by kernel_rfl) (by intro _; first | ((repeat (first | with_reducible exact Upd.here _ | with_reducible apply Upd.there)); done) | ((repeat (first | exact Upd.here _ | apply Upd.there)); done) | fail) (fun q hq => ?_))
  obtain ⟨D2, lv2, W2, A2, c2⟩ := q
  obtain ⟨hI2, hV2, k1, k2, k3, k4⟩ := hq
  dsimp only at hI2 hV2 k1 k2 k3 k4 ⊢
  refine g_unpack (l := [alF pa 9 D2 (takeS (⟨iota 9, [], [], []⟩ : AlS) 1), dkF g ⟨sv, lv2, S, W2⟩, sl A2 1 (IE .u32) ((iota 9).take 1)]) (by repeat (first | with_reducible exact Sel.here | with_reducible apply Sel.there)) ?_
  dsimp only [List.cons_append, List.nil_append]
  refine g_share (φ := sl A2 1 (IE .u32) ((iota 9).take 1)) (by repeat (first | with_reducible exact Sel.here | with_reducible apply Sel.there)) ?_
  have hn2 : W2.length ≤ W1.length + 1 := hV2.n
  have hl9 : ((iota 9).take 1) = [1] := by decide
  have hld := fun w h => cload_any [7] ((iota 9).take 1) g 4 sv lv2 S W2 w hB7 (by decide) (by decide) hV2.d (by omega) (by decide) (by decide) (fun x hx => by rw [hl9] at hx; obtain rfl := List.mem_singleton.1 hx; omega) (fun j x hj hx => hV2.rd j x (by rw [hl9] at hj; exact hj) hx) h
  rw [show atC ((iota 9).take 1) 0 = 1 by decide] at hld
  (repeat (refine gG ?_; try intro _))
  refine g_mv rfl ?_; refine mv_call_rt (fun w hk => hld w (hk.rO (φ := dkF g ⟨sv, lv2, S, W2⟩) mE)) rfl rfl rfl rfl rfl (by kernel_rfl) (fun _ => rfl) (fun r hr => ?_)
  obtain ⟨oA, oc, lA, lc⟩ := r
  obtain ⟨⟨r1, r2, r3, r4⟩, ⟨t1, t2, t3, t4⟩⟩ := hr
  dsimp only at r1 r2 r3 r4 t1 t2 t3 t4 ⊢
  (repeat' (first | (refine gG ?_; try intro _) | ((first | refine g_split rfl rfl tE (fun _ => ?_) (fun _ => ?_) | refine gk_cond rfl rfl tE (fun _ => ?_) (fun _ => ?_)) <;> (try first | (exfalso; omega; done) | (rename_i hx; exact absurd rfl hx) | (rename_i hx; cases hx; done)))))
  rename_i g3
  (repeat' (first | (refine gG ?_; try intro _) | (refine g_mv rfl ?_; first | refine mv_call_bel (fun w hk => calls_b (tB_true (by decide)) (equal_U A2 (some ⟨g3, 0, none⟩) 1 c2 1 1 ((iota 9).take 1) [1] w rfl rfl (by decide) (hk.pR (sl A2 1 (IE .u32) ((iota 9).take 1)) mE) (sl_blk (hk.pO (blk g3 [.int .u32 1] 60) mE) rfl))) rfl rfl rfl rfl rfl (by kernel_rfl) ?_) | ((first | refine g_split rfl rfl tE (fun _ => ?_) (fun _ => ?_) | refine gk_cond rfl rfl tE (fun _ => ?_) (fun _ => ?_)) <;> (try first | (exfalso; omega; done) | (rename_i hx; exact absurd rfl hx) | (rename_i hx; cases hx; done)))))
  rename_i g4
  (repeat' (first | (refine gG ?_; try intro _) | (refine g_mv rfl ?_; first | refine mv_call_bel (fun w hk => calls_b (tB_true rfl) (bequal_any oA (some ⟨g4, 0, none⟩) 1 oc 1 1 [7] [7] w rfl rfl (hk.pO (sl oA 1 (IE .u8) ([7] : List Int)) mE) (sl_blk (hk.pO (blk g4 [.int .u8 7] 5) mE) rfl) hB7 hB7)) rfl rfl rfl rfl rfl (by kernel_rfl) ?_ | refine mv_call_bel (fun w hk => calls_b (tB_true rfl) (equal_U lA A2 1 lc 1 c2 ((iota 9).take 1) ((iota 9).take 1) w rfl rfl (by decide) (hk.pO (sl lA 1 (IE .u32) ((iota 9).take 1)) mE) (hk.pR (sl A2 1 (IE .u32) ((iota 9).take 1)) mE))) rfl rfl rfl rfl rfl (by kernel_rfl) ?_) | ((first | refine g_split rfl rfl tE (fun _ => ?_) (fun _ => ?_) | refine gk_cond rfl rfl tE (fun _ => ?_) (fun _ => ?_)) <;> (try first | (exfalso; omega; done) | (rename_i hx; exact absurd rfl hx) | (rename_i hx; cases hx; done)))))
  refine g_say 67 (.bool true) rfl (congrArg Value.bool (tB_true rfl)) ?_
  (repeat' (first | (refine gG ?_; try intro _) | (refine g_mv rfl ?_; first | refine mv_call_bel (fun w hk => blocks_any 117 (by decide) w) rfl rfl rfl rfl rfl (by kernel_rfl) ?_) | ((first | refine g_split rfl rfl tE (fun _ => ?_) (fun _ => ?_) | refine gk_cond rfl rfl tE (fun _ => ?_) (fun _ => ?_)) <;> (try first | (exfalso; omega; done) | (rename_i hx; exact absurd rfl hx) | (rename_i hx; cases hx; done)))))
  all_goals (refine gk_ret hT rfl rfl (.tmp rfl .nil) (fun w' hk => ?_); exact ⟨ret_bool (by simp [tB_eq, chN]), hk.toBelow⟩)
end Go.Proofs.Yteajefmnbalofaa.Ch

