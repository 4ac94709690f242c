/- Law 37: what was saved is loaded as it was. -/
import Derived.Test.YteajefmnbalofaaCh4
namespace Go.Proofs.Yteajefmnbalofaa.Ch
open Go.RowKit Mem Gx Bytes Dk Al Rf Hp
set_option linter.unusedVariables false
set_option linter.unusedSimpArgs false
set_option maxRecDepth 100000
set_option maxHeartbeats 8000000
theorem st_len (n t : Nat) : ((takeS (⟨iota n, [], [], []⟩ : AlS) t)).S.length = n - t := by
  show ((iota n).drop t).length = n - t
  rw [List.length_drop, iota_len]
theorem st_get {n t i : Nat} (h : i < n - t) : ((takeS (⟨iota n, [], [], []⟩ : AlS) t)).S[i]? = some (((t + i + 1 : Nat) : Int)) := by
  show ((iota n).drop t)[i]? = _
  rw [List.getElem?_drop, iota_get (by omega)]
  rfl
theorem chainBack_any (bA : Option Addr) (bn bc : Nat) (B : List Int) (a1 a2 : Int) (w : World) (hbn : (SlV.mk bA bn bc).Ok B.length) (hB : IsB B) (hb : Rd1 w ((sl bA 1 (IE .u8) B))) :
    Calls Try.prog 5 [.slice bA bn bc, .int .i64 a1, .int .i64 a2].toArray w fun e w' => e = .returned (.bool true) ∧ Below w.heap.size w w' := by
  obtain ⟨hb1, hb2, hb3, hb4⟩ := hbn
  dsimp only at hb1 hb2 hb3 hb4
  subst hb1
  refine g_enter0 T [] [] [(sl bA 1 (IE .u8) B)] Try.func5 rfl Try.ntmps5 rfl (Rds.cons hb .nil).kn ?_
  by_cases hbad : 1000 < B.length ∨ a1 < 0 ∨ 20 < a1 ∨ a2 < 0 ∨ a1 < a2
  · (repeat' (first | (refine gG ?_; try intro _) | ((first | refine g_split rfl rfl tE (fun _ => ?_) (fun _ => ?_) | refine gk_cond rfl rfl tE (fun _ => ?_) (fun _ => ?_)) <;> (try first | (exfalso; omega; done) | (rename_i hx; exact absurd rfl hx) | (rename_i hx; cases hx; done)))))
    all_goals first | (exfalso; omega) | (refine gk_ret hT rfl rfl (.tmp rfl .nil) (fun w' hk => ?_); exact ⟨rfl, hk.toBelow⟩)
  obtain ⟨n, rfl⟩ := Int.eq_ofNat_of_zero_le (a := a1) (by omega)
  obtain ⟨t, rfl⟩ := Int.eq_ofNat_of_zero_le (a := a2) (by omega)
  have hcn : chN B.length ≤ 9 := by unfold chN; omega
  (repeat' (first | (refine gG ?_; try intro _) | ((first | refine g_split rfl rfl tE (fun _ => ?_) (fun _ => ?_) | refine gk_cond rfl rfl tE (fun _ => ?_) (fun _ => ?_)) <;> (try first | (exfalso; omega; done) | (rename_i hx; exact absurd rfl hx) | (rename_i hx; cases hx; done)))))
  refine g_mv rfl ?_; refine mv_call_rt (fun w hk => made_any n w (by omega)) rfl rfl rfl rfl rfl (by kernel_rfl) (fun _ => rfl) (fun q hq => ?_)
  obtain ⟨g, sv, S, pa, D⟩ := q
  obtain ⟨hD, hSl, ha, _⟩ := hq
  dsimp only at hD hSl ha ⊢
  (repeat' (first | (refine gG ?_; try intro _) | ((first | refine g_split rfl rfl tE (fun _ => ?_) (fun _ => ?_) | refine gk_cond rfl rfl tE (fun _ => ?_) (fun _ => ?_)) <;> (try first | (exfalso; omega; done) | (rename_i hx; exact absurd rfl hx) | (rename_i hx; cases hx; done)))))
  rename_i b7
  refine gk_loop_sel (fun (q : Nat × AlD) => match q with | (i, D1) => (i ≤ t ∧ AlI n D1 (takeS (⟨iota n, [], [], []⟩ : AlS) i))) (fun (q : Nat × AlD) => match q with | (i, D1) => [(0, .slice bA B.length bc), (1, .int .i64 (n : Nat)), (2, .int .i64 (t : Nat)), (7, .pointer (some ⟨b7, 0, none⟩)), (8, .pointer (some ⟨pa, 0, none⟩)), (10, .int .i64 (i : Nat))]) (fun (q : Nat × AlD) => match q with | (i, D1) => [blk b7 [.pointer (some ⟨g, 0, none⟩), .int .i64 ((4 : Nat) : Int)] 56, dkF g ⟨sv, .slice none 0 0, S, []⟩, alF pa n D1 (takeS (⟨iota n, [], [], []⟩ : AlS) i)]) (fun (q : Nat × AlD) => match q with | (i, D1) => [(sl bA 1 (IE .u8) B)]) (fun (q : Nat × AlD) => match q with | (i, D1) => t - i) (0, D) rfl ⟨Nat.zero_le _, by rw [take_0]; exact ha⟩ (by repeat (first | exact trivial | refine ⟨rfl, ?_⟩)) sA sS ?_
  rintro ⟨i, D1⟩ hI
  replace hI : (i ≤ t ∧ AlI n D1 (takeS (⟨iota n, [], [], []⟩ : AlS) i)) := hI
  change GK _ _ [(0, .slice bA B.length bc), (1, .int .i64 (n : Nat)), (2, .int .i64 (t : Nat)), (7, .pointer (some ⟨b7, 0, none⟩)), (8, .pointer (some ⟨pa, 0, none⟩)), (10, .int .i64 (i : Nat))] [blk b7 [.pointer (some ⟨g, 0, none⟩), .int .i64 ((4 : Nat) : Int)] 56, dkF g ⟨sv, .slice none 0 0, S, []⟩, alF pa n D1 (takeS (⟨iota n, [], [], []⟩ : AlS) i)] [(sl bA 1 (IE .u8) B)]
  obtain ⟨hi, hI⟩ := hI
  by_cases hlt : i < t
  · have hx : (iota n)[i]? = some ((i : Int) + 1) := iota_get (by omega)
    have hts := take_step (s := (⟨iota n, [], [], []⟩ : AlS)) hx
    have htl : (takeS (⟨iota n, [], [], []⟩ : AlS) i).l.length < 1000 := by show ([] ++ (iota n).take i).length < 1000; rw [List.nil_append, List.length_take]; omega
    (repeat' (first | (refine gG ?_; try intro _) | ((first | refine g_split rfl rfl tE (fun _ => ?_) (fun _ => ?_) | refine gk_cond rfl rfl tE (fun _ => ?_) (fun _ => ?_)) <;> (try first | (exfalso; omega; done) | (rename_i hx; exact absurd rfl hx) | (rename_i hx; cases hx; done)))))
    refine g_mv rfl (mv_call_mod (φ := alF pa n D1 (takeS (⟨iota n, [], [], []⟩ : AlS) i)) (ψ := fun r : AlD × AlS × Int × Int => alF pa n r.1 r.2.1) (fun w1 hk => by exact atake_any pa n D1 (takeS (⟨iota n, [], [], []⟩ : AlS) i) w1 htl hI (hk.rO (φ := alF pa n D1 (takeS (⟨iota n, [], [], []⟩ : AlS) i)) mE)) rfl rfl rfl rfl rfl (by kernel_rfl) (by intro _; first | ((repeat (first | with_reducible exact Upd.here _ | with_reducible apply Upd.there)); done) | ((repeat (first | exact Upd.here _ | apply Upd.there)); done) | fail) (fun r hr => ?_))
    obtain ⟨D2, s2, y, e⟩ := r
    obtain ⟨hI2, hr2⟩ := hr
    dsimp only at hI2 hr2
    rw [hts] at hr2
    obtain ⟨rfl, _, _⟩ : s2 = takeS (⟨iota n, [], [], []⟩ : AlS) (i + 1) ∧ True ∧ True := by injection hr2 with h1 h2; exact ⟨h1, trivial, trivial⟩
    dsimp only
    (repeat (refine gG ?_; try intro _))
    refine gk_again_sel rfl (i + 1, D2) ⟨hlt, hI2⟩ (by dsimp only; omega) (by repeat (first | exact trivial | refine ⟨rfl, ?_⟩)) sA sS
  obtain rfl : t = i := by omega
  apply joinR (fun _ : Unit => True) (fun _ => [(0, .slice bA B.length bc), (1, .int .i64 (n : Nat)), (2, .int .i64 (t : Nat)), (7, .pointer (some ⟨b7, 0, none⟩)), (8, .pointer (some ⟨pa, 0, none⟩)), (11, .int .i64 (chN B.length : Nat)), (64, .slice bA B.length bc), (65, .pointer (some ⟨pa, 0, none⟩)), (66, .agg #[.pointer (some ⟨g, 0, none⟩), .int .i64 ((4 : Nat) : Int)])]) (fun _ => [blk b7 [.pointer (some ⟨g, 0, none⟩), .int .i64 ((4 : Nat) : Int)] 56, dkF g ⟨sv, .slice none 0 0, S, []⟩, alF pa n D1 (takeS (⟨iota n, [], [], []⟩ : AlS) t)]) (fun _ => [(sl bA 1 (IE .u8) B)])
  case r =>
    intro J
    by_cases hr : 0 < B.length % 116
    · (repeat' (first | (refine gG ?_; try intro _) | ((first | refine g_split rfl rfl tE (fun _ => ?_) (fun _ => ?_) | refine gk_cond rfl rfl tE (fun _ => ?_) (fun _ => ?_)) <;> (try first | (exfalso; omega; done) | (rename_i hx; exact absurd rfl hx) | (rename_i hx; cases hx; done)))))
      refine g_say 11 (.int .i64 (chN B.length : Nat)) rfl (by congr 1; unfold chN; omega) ?_
      have hJ := J.out () trivial
      refine g_wk (by repeat (first | exact trivial | refine ⟨rfl, ?_⟩)) sA sS hJ
    · (repeat' (first | (refine gG ?_; try intro _) | ((first | refine g_split rfl rfl tE (fun _ => ?_) (fun _ => ?_) | refine gk_cond rfl rfl tE (fun _ => ?_) (fun _ => ?_)) <;> (try first | (exfalso; omega; done) | (rename_i hx; exact absurd rfl hx) | (rename_i hx; cases hx; done)))))
      refine g_say 11 (.int .i64 (chN B.length : Nat)) rfl (by congr 1; unfold chN; omega) ?_
      have hJ := J.out () trivial
      refine g_wk (by repeat (first | exact trivial | refine ⟨rfl, ?_⟩)) sA sS hJ
  case g =>
    rintro ⟨⟩ -
    have hIp := hI.p
    have hsl := st_len n t
    have hget := fun (i : Nat) (h : i < n - t) => st_get (n := n) (t := t) h
    have haf := fun w h => afree_any pa n D1 (takeS (⟨iota n, [], [], []⟩ : AlS) t) w hI h
    rw [hsl] at haf
    have hbl := fun w => blocks_any B.length (by omega) w
    obtain ⟨N, hNe⟩ : ∃ N, N = chN B.length := ⟨_, rfl⟩
    rw [← hNe] at hcn hbl ⊢
    by_cases hfull : n - t < N
    · (repeat' (first | (refine gG ?_; try intro _) | (refine g_mv rfl ?_; first | refine mv_call_bel (fun w hk => csave_full bA B.length bc B pa n D1 (takeS (⟨iota n, [], [], []⟩ : AlS) t) (.agg #[.pointer (some ⟨g, 0, none⟩), .int .i64 ((4 : Nat) : Int)]) w rfl (by omega) hI (by omega) (hk.rO (φ := alF pa n D1 (takeS (⟨iota n, [], [], []⟩ : AlS) t)) mE) ⟨_, _, rfl⟩) rfl rfl rfl rfl rfl (by kernel_rfl) ?_ | refine mv_call_bel (fun w hk => hbl w) rfl rfl rfl rfl rfl (by kernel_rfl) ?_ | refine mv_call_bel (fun w hk => blocks_neg w) rfl rfl rfl rfl rfl (by kernel_rfl) ?_ | refine mv_call_bel (fun w hk => haf w (hk.rO (φ := alF pa n D1 (takeS (⟨iota n, [], [], []⟩ : AlS) t)) mE)) rfl rfl rfl rfl rfl (by kernel_rfl) ?_ | refine mv_call_bel (fun w hk => alive37 w) rfl rfl rfl rfl rfl (by kernel_rfl) ?_) | ((first | refine g_split rfl rfl tE (fun _ => ?_) (fun _ => ?_) | refine gk_cond rfl rfl tE (fun _ => ?_) (fun _ => ?_)) <;> (try first | (exfalso; omega; done) | (rename_i hx; exact absurd rfl hx) | (rename_i hx; cases hx; done)))))
      all_goals (refine gk_ret hT rfl rfl (.tmp rfl .nil) (fun w' hk => ?_); exact ⟨ret_bool (by simp [tB_eq] <;> omega), hk.toBelow⟩)
    refine g_pack [alF pa n D1 (takeS (⟨iota n, [], [], []⟩ : AlS) t), dkF g ⟨sv, .slice none 0 0, S, []⟩] [blk b7 [.pointer (some ⟨g, 0, none⟩), .int .i64 ((4 : Nat) : Int)] 56] sA ?_
    refine g_mv rfl (mv_call_mod (φ := packF [alF pa n D1 (takeS (⟨iota n, [], [], []⟩ : AlS) t), dkF g ⟨sv, .slice none 0 0, S, []⟩]) (ψ := fun q : SvR => packF [alF pa n q.D (takeS (takeS (⟨iota n, [], [], []⟩ : AlS) t) N), dkF g ⟨sv, q.lv, S, q.W⟩, sl q.A 1 (IE .u32) ((((takeS (⟨iota n, [], [], []⟩ : AlS) t)).S).take N)]) (fun w hk => by exact csave_any bA B.length bc B pa n D1 (takeS (⟨iota n, [], [], []⟩ : AlS) t) g 4 N sv (.slice none 0 0) S [] w rfl hb2 hb3 hB (by omega) hI (by decide) (by omega) (by show ([] ++ (iota n).take t).length + N < 1000; rw [List.nil_append, List.length_take]; omega) hNe (by omega) hD (Nat.zero_le _) (hk.rR (φ := (sl bA 1 (IE .u8) B)) mE) (fun b hb => hk.disR _ mE (sl bA 1 (IE .u8) B) mE b hb) (hk.rO (φ := packF [alF pa n D1 (takeS (⟨iota n, [], [], []⟩ : AlS) t), dkF g ⟨sv, .slice none 0 0, S, []⟩]) mE)) rfl rfl rfl rfl rfl (by kernel_rfl) (by intro _; first | ((repeat (first | with_reducible exact Upd.here _ | with_reducible apply Upd.there)); done) | ((repeat (first | exact Upd.here _ | apply Upd.there)); done) | fail) (fun q hq => ?_))
    obtain ⟨D2, lv2, W2, A, c⟩ := q
    obtain ⟨hI2, hV2, k1, k2, k3, k4⟩ := hq
    dsimp only at hI2 hV2 k1 k2 k3 k4 ⊢
    refine g_unpack (l := [alF pa n D2 (takeS (takeS (⟨iota n, [], [], []⟩ : AlS) t) N), dkF g ⟨sv, lv2, S, W2⟩, sl A 1 (IE .u32) ((((takeS (⟨iota n, [], [], []⟩ : AlS) t)).S).take N)]) (by repeat (first | with_reducible exact Sel.here | with_reducible apply Sel.there)) ?_
    dsimp only [List.cons_append, List.nil_append]
    refine g_share (φ := sl A 1 (IE .u32) ((((takeS (⟨iota n, [], [], []⟩ : AlS) t)).S).take N)) (by repeat (first | with_reducible exact Sel.here | with_reducible apply Sel.there)) ?_
    have hlT : ((((takeS (⟨iota n, [], [], []⟩ : AlS) t)).S).take N).length = N := by rw [List.length_take]; omega
    (repeat' (first | (refine gG ?_; try intro _) | (refine g_mv rfl ?_; first | refine mv_call_bel (fun w hk => hbl w) rfl rfl rfl rfl rfl (by kernel_rfl) ?_ | refine mv_call_bel (fun w hk => blocks_neg w) rfl rfl rfl rfl rfl (by kernel_rfl) ?_) | ((first | refine g_split rfl rfl tE (fun _ => ?_) (fun _ => ?_) | refine gk_cond rfl rfl tE (fun _ => ?_) (fun _ => ?_)) <;> (try first | (exfalso; omega; done) | (rename_i hx; exact absurd rfl hx) | (rename_i hx; cases hx; done)))))
    have hlg : ∀ i, i < N → ((((takeS (⟨iota n, [], [], []⟩ : AlS) t)).S).take N)[i]? = some (((t + i + 1 : Nat) : Int)) := fun i hi => by rw [List.getElem?_take_of_lt hi]; exact hget i (by omega)
    refine gk_loop_sel (fun (i : Nat) => (i ≤ N)) (fun (i : Nat) => [(0, .slice bA B.length bc), (1, .int .i64 (n : Nat)), (2, .int .i64 (t : Nat)), (7, .pointer (some ⟨b7, 0, none⟩)), (8, .pointer (some ⟨pa, 0, none⟩)), (11, .int .i64 (N : Nat)), (12, .slice A N c), (13, .int .i64 0), (14, .int .u32 (if i = 0 then (0 : Int) else ((t + 1 : Nat) : Int))), (15, .int .i64 (i : Nat))]) (fun (i : Nat) => [dkF g ⟨sv, lv2, S, W2⟩, blk b7 [.pointer (some ⟨g, 0, none⟩), .int .i64 ((4 : Nat) : Int)] 56]) (fun (i : Nat) => [sl A 1 (IE .u32) ((((takeS (⟨iota n, [], [], []⟩ : AlS) t)).S).take N), (sl bA 1 (IE .u8) B)]) (fun (i : Nat) => N - i) 0 rfl (Nat.zero_le _) (by repeat (first | exact trivial | refine ⟨rfl, ?_⟩)) sA sS ?_
    rintro i hI
    replace hI : (i ≤ N) := hI
    change GK _ _ [(0, .slice bA B.length bc), (1, .int .i64 (n : Nat)), (2, .int .i64 (t : Nat)), (7, .pointer (some ⟨b7, 0, none⟩)), (8, .pointer (some ⟨pa, 0, none⟩)), (11, .int .i64 (N : Nat)), (12, .slice A N c), (13, .int .i64 0), (14, .int .u32 (if i = 0 then (0 : Int) else ((t + 1 : Nat) : Int))), (15, .int .i64 (i : Nat))] [dkF g ⟨sv, lv2, S, W2⟩, blk b7 [.pointer (some ⟨g, 0, none⟩), .int .i64 ((4 : Nat) : Int)] 56] [sl A 1 (IE .u32) ((((takeS (⟨iota n, [], [], []⟩ : AlS) t)).S).take N), (sl bA 1 (IE .u8) B)]
    by_cases hlt2 : i < N
    · have hxi := hlg i hlt2
      have hx0 := hlg 0 (by omega)
      refine gk_elem (A := A) (enc := IE .u32) (L := ((((takeS (⟨iota n, [], [], []⟩ : AlS) t)).S).take N)) i mE (by omega) (by decide) (fun g1 o1 y eA hy => ?_)
      subst eA
      rw [hxi] at hy
      obtain rfl := Option.some.inj hy
      refine gk_elem (A := some ⟨g1, o1, none⟩) (enc := IE .u32) (L := ((((takeS (⟨iota n, [], [], []⟩ : AlS) t)).S).take N)) 0 mE (by omega) (by decide) (fun g4 o4 y eA hy => ?_)
      cases eA
      rw [hx0] at hy
      obtain rfl := Option.some.inj hy
      (repeat' (first | (refine gG ?_; try intro _) | ((first | refine g_split rfl rfl tE (fun _ => ?_) (fun _ => ?_) | refine gk_cond rfl rfl tE (fun _ => ?_) (fun _ => ?_)) <;> (try first | (exfalso; omega; done) | (rename_i hx; exact absurd rfl hx) | (rename_i hx; cases hx; done)))))
      refine gk_say 14 (.int .u32 (if i + 1 = 0 then (0 : Int) else ((t + 1 : Nat) : Int))) rfl (by rw [if_neg (Nat.succ_ne_zero i)]; rfl) ?_
      refine gk_again_sel rfl (i + 1) hlt2 (by omega) (by repeat (first | exact trivial | refine ⟨rfl, ?_⟩)) sA sS
    obtain rfl : N = i := by omega
    have hn2 := hV2.n
    have hld := fun w h => cload_any B ((((takeS (⟨iota n, [], [], []⟩ : AlS) t)).S).take N) g 4 sv lv2 S W2 w hB (by omega) (by decide) hV2.d (by simp at hn2; omega) (by rw [hlT, hNe]) (((hIp.sorted.imp fun h => by omega : ((takeS (⟨iota n, [], [], []⟩ : AlS) t)).S.Nodup)).sublist (List.take_sublist _ _)) (fun x hx => by
      have hp := hIp.pos (b := x) (.inl (List.mem_of_mem_take hx))
      omega) (fun j x hj hx => hV2.rd j x (by omega) hx) h
    rw [show atC ((((takeS (⟨iota n, [], [], []⟩ : AlS) t)).S).take N) 0 = (if N = 0 then (0 : Int) else ((t + 1 : Nat) : Int)) by
      unfold atC
      by_cases h0 : N = 0
      · rw [if_pos h0, List.getElem?_eq_none (by omega)]; rfl
      · rw [if_neg h0, hlg 0 (by omega)]; rfl, hlT] at hld
    (repeat' (first | (refine gG ?_; try intro _) | ((first | refine g_split rfl rfl tE (fun _ => ?_) (fun _ => ?_) | refine gk_cond rfl rfl tE (fun _ => ?_) (fun _ => ?_)) <;> (try first | (exfalso; omega; done) | (rename_i hx; exact absurd rfl hx) | (rename_i hx; cases hx; done)))))
    refine g_mv rfl ?_; refine mv_call_rt (fun w hk => hld w (hk.rO (φ := dkF g ⟨sv, lv2, S, W2⟩) mE)) rfl rfl rfl rfl rfl (by kernel_rfl) (fun _ => rfl) (fun r hr => ?_)
    obtain ⟨oA, oc, lA, lc⟩ := r
    obtain ⟨⟨r1, r2, r3, r4⟩, ⟨t1, t2, t3, t4⟩⟩ := hr
    dsimp only at r1 r2 r3 r4 t1 t2 t3 t4 ⊢
    (repeat' (first | (refine gG ?_; try intro _) | (refine g_mv rfl ?_; first | refine mv_call_bel (fun w hk => calls_b (tB_true rfl) (bequal_any oA bA B.length oc B.length bc B B w rfl rfl (hk.pO (sl oA 1 (IE .u8) B) mE) (hk.pR ((sl bA 1 (IE .u8) B)) mE) hB hB)) rfl rfl rfl rfl rfl (by kernel_rfl) ?_ | refine mv_call_bel (fun w hk => calls_b (tB_true rfl) (equal_U lA A N lc N c ((((takeS (⟨iota n, [], [], []⟩ : AlS) t)).S).take N) ((((takeS (⟨iota n, [], [], []⟩ : AlS) t)).S).take N) w hlT.symm hlT.symm (by omega) (hk.pO (sl lA 1 (IE .u32) ((((takeS (⟨iota n, [], [], []⟩ : AlS) t)).S).take N)) mE) (hk.pR (sl A 1 (IE .u32) ((((takeS (⟨iota n, [], [], []⟩ : AlS) t)).S).take N)) mE))) rfl rfl rfl rfl rfl (by kernel_rfl) ?_ | refine mv_call_bel (fun w hk => alive37 w) rfl rfl rfl rfl rfl (by kernel_rfl) ?_) | ((first | refine g_split rfl rfl tE (fun _ => ?_) (fun _ => ?_) | refine gk_cond rfl rfl tE (fun _ => ?_) (fun _ => ?_)) <;> (try first | (exfalso; omega; done) | (rename_i hx; exact absurd rfl hx) | (rename_i hx; cases hx; done)))))
    all_goals (refine gk_ret hT rfl rfl (.tmp rfl .nil) (fun w' hk => ?_); exact ⟨ret_bool (by simp [tB_eq]), hk.toBelow⟩)
end Go.Proofs.Yteajefmnbalofaa.Ch

