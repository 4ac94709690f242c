/- Law 36: StoreFull. -/
import Derived.Test.YtaghmffgoomebaaGreatSv7
import Derived.Test.YtaghmffgoomebaaGreatSv8
namespace Go.Proofs.YtaghmffgoomebaaGreat.St
open Go.RowKit Mem Gx Bytes Dk Al Rf Hp Nd Ch Tw
open Tr hiding T row
set_option linter.unusedVariables false
set_option linter.unusedSimpArgs false
set_option maxRecDepth 100000
set_option maxHeartbeats 8000000
theorem ioF_get {k n i : Nat} (h : i < n) : (ioF k n)[i]? = some ((k : Int) + 1 + (i : Int)) := by
  unfold ioF
  rw [List.getElem?_map, List.getElem?_range h]
  rfl
theorem ioF_len (k n : Nat) : (ioF k n).length = n := by unfold ioF; rw [List.length_map, List.length_range]
theorem ioF_notin {n i : Nat} (h : i < n) : ¬ ((i : Int) + 1) ∈ (ioF 0 n).take i := fun hm => by
  obtain ⟨j, hj⟩ := List.getElem?_of_mem hm
  have hj1 := (List.getElem?_eq_some_iff.1 hj).1
  rw [List.length_take, ioF_len] at hj1
  rw [List.getElem?_take_of_lt (by omega), ioF_get (by omega)] at hj
  have := Option.some.inj hj
  omega
theorem nds_cnt : ∀ (h : Nat) (t : Tr.T h), (nds h t).length = (⟨h, t⟩ : AT).cnt
  | 0, t => rfl
  | h + 1, t => by
    rw [AT.cnt_eq]
    show ((t.2.map (nds h)).flatten).length + 1 = 1 + (((Tr.kids t).map fun k => (⟨h, k⟩ : AT)).map AT.cnt).sum
    rw [List.length_flatten, List.map_map, List.map_map, Nat.add_comm]
    congr 2
    exact List.map_congr_left fun k _ => nds_cnt h k
theorem full_law (A : Option Addr) (n c : Nat) (L : List OpD) (bl : Int) (w : World) (hs0 : (SlV.mk A n c).Ok L.length) (hLb : ∀ o ∈ L, o.e.Bd) (hL : Rd1 w (sl A 5 CE L)) :
    Calls Tryz.prog 5 [.slice A n c, .int .i64 bl].toArray w fun e w' => e = .returned (.bool true) ∧ Below w.heap.size w w' := by
  obtain ⟨hs1, hs2, hs3, hs4⟩ := hs0
  dsimp only at hs1 hs2 hs3 hs4
  subst hs1
  refine g_enter0 T [] [] [sl A 5 CE L] Tryz.func5 rfl Tryz.ntmps5 rfl (Rds.cons hL .nil).kn ?_
  by_cases hG : L.length ≤ 60 ∧ 0 ≤ bl ∧ bl ≤ 40
  case neg =>
    (repeat' (first | (refine gG ?_; try intro _) | ((first | refine g_split rfl rfl tE (fun _ => ?_) (fun _ => ?_) | refine gk_cond rfl rfl tE (fun _ => ?_) (fun _ => ?_)) <;> (try first | (exfalso; omega; done) | (rename_i hx; exact absurd rfl hx) | (rename_i hx; cases hx; done)))))
    all_goals (refine gk_ret hT rfl rfl (.tmp rfl .nil) (fun w' hk => ?_); exact ⟨rfl, hk.toBelow⟩)
  obtain ⟨hG1, hG2, hG3⟩ := hG
  obtain ⟨k, rfl⟩ := Int.eq_ofNat_of_zero_le hG2
  (repeat' (first | (refine gG ?_; try intro _) | ((first | refine g_split rfl rfl tE (fun _ => ?_) (fun _ => ?_) | refine gk_cond rfl rfl tE (fun _ => ?_) (fun _ => ?_)) <;> (try first | (exfalso; omega; done) | (rename_i hx; exact absurd rfl hx) | (rename_i hx; cases hx; done)))))
  refine g_mv rfl ?_; refine mv_call_rt (fun w hk => made_any k w (by omega)) rfl rfl rfl rfl rfl (by kernel_rfl) (fun _ => rfl) (fun q hq => ?_)
  obtain ⟨g, sv, S, pa, D⟩ := q
  obtain ⟨hD, hSl, hAI, hSm⟩ := hq
  dsimp only at hD hSl hAI hSm ⊢
  rw [← alK_zero] at hAI ⊢
  (repeat' (first | (refine gG ?_; try intro _) | ((first | refine g_split rfl rfl tE (fun _ => ?_) (fun _ => ?_) | refine gk_cond rfl rfl tE (fun _ => ?_) (fun _ => ?_)) <;> (try first | (exfalso; omega; done) | (rename_i hx; exact absurd rfl hx) | (rename_i hx; cases hx; done)))))
  rename_i pg tg
  refine gk_der [] (φ := stF none) (Der.all fun x hx => by cases hx) (List.nil_subset _) ?_
  refine gk_nilR (α := EntD) none 4 EE ?_
  refine gk_loop_sel (fun (q : (Option AT) × (List EntD) × SlV × Nat) => match q with | (a, M, s, i) => (HasO a M ∧ s.Ok M.length ∧ M.length ≤ i ∧ i ≤ L.length) ∧ AllO (fun h t => (nd h t).a = 0) a ∧ (∀ e ∈ M, e.Bd) ∧ (∀ b, (stF a).S b → w.heap.size ≤ b) ∧ (∀ b, (sl s.A 4 EE M).S b → w.heap.size ≤ b)) (fun (q : (Option AT) × (List EntD) × SlV × Nat) => match q with | (a, M, s, i) => [(0, .slice A L.length c), (1, .int .i64 (k : Nat)), (5, .pointer (some ⟨pg, 0, none⟩)), (6, .pointer (some ⟨pa, 0, none⟩)), (8, .pointer (some ⟨tg, 0, none⟩)), (9, .slice s.A s.n s.c), (10, .int .i64 i)]) (fun (q : (Option AT) × (List EntD) × SlV × Nat) => match q with | (a, M, s, i) => [blk tg [rootV a, .int .i64 (M.length : Int)] 55, blk pg [.pointer (some ⟨g, 0, none⟩), .int .i64 ((4 : Nat) : Int)] 35, alF pa k D (alK k 0), dkF g ⟨sv, .slice none 0 0, S, []⟩]) (fun (q : (Option AT) × (List EntD) × SlV × Nat) => match q with | (a, M, s, i) => [stF a, sl s.A 4 EE M, sl A 5 CE L]) (fun (q : (Option AT) × (List EntD) × SlV × Nat) => match q with | (a, M, s, i) => L.length - i) (none, [], ⟨none, 0, 0⟩, 0) rfl ⟨⟨rfl, SlV.ok_nil, Nat.zero_le _, Nat.zero_le _⟩, (fun b h => by cases h), (fun e h => by cases h), (fun b h => by obtain ⟨x, hx, _⟩ := h; cases hx), (fun b h => absurd h.1 (by simp))⟩ (by repeat (first | exact trivial | refine ⟨rfl, ?_⟩)) sA sS ?_
  rintro ⟨a, M, s, i⟩ hI
  replace hI : (HasO a M ∧ s.Ok M.length ∧ M.length ≤ i ∧ i ≤ L.length) ∧ AllO (fun h t => (nd h t).a = 0) a ∧ (∀ e ∈ M, e.Bd) ∧ (∀ b, (stF a).S b → w.heap.size ≤ b) ∧ (∀ b, (sl s.A 4 EE M).S b → w.heap.size ≤ b) := hI
  change GK _ _ [(0, .slice A L.length c), (1, .int .i64 (k : Nat)), (5, .pointer (some ⟨pg, 0, none⟩)), (6, .pointer (some ⟨pa, 0, none⟩)), (8, .pointer (some ⟨tg, 0, none⟩)), (9, .slice s.A s.n s.c), (10, .int .i64 i)] [blk tg [rootV a, .int .i64 (M.length : Int)] 55, blk pg [.pointer (some ⟨g, 0, none⟩), .int .i64 ((4 : Nat) : Int)] 35, alF pa k D (alK k 0), dkF g ⟨sv, .slice none 0 0, S, []⟩] [stF a, sl s.A 4 EE M, sl A 5 CE L]
  obtain ⟨⟨hh, hs, hMi, hin⟩, hz, hMb, hn1, hn2⟩ := hI
  by_cases hlt : i < L.length
  · --<round
    obtain ⟨y, hy⟩ : ∃ y, L[i]? = some y := ⟨L[i], List.getElem?_eq_getElem hlt⟩
    have hyb := hLb y (List.mem_of_getElem? hy)
    refine gk_elem (enc := CE) (L := L) i mE (by omega) (by decide) (fun b1 o1 y1 eA hy1 => ?_)
    subst eA
    obtain rfl : y = y1 := by rw [hy] at hy1; exact Option.some.inj hy1
    (repeat' (first | (refine gG ?_; try intro _) | ((first | refine g_split rfl rfl tE (fun _ => ?_) (fun _ => ?_) | refine gk_cond rfl rfl tE (fun _ => ?_) (fun _ => ?_)) <;> (try first | (exfalso; omega; done) | (rename_i hx; exact absurd rfl hx) | (rename_i hx; cases hx; done)))))
    refine g_mv rfl ?_; refine mv_call_rx (fun w hk => step_any a M s y tg w hh (by omega) hs (hk.pO (blk tg [rootV a, .int .i64 (M.length : Int)] 55) mE) (hk.rR (φ := stF a) mE) (hk.rR (φ := sl s.A 4 EE M) mE) (fun h => hk.disR (blk tg [rootV a, .int .i64 (M.length : Int)] 55) mE (stF a) mE tg rfl h) (fun h => hk.disR (blk tg [rootV a, .int .i64 (M.length : Int)] 55) mE (sl s.A 4 EE M) mE tg rfl h)) rfl rfl rfl rfl rfl (by kernel_rfl) (by intro _; first | ((repeat (first | with_reducible exact Upd.here _ | with_reducible apply Upd.there)); done) | ((repeat (first | exact Upd.here _ | apply Upd.there)); done) | fail) sS (fun _ => rfl) (fun r hr hnr => ?_)
    have hM2 := step_len hr
    have hnw : ∀ φ, φ ∈ [stF r.a, sl r.s.A 4 EE r.M] → ∀ b, φ.S b → w.heap.size ≤ b := fun φ hφ b hb => by
      rcases hnr φ hφ b hb with h | ⟨ψ, h1, h2⟩
      · exact h
      rcases List.mem_cons.1 h1 with rfl | h1
      · exact hn1 b h2
      · obtain rfl := List.mem_singleton.1 h1
        exact hn2 b h2
    refine g_say 49 (.tuple #[.slice r.s.A r.s.n r.s.c, .bool true]) rfl rfl ?_
    (repeat (refine gG ?_; try intro _))
    refine gk_again_sel rfl (r.a, r.M, r.s, i + 1) ⟨⟨hr.has, hr.ok, by omega, by omega⟩, step_p (fun _ _ h => h) hr hz, step_bd hr hMb hyb, hnw _ (.head _), hnw _ (.tail _ (.head _))⟩ (by dsimp only; omega) (by repeat (first | exact trivial | refine ⟨rfl, ?_⟩)) sA sS
    -->round
  have hM60 : M.length ≤ 60 := by omega
  cases a with
  | none =>
    --<none
    obtain rfl : M = [] := hh
    (repeat' (first | (refine gG ?_; try intro _) | ((first | refine g_split rfl rfl tE (fun _ => ?_) (fun _ => ?_) | refine gk_cond rfl rfl tE (fun _ => ?_) (fun _ => ?_)) <;> (try first | (exfalso; omega; done) | (rename_i hx; exact absurd rfl hx) | (rename_i hx; cases hx; done)))))
    refine g_mv rfl ?_; refine mv_call_bel (fun w hk => root_any tg (.pointer none) (.int .i64 0) w ⟨_, rfl⟩ (hk.rO (φ := blk tg [.pointer none, .int .i64 0] 55) mE)) rfl rfl rfl rfl rfl (by kernel_rfl) ?_
    (repeat (refine gG ?_; try intro _))
    refine g_mv rfl ?_; refine mv_call_bel (fun w hk => count_nil w) rfl rfl rfl rfl rfl (by kernel_rfl) ?_
    (repeat (refine gG ?_; try intro _))
    refine g_mv rfl ?_; refine mv_call_bel (fun w hk => save_nil tg pa g 0 w (hk.rO (φ := blk tg [.pointer none, .int .i64 0] 55) mE)) rfl rfl rfl rfl rfl (by kernel_rfl) ?_
    (repeat' (first | (refine gG ?_; try intro _) | ((first | refine g_split rfl rfl tE (fun _ => ?_) (fun _ => ?_) | refine gk_cond rfl rfl tE (fun _ => ?_) (fun _ => ?_)) <;> (try first | (exfalso; omega; done) | (rename_i hx; exact absurd rfl hx) | (rename_i hx; cases hx; done)))))
    refine gk_rounds 1 rfl ?_
    (repeat' (first | (refine gG ?_; try intro _) | (refine g_mv rfl ?_; first | refine mv_call_bel (fun w hk => alive36 w) rfl rfl rfl rfl rfl (by kernel_rfl) ?_) | ((first | refine g_split rfl rfl tE (fun _ => ?_) (fun _ => ?_) | refine gk_cond rfl rfl tE (fun _ => ?_) (fun _ => ?_)) <;> (try first | (exfalso; omega; done) | (rename_i hx; exact absurd rfl hx) | (rename_i hx; cases hx; done)))))
    all_goals (refine gk_ret hT rfl rfl (.tmp rfl .nil) (fun w' hk => ?_); exact ⟨ret_bool (by simp [tB_eq]), hk.toBelow⟩)
    -->none
  | some a =>
    obtain ⟨h, t⟩ := a
    have hH : Has h t M := hh
    have hAZ : AllZ h t := allT_nd (hz ⟨h, t⟩ rfl)
    have hN : (nds h t).length ≤ 100 := by
      have h1 := cnt_has hH
      have h2 := nds_cnt h t
      have h3 : (⟨h, t⟩ : AT).cnt = Tr.cnt h t := rfl
      omega
    obtain ⟨N, hNe⟩ : ∃ N, N = (nds h t).length := ⟨_, rfl⟩
    have hfr : fr h t = N := by rw [fr_z h t hAZ, hNe]
    have hRt : ∀ w, Rd1 w (stF (some (⟨h, t⟩ : AT))) → Rd1 w (treeF h t) := fun w hw => (st_der (⟨h, t⟩ : AT)).rd fun ψ hψ => by obtain rfl := List.mem_singleton.1 hψ; exact hw
    have hEb : ∀ e ∈ ents h t, e.Bd := by rw [hH.row]; exact hMb
    (repeat' (first | (refine gG ?_; try intro _) | ((first | refine g_split rfl rfl tE (fun _ => ?_) (fun _ => ?_) | refine gk_cond rfl rfl tE (fun _ => ?_) (fun _ => ?_)) <;> (try first | (exfalso; omega; done) | (rename_i hx; exact absurd rfl hx) | (rename_i hx; cases hx; done)))))
    refine g_mv rfl ?_; refine mv_call_bel (fun w hk => root_any tg (.pointer (some ⟨(nd h t).g, 0, none⟩)) (.int .i64 (M.length : Int)) w ⟨_, rfl⟩ (hk.rO (φ := blk tg [.pointer (some ⟨(nd h t).g, 0, none⟩), .int .i64 (M.length : Int)] 55) mE)) rfl rfl rfl rfl rfl (by kernel_rfl) ?_
    (repeat (refine gG ?_; try intro _))
    refine g_mv rfl ?_; refine mv_call_bel (fun w hk => count_any h t w hH.ok (by omega) (hRt w (hk.rR (φ := stF (some (⟨h, t⟩ : AT))) mE))) rfl rfl rfl rfl rfl (by kernel_rfl) ?_
    rw [← hNe]
    (repeat (refine gG ?_; try intro _))
    by_cases hfull : k < N
    · --<full
      refine g_mv rfl ?_; refine mv_call_bel (fun w hk => save_full t tg pa g k 0 (M.length : Int) D w hH.ok (by omega) (by omega) hAI (by omega) (hk.rO (φ := blk tg [.pointer (some ⟨(nd h t).g, 0, none⟩), .int .i64 (M.length : Int)] 55) mE) (hk.rO (φ := alF pa k D (alK k 0)) mE) (hRt w (hk.rR (φ := stF (some (⟨h, t⟩ : AT))) mE))) rfl rfl rfl rfl rfl (by kernel_rfl) ?_
      (repeat' (first | (refine gG ?_; try intro _) | ((first | refine g_split rfl rfl tE (fun _ => ?_) (fun _ => ?_) | refine gk_cond rfl rfl tE (fun _ => ?_) (fun _ => ?_)) <;> (try first | (exfalso; omega; done) | (rename_i hx; exact absurd rfl hx) | (rename_i hx; cases hx; done)))))
      have haf := fun w h => afree_any pa k D (alK k 0) w hAI h
      rw [alK_free, Nat.sub_zero] at haf
      refine g_mv rfl ?_; refine mv_call_bel (fun w hk => haf w (hk.rO (φ := alF pa k D (alK k 0)) mE)) rfl rfl rfl rfl rfl (by kernel_rfl) ?_
      (repeat' (first | (refine gG ?_; try intro _) | (refine g_mv rfl ?_; first | refine mv_call_bel (fun w hk => alive36 w) rfl rfl rfl rfl rfl (by kernel_rfl) ?_) | ((first | refine g_split rfl rfl tE (fun _ => ?_) (fun _ => ?_) | refine gk_cond rfl rfl tE (fun _ => ?_) (fun _ => ?_)) <;> (try first | (exfalso; omega; done) | (rename_i hx; exact absurd rfl hx) | (rename_i hx; cases hx; done)))))
      all_goals (refine gk_ret hT rfl rfl (.tmp rfl .nil) (fun w' hk => ?_); exact ⟨ret_bool (by simp [tB_eq]), hk.toBelow⟩)
      -->full
    · --<save
      obtain ⟨t', ht'⟩ : ∃ t', t' = (svT h t ⟨0, [], []⟩).1 := ⟨_, rfl⟩
      obtain ⟨s', hs'⟩ : ∃ s', s' = (svT h t ⟨0, [], []⟩).2 := ⟨_, rfl⟩
      have hsl : s'.l = ioF 0 N := by
        rw [hs', (svT_k h t ⟨0, [], []⟩).2, pl_z h t _ hAZ, hfr]
        rfl
      have hsv := fun w hnd h1 h2 h3 h4 => save_ok t tg pa g k 0 (M.length : Int) sv (.slice none 0 0) S [] [] D w hH.ok (root_six h t hH.size) hEb hnd (fun d hd => by rw [hAZ d hd]; omega) (by omega) (Nat.zero_le _) (by omega) hSl ⟨hAI, hD, rfl⟩ (by omega) h1 h2 h3 h4
      rw [← hs', ← ht', hsl] at hsv
      have hd1 : Der [stF (some (⟨h, t⟩ : AT))] (hdF h t) := (der_hd h t).trans fun ψ hψ => by obtain rfl := List.mem_singleton.1 hψ; exact st_der (⟨h, t⟩ : AT)
      have hd2 : Der [stF (some (⟨h, t⟩ : AT))] (slF h t) := (der_sl h t).trans fun ψ hψ => by obtain rfl := List.mem_singleton.1 hψ; exact st_der (⟨h, t⟩ : AT)
      refine g_der [stF (some (⟨h, t⟩ : AT))] hd1 sS ?_
      refine g_der [stF (some (⟨h, t⟩ : AT))] hd2 sS ?_
      refine g_unshare (hdF h t) [slF h t] mE sS (fun b hb => .inl ?_) (fun w hw ψ hψ b hb hb2 => ?_) ?_
      · obtain ⟨ψ, h1, h2⟩ := hd1.S b hb
        obtain rfl := List.mem_singleton.1 h1
        exact hn1 b h2
      · obtain rfl := List.mem_singleton.1 hψ
        have hp : (treeF h t).p w := (st_der (⟨h, t⟩ : AT)).p w fun ψ hψ => by obtain rfl := List.mem_singleton.1 hψ; exact hw _ mE
        exact hs_apart hH.ok hH.size hp b hb2 hb
      refine g_pack [alF pa k D (alK k 0), dkF g ⟨sv, .slice none 0 0, S, []⟩, hdF h t] [blk tg [.pointer (some ⟨(nd h t).g, 0, none⟩), .int .i64 (M.length : Int)] 55, blk pg [.pointer (some ⟨g, 0, none⟩), .int .i64 ((4 : Nat) : Int)] 35] sA ?_
      refine g_mv rfl (mv_call_mod (φ := packF [alF pa k D (alK k 0), dkF g ⟨sv, .slice none 0 0, S, []⟩, hdF h t]) (ψ := fun q : SvQ => packF [own 0 26 1 (.slice q.A (ioF 0 N).length q.c) (IE .u32) (ioF 0 N), alF pa k q.D (alK k s'.k), dkF g ⟨sv, q.lv, S, q.W⟩, hdF h t']) (fun w hk => by
        have r1 : Rd1 w (packF [alF pa k D (alK k 0), dkF g ⟨sv, .slice none 0 0, S, []⟩, hdF h t]) := hk.rO mE
        have r2 : Rd1 w (slF h t) := hk.rR mE
        have r3 : Rd1 w (treeF h t) := (der_hs h t).rd fun ψ hψ => by
          rcases List.mem_cons.1 hψ with rfl | hψ
          · exact r1.unpack (.tail _ (.tail _ (.head _)))
          · obtain rfl := List.mem_singleton.1 hψ
            exact r2
        exact hsv w (gs_nodup hH.ok (by rw [hH.row]; exact hH.asc) r3.1) (hk.rO (φ := blk tg [.pointer (some ⟨(nd h t).g, 0, none⟩), .int .i64 (M.length : Int)] 55) mE) r2 (fun b hb => ⟨fun e => Nd.apart hk (φ := packF [alF pa k D (alK k 0), dkF g ⟨sv, .slice none 0 0, S, []⟩, hdF h t]) (ψ := blk tg [.pointer (some ⟨(nd h t).g, 0, none⟩), .int .i64 (M.length : Int)] 55) .here (.head _) b hb e, hk.disR (packF [alF pa k D (alK k 0), dkF g ⟨sv, .slice none 0 0, S, []⟩, hdF h t]) mE (slF h t) mE b hb⟩) r1) rfl rfl rfl rfl rfl (by kernel_rfl) (by intro _; first | ((repeat (first | with_reducible exact Upd.here _ | with_reducible apply Upd.there)); done) | ((repeat (first | exact Upd.here _ | apply Upd.there)); done) | fail) (fun q hq => ?_))
      obtain ⟨qA, qc, qD, qlv, qW⟩ := q
      dsimp only
      refine g_unpack (l := [own 0 26 1 (.slice qA (ioF 0 N).length qc) (IE .u32) (ioF 0 N), alF pa k qD (alK k s'.k), dkF g ⟨sv, qlv, S, qW⟩, hdF h t']) (by repeat (first | with_reducible exact Sel.here | with_reducible apply Sel.there)) ?_
      dsimp only [List.cons_append, List.nil_append]
      have hl0 := ioF_len 0 N
      refine g_freeze (.slice qA (ioF 0 N).length qc) (by intro _; first | ((repeat (first | with_reducible exact Upd.here _ | with_reducible apply Upd.there)); done) | ((repeat (first | exact Upd.here _ | apply Upd.there)); done) | fail) (fun A' c' e f1 f2 f3 => ?_)
      injection e with eA _ ec
      subst eA
      subst ec
      refine g_share (φ := sl qA 1 (IE .u32) (ioF 0 N)) (by repeat (first | with_reducible exact Sel.here | with_reducible apply Sel.there)) ?_
      (repeat' (first | (refine gG ?_; try intro _) | ((first | refine g_split rfl rfl tE (fun _ => ?_) (fun _ => ?_) | refine gk_cond rfl rfl tE (fun _ => ?_) (fun _ => ?_)) <;> (try first | (exfalso; omega; done) | (rename_i hx; exact absurd rfl hx) | (rename_i hx; cases hx; done)))))
      refine gk_loop_sel (fun (i : Nat) => i ≤ N) (fun (i : Nat) => [(1, .int .i64 (k : Nat)), (11, .int .i64 (N : Nat)), (12, .slice qA (ioF 0 N).length qc), (13, .int .i64 0), (14, .int .i64 i)]) (fun (i : Nat) => []) (fun (i : Nat) => [sl qA 1 (IE .u32) (ioF 0 N)]) (fun (i : Nat) => N - i) 0 rfl (Nat.zero_le _) (by repeat (first | exact trivial | refine ⟨rfl, ?_⟩)) sA sS ?_
      rintro i hI
      replace hI : i ≤ N := hI
      change GK _ _ [(1, .int .i64 (k : Nat)), (11, .int .i64 (N : Nat)), (12, .slice qA (ioF 0 N).length qc), (13, .int .i64 0), (14, .int .i64 i)] [] [sl qA 1 (IE .u32) (ioF 0 N)]
      by_cases hiN : i < N
      · --<list
        have hyi : (ioF 0 N)[i]? = some ((i : Int) + 1) := by
          rw [ioF_get hiN]
          congr 1
          omega
        refine gk_elem (A := qA) (enc := IE .u32) (L := ioF 0 N) i mE (by omega) (by decide) (fun b1 o1 y eA hy => ?_)
        subst eA
        obtain rfl : (i : Int) + 1 = y := Option.some.inj (hyi.symm.trans hy)
        (repeat' (first | (refine gG ?_; try intro _) | ((first | refine g_split rfl rfl tE (fun _ => ?_) (fun _ => ?_) | refine gk_cond rfl rfl tE (fun _ => ?_) (fun _ => ?_)) <;> (try first | (exfalso; omega; done) | (rename_i hx; exact absurd rfl hx) | (rename_i hx; cases hx; done)))))
        refine gk_sel (f' := [(1, .int .i64 (k : Nat)), (11, .int .i64 (N : Nat)), (12, .slice (some ⟨b1, o1, none⟩) (ioF 0 N).length qc), (13, .int .i64 0), (14, .int .i64 i)]) (O' := []) (R' := [sl (some ⟨b1, o1, none⟩) 1 (IE .u32) (ioF 0 N)]) (by repeat (first | exact trivial | refine ⟨rfl, ?_⟩)) sA sS ?_
        refine gk_any [0] (Cut _ (fun _ : Unit => [(1, .int .i64 (k : Nat)), (11, .int .i64 (N : Nat)), (12, .slice (some ⟨b1, o1, none⟩) (ioF 0 N).length qc), (13, .int .i64 0), (14, .int .i64 i), (110, .bool false)]) (fun _ => []) (fun _ => [sl (some ⟨b1, o1, none⟩) 1 (IE .u32) (ioF 0 N)])) rfl rfl (by kernel_rfl) ?_ (cut_k fun _ => ?_)
        · skip
          refine gb_take 0 rfl (by decide +kernel) rfl rfl (ys_ev (nw := true) hT rfl sI) sF ?_
          refine gb_take 1 rfl (by decide +kernel) rfl rfl (ys_ev (nw := true) hT rfl sI) sF ?_
          refine gb_take 2 rfl (by decide +kernel) rfl rfl (ys_slice_h hT i rfl rfl rfl rfl rfl (by omega)) sF ?_
          try (refine gb_say 89 (.slice (some ⟨b1, o1, none⟩) i qc) rfl (by rw [shA_0]) ?_)
          refine gb_take 3 rfl (by decide +kernel) rfl rfl (ys_ev (nw := true) hT rfl sI) sF ?_
          refine gb_take 4 rfl (by decide +kernel) rfl rfl (ys_ev (nw := true) hT rfl sI) sF ?_
          refine gb_take 5 rfl (by decide +kernel) rfl rfl (ys_ev (nw := true) hT rfl sI) sF ?_
          refine gb_take 6 rfl (by decide +kernel) rfl rfl (ys_load_el (o0 := o1) (sz := 1) (enc := IE .u32) (L := ioF 0 N) hT i _ 0 rfl rfl rfl (by omega) hyi (at_sl mE) rfl rfl) sF ?_
          refine gb_only 7 (by decide +kernel) rfl rfl ?_
          refine mv_call_bel (fun w hk => calls_b (tB_false (ioF_notin hiN)) (cont_any (some ⟨b1, o1, none⟩) i qc ((ioF 0 N).take i) ((i : Int) + 1) w (by rw [List.length_take]; omega) (by unfold maxLen; omega) ⟨Sl.take (hk.pR (sl (some ⟨b1, o1, none⟩) 1 (IE .u32) (ioF 0 N)) mE) i, fun b hb => (hk.rR (φ := sl (some ⟨b1, o1, none⟩) 1 (IE .u32) (ioF 0 N)) mE).2 b ⟨by omega, hb.2⟩⟩)) rfl rfl rfl rfl rfl (by kernel_rfl) ?_
          refine ⟨sF, ?_⟩
          refine gb_take 8 rfl (by decide +kernel) rfl rfl (ys_ev (nw := true) hT rfl sI) sF ?_
          first | refine gb_take 9 rfl (by decide +kernel) rfl rfl (ys_ev (nw := true) hT rfl sI) sF ?_ | refine gb_skip 9 rfl (by decide +kernel) rfl rfl sF ?_
          first | refine gb_take 10 rfl (by decide +kernel) rfl rfl (ys_ev (nw := true) hT rfl sI) sF ?_ | refine gb_skip 10 rfl (by decide +kernel) rfl rfl sF ?_
          first | refine gb_take 11 rfl (by decide +kernel) rfl rfl (ys_ev (nw := true) hT rfl sI) sF ?_ | refine gb_skip 11 rfl (by decide +kernel) rfl rfl sF ?_
          first | refine gb_take 12 rfl (by decide +kernel) rfl rfl (ys_load_el (o0 := o1) (sz := 1) (enc := IE .u32) (L := ioF 0 N) hT i _ 0 rfl rfl rfl (by omega) hyi (at_sl mE) rfl rfl) sF ?_ | refine gb_skip 12 rfl (by decide +kernel) rfl rfl sF ?_
          first | refine gb_take 13 rfl (by decide +kernel) rfl rfl (ys_ev (nw := true) hT rfl sI) sF ?_ | refine gb_skip 13 rfl (by decide +kernel) rfl rfl sF ?_
          try (refine gb_say 100 (.bool false) rfl (congrArg Value.bool (tB_false (by omega))) ?_)
          refine gb_take 14 rfl (by decide +kernel) rfl rfl (ys_ev (nw := true) hT rfl sI) sF ?_
          refine gb_take 15 rfl (by decide +kernel) rfl rfl (ys_ev (nw := true) hT rfl sI) sF ?_
          first | refine gb_take 16 rfl (by decide +kernel) rfl rfl (ys_ev (nw := true) hT rfl sI) sF ?_ | refine gb_skip 16 rfl (by decide +kernel) rfl rfl sF ?_
          first | refine gb_take 17 rfl (by decide +kernel) rfl rfl (ys_ev (nw := true) hT rfl sI) sF ?_ | refine gb_skip 17 rfl (by decide +kernel) rfl rfl sF ?_
          first | refine gb_take 18 rfl (by decide +kernel) rfl rfl (ys_ev (nw := true) hT rfl sI) sF ?_ | refine gb_skip 18 rfl (by decide +kernel) rfl rfl sF ?_
          first | refine gb_take 19 rfl (by decide +kernel) rfl rfl (ys_load_el (o0 := o1) (sz := 1) (enc := IE .u32) (L := ioF 0 N) hT i _ 0 rfl rfl rfl (by omega) hyi (at_sl mE) rfl rfl) sF ?_ | refine gb_skip 19 rfl (by decide +kernel) rfl rfl sF ?_
          first | refine gb_take 20 rfl (by decide +kernel) rfl rfl (ys_ev (nw := true) hT rfl sI) sF ?_ | refine gb_skip 20 rfl (by decide +kernel) rfl rfl sF ?_
          first | refine gb_take 21 rfl (by decide +kernel) rfl rfl (ys_ev (nw := true) hT rfl sI) sF ?_ | refine gb_skip 21 rfl (by decide +kernel) rfl rfl sF ?_
          first | refine gb_take 22 rfl (by decide +kernel) rfl rfl (ys_ev (nw := true) hT rfl sI) sF ?_ | refine gb_skip 22 rfl (by decide +kernel) rfl rfl sF ?_
          try (refine gb_say 109 (.bool false) rfl (congrArg Value.bool (tB_false (by omega))) ?_)
          refine gb_take 23 rfl (by decide +kernel) rfl rfl (ys_ev (nw := true) hT rfl sI) sF ?_
          refine gb_nil (by decide +kernel) ?_
          exact ⟨(), (by repeat (first | exact trivial | refine ⟨rfl, ?_⟩)), sA, sS⟩
        (repeat (refine gG ?_; try intro _))
        refine gk_again_sel rfl (i + 1) (by omega) (by omega) (by repeat (first | exact trivial | refine ⟨rfl, ?_⟩)) sA sS
        -->list
      · have hie : i = N := by omega
        subst hie
        (repeat' (first | (refine gG ?_; try intro _) | (refine g_mv rfl ?_; first | refine mv_call_bel (fun w hk => alive36 w) rfl rfl rfl rfl rfl (by kernel_rfl) ?_) | ((first | refine g_split rfl rfl tE (fun _ => ?_) (fun _ => ?_) | refine gk_cond rfl rfl tE (fun _ => ?_) (fun _ => ?_)) <;> (try first | (exfalso; omega; done) | (rename_i hx; exact absurd rfl hx) | (rename_i hx; cases hx; done)))))
        all_goals (refine gk_ret hT rfl rfl (.tmp rfl .nil) (fun w' hk => ?_); exact ⟨ret_bool (by simp [tB_eq] <;> omega), hk.toBelow⟩)
      -->save
end Go.Proofs.YtaghmffgoomebaaGreat.St
