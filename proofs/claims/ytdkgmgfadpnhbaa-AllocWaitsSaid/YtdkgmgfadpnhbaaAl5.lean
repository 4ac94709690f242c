/- Alloc: Commit, Sound. -/
import Derived.Test.YtdkgmgfadpnhbaaAl4
namespace Go.Proofs.Ytdkgmgfadpnhbaa.Al
open Go.RowKit Mem Gx Gm KyU Dd Rf Hp
set_option linter.unusedVariables false
set_option linter.unusedSimpArgs false
set_option maxRecDepth 100000
set_option maxHeartbeats 2000000
theorem insL_snoc : ∀ (L S : List Int) (x : Int), insL (L ++ [x]) S = ins x (insL L S)
  | [], S, x => rfl
  | b :: L, S, x => insL_snoc L (ins b S) x
theorem insL_len : ∀ (L S : List Int), (insL L S).length = S.length + L.length
  | [], S => rfl
  | b :: L, S => by
    show (insL L (ins b S)).length = _
    rw [insL_len L, (ins_perm b S).length_eq, List.length_cons, List.length_cons]
    omega
def commitA (s : AlS) : AlS := ⟨insL s.L s.S, s.l, setP s.l, []⟩
theorem acommit_any (a n : Nat) (D : AlD) (s : AlS) (w : World) (hn : n ≤ 4096) (hI : AlI n D s) (h : Rd1 w (alF a n D s)) :
    Calls Try.prog 56 [.pointer (some ⟨a, 0, none⟩)].toArray w (RetM (alF a n D s) (fun r : AlD => AlI n r (commitA s)) (fun _ => .tuple #[]) (fun r => alF a n r (commitA s)) w) := by
  have hlens := hI.p.len
  have hcm := hI.p.commit
  obtain ⟨f, fs, T1, rs, M, v⟩ := D
  obtain ⟨S, l, U, L⟩ := s
  obtain ⟨hp, hf, hr, hu⟩ := hI
  dsimp only at hp hf hr hu hlens hcm
  have hll := hr.len
  refine g_enter0 T (finE (alF a n ⟨f, fs, T1, rs, M, v⟩ ⟨S, l, U, L⟩) w) [own 0 87 1 v (IE .u32) L, tbF2 a (⟨.pointer (some ⟨f, 0, none⟩), .map (some rs), v, .int .i64 (n : Int)⟩ : XA) T1, packF (frF f fs), mpk rs (Value.int .u32) M] [] Try.func56 rfl Try.ntmps56 rfl ((Kn.startP h (fun b hb => (finE_mem h.2 b).2 hb) (fun _ h => by cases h)).sel sA (List.Subset.refl _)) ?_
  refine gk_freeze _ (by intro _; first | ((repeat (first | with_reducible exact Upd.here _ | with_reducible apply Upd.there)); done) | ((repeat (first | exact Upd.here _ | apply Upd.there)); done) | fail) (fun A c hA hA1 hA2 hA3 => ?_); subst hA
  refine gk_share (φ := sl A 1 (IE .u32) L) (by repeat (first | with_reducible exact Sel.here | with_reducible apply Sel.there)) ?_
  rw [show tbF2 a (⟨.pointer (some ⟨f, 0, none⟩), .map (some rs), .slice A L.length c, .int .i64 (n : Int)⟩ : XA) T1 = packF [blk a [.pointer (some ⟨f, 0, none⟩), .map T1.r, .int .i64 T1.sum, .map (some rs), .slice A L.length c, .int .i64 (n : Int)] 191, moF T1.r T1.M] from rfl]
  refine gk_unpack (l := [blk a [.pointer (some ⟨f, 0, none⟩), .map T1.r, .int .i64 T1.sum, .map (some rs), .slice A L.length c, .int .i64 (n : Int)] 191, moF T1.r T1.M]) (by repeat (first | with_reducible exact Sel.here | with_reducible apply Sel.there)) ?_
  (repeat (refine gG ?_; try intro _))
  refine gk_loop_sel (fun (q : Nat × FrS) => match q with | (i, fs') => (i ≤ L.length ∧ FrOk fs' (insL (L.take i) S))) (fun (q : Nat × FrS) => match q with | (i, fs') => [(0, .pointer (some ⟨a, 0, none⟩)), (9, .slice A L.length c), (10, .int .i64 (L.length : Int)), (11, .int .i64 (i : Int))]) (fun (q : Nat × FrS) => match q with | (i, fs') => [blk a [.pointer (some ⟨f, 0, none⟩), .map T1.r, .int .i64 T1.sum, .map (some rs), .slice A L.length c, .int .i64 (n : Int)] 191, moF T1.r T1.M, packF (frF f fs'), mpk rs (Value.int .u32) M]) (fun (q : Nat × FrS) => match q with | (i, fs') => [sl A 1 (IE .u32) L]) (fun (q : Nat × FrS) => match q with | (i, fs') => L.length - i) (0, fs) rfl ⟨Nat.zero_le _, hf⟩ (by repeat (first | exact trivial | refine ⟨rfl, ?_⟩)) sA sS ?_
  rintro ⟨i, fs'⟩ hI
  replace hI : (i ≤ L.length ∧ FrOk fs' (insL (L.take i) S)) := hI
  change GK _ _ [(0, .pointer (some ⟨a, 0, none⟩)), (9, .slice A L.length c), (10, .int .i64 (L.length : Int)), (11, .int .i64 (i : Int))] [blk a [.pointer (some ⟨f, 0, none⟩), .map T1.r, .int .i64 T1.sum, .map (some rs), .slice A L.length c, .int .i64 (n : Int)] 191, moF T1.r T1.M, packF (frF f fs'), mpk rs (Value.int .u32) M] [sl A 1 (IE .u32) L]
  obtain ⟨hi, hf'⟩ := hI
  by_cases hlt : i < L.length
  · obtain ⟨x, hx⟩ : ∃ b, L[i]? = some b := ⟨L[i], List.getElem?_eq_getElem hlt⟩
    have htk := takeAt hx
    have hxL := List.mem_of_getElem? hx
    have hxp := hp.pos (b := x) (.inr (.inr hxL))
    have hxS : x ∉ insL (L.take i) S := fun h2 => by
      obtain ⟨_, h3⟩ := insL_spec (L := L.take i) hp.sorted (hp.nd.sublist (List.take_sublist i L)) fun b hb h4 => hp.fL b h4 (List.mem_of_mem_take hb)
      rcases (h3 x).1 h2 with h4 | h4
      · exact hp.fL x h4 hxL
      · have h5 := hp.nd
        have e : L = L.take i ++ x :: L.drop (i + 1) := by
          rw [← (List.getElem?_eq_some_iff.1 hx).2, ← List.drop_eq_getElem_cons hlt, List.take_append_drop]
        rw [e, List.nodup_append] at h5
        exact h5.2.2 x h4 x (.head _) rfl
    have hil : (insL (L.take i) S).length < 10000 := by rw [insL_len, List.length_take]; omega
    have hg : giveP x (insL (L.take i) S) = (ins x (insL (L.take i) S), true) := give_yes fun h2 => h2.elim (by omega) hxS
    have hsn := insL_snoc (L.take i) S x
    rw [← htk] at hsn
    refine gk_elem (enc := IE .u32) (L := L) i mE hlt (by decide) (fun g o y eA hy => ?_)
    subst eA
    obtain rfl : x = y := by rw [hx] at hy; exact Option.some.inj hy
    (repeat' (first | (refine gG ?_; try intro _) | ((first | refine g_split rfl rfl tE (fun _ => ?_) (fun _ => ?_) | refine gk_cond rfl rfl tE (fun _ => ?_) (fun _ => ?_)) <;> (try first | (exfalso; omega; done) | (rename_i hx; exact absurd rfl hx) | (rename_i hx; cases hx; done)))))
    refine g_mv rfl (mv_call_mod (φ := packF (frF f fs')) (ψ := fun r : FrS × Bool => packF (frF f r.1)) (fun w1 hk => by exact lgive_any f fs' (insL (L.take i) S) x w1 hf' hil (hk.rO (φ := packF (frF f fs')) mE)) rfl rfl rfl rfl rfl (by kernel_rfl) (by intro _; first | ((repeat (first | with_reducible exact Upd.here _ | with_reducible apply Upd.there)); done) | ((repeat (first | exact Upd.here _ | apply Upd.there)); done) | fail) (fun r hr2 => ?_))
    obtain ⟨fs2, ok⟩ := r
    obtain ⟨hf2, hok⟩ := hr2
    rw [hg] at hf2
    dsimp only at hf2 ⊢
    (repeat (refine gG ?_; try intro _))
    refine gk_say 11 (.int .i64 ((i + 1 : Nat) : Int)) rfl (by first | (congr 1; done) | (congr 1; omega)) ?_
    have hI2 : i + 1 ≤ L.length ∧ FrOk fs2 (insL (L.take (i + 1)) S) := ⟨hlt, by rw [hsn]; exact hf2⟩
    refine gk_again_sel rfl (i + 1, fs2) hI2 (by dsimp only; omega) (by repeat (first | exact trivial | refine ⟨rfl, ?_⟩)) sA sS
  · rw [List.take_of_length_le (by omega)] at hf'
    (repeat' (first | (refine gG ?_; try intro _) | ((first | refine g_split rfl rfl tE (fun _ => ?_) (fun _ => ?_) | refine gk_cond rfl rfl tE (fun _ => ?_) (fun _ => ?_)) <;> (try first | (exfalso; omega; done) | (rename_i hx; exact absurd rfl hx) | (rename_i hx; cases hx; done)))))
    refine g_mv rfl (mv_clearG rfl rfl rfl rfl rfl Try.underlying81 (by first | ((repeat (first | with_reducible exact Upd.here _ | with_reducible apply Upd.there)); done) | ((repeat (first | exact Upd.here _ | apply Upd.there)); done) | fail) ?_)
    (repeat (refine gG ?_; try intro _))
    refine g_pack (tbL2 a (⟨.pointer (some ⟨f, 0, none⟩), .map (some rs), .slice none 0 0, .int .i64 (n : Int)⟩ : XA) T1) [packF (frF f fs'), mpk rs (Value.int .u32) []] sA ?_
    refine g_mv rfl ?_; refine mv_call_rt (fun w hk => all2_any a (⟨.pointer (some ⟨f, 0, none⟩), .map (some rs), .slice none 0 0, .int .i64 (n : Int)⟩ : XA) T1 l w hr (hk.rO (φ := tbF2 a (⟨.pointer (some ⟨f, 0, none⟩), .map (some rs), .slice none 0 0, .int .i64 (n : Int)⟩ : XA) T1) mE)) rfl rfl rfl rfl rfl (by kernel_rfl) (fun _ => rfl) (fun v1 _ => ?_)
    refine g_freeze _ (by intro _; first | ((repeat (first | with_reducible exact Upd.here _ | with_reducible apply Upd.there)); done) | ((repeat (first | exact Upd.here _ | apply Upd.there)); done) | fail) (fun A1 c1 hA1 hA11 hA12 hA13 => ?_); subst hA1
    refine g_share (φ := sl A1 1 (IE .u32) (setP l)) (by repeat (first | with_reducible exact Sel.here | with_reducible apply Sel.there)) ?_
    rw [show packF (tbL2 a (⟨.pointer (some ⟨f, 0, none⟩), .map (some rs), .slice none 0 0, .int .i64 (n : Int)⟩ : XA) T1) = packF [blk a [.pointer (some ⟨f, 0, none⟩), .map T1.r, .int .i64 T1.sum, .map (some rs), .slice none 0 0, .int .i64 (n : Int)] 191, moF T1.r T1.M] from rfl]
    refine g_unpack (l := [blk a [.pointer (some ⟨f, 0, none⟩), .map T1.r, .int .i64 T1.sum, .map (some rs), .slice none 0 0, .int .i64 (n : Int)] 191, moF T1.r T1.M]) (by repeat (first | with_reducible exact Sel.here | with_reducible apply Sel.there)) ?_
    (repeat (refine gG ?_; try intro _))
    refine gk_loop_sel (fun (q : Nat × (List (Int × Value))) => match q with | (j, M') => (j ≤ (setP l).length ∧ MapIs M' (uV ((setP l).take j)))) (fun (q : Nat × (List (Int × Value))) => match q with | (j, M') => [(0, .pointer (some ⟨a, 0, none⟩)), (32, .slice A1 (setP l).length c1), (33, .int .i64 ((setP l).length : Int)), (34, .int .i64 (j : Int))]) (fun (q : Nat × (List (Int × Value))) => match q with | (j, M') => [blk a [.pointer (some ⟨f, 0, none⟩), .map T1.r, .int .i64 T1.sum, .map (some rs), .slice none 0 0, .int .i64 (n : Int)] 191, moF T1.r T1.M, packF (frF f fs'), mpk rs (Value.int .u32) M']) (fun (q : Nat × (List (Int × Value))) => match q with | (j, M') => [sl A1 1 (IE .u32) (setP l)]) (fun (q : Nat × (List (Int × Value))) => match q with | (j, M') => (setP l).length - j) (0, []) rfl ⟨Nat.zero_le _, MapIs.nil.congr fun k => by simp [uV]⟩ (by repeat (first | exact trivial | refine ⟨rfl, ?_⟩)) sA sS ?_
    rintro ⟨j, M'⟩ hI
    replace hI : (j ≤ (setP l).length ∧ MapIs M' (uV ((setP l).take j))) := hI
    change GK _ _ [(0, .pointer (some ⟨a, 0, none⟩)), (32, .slice A1 (setP l).length c1), (33, .int .i64 ((setP l).length : Int)), (34, .int .i64 (j : Int))] [blk a [.pointer (some ⟨f, 0, none⟩), .map T1.r, .int .i64 T1.sum, .map (some rs), .slice none 0 0, .int .i64 (n : Int)] 191, moF T1.r T1.M, packF (frF f fs'), mpk rs (Value.int .u32) M'] [sl A1 1 (IE .u32) (setP l)]
    obtain ⟨hj, hu'⟩ := hI
    by_cases hlt2 : j < (setP l).length
    · obtain ⟨x, hx⟩ : ∃ b, (setP l)[j]? = some b := ⟨(setP l)[j], List.getElem?_eq_getElem hlt2⟩
      have htk := takeAt hx
      refine gk_elem (enc := IE .u32) (L := setP l) j mE hlt2 (by decide) (fun g o y eA hy => ?_)
      subst eA
      obtain rfl : x = y := by rw [hx] at hy; exact Option.some.inj hy
      have hI2 : j + 1 ≤ (setP l).length ∧ MapIs (msG x (.int .i64 1) M') (uV ((setP l).take (j + 1))) := ⟨hlt2, hu'.set fun k => by
        unfold uV
        rw [htk]
        by_cases e : k = x
        · subst e; simp
        · rw [if_neg e]
          simp [e]⟩
      (repeat' (first | (refine gG ?_; try intro _) | ((first | refine g_split rfl rfl tE (fun _ => ?_) (fun _ => ?_) | refine gk_cond rfl rfl tE (fun _ => ?_) (fun _ => ?_)) <;> (try first | (exfalso; omega; done) | (rename_i hx; exact absurd rfl hx) | (rename_i hx; cases hx; done)))))
      refine g_mv rfl (mv_mapUpdateG rfl x rfl rfl rfl rfl rfl Try.underlying81 kok_u (by first | ((repeat (first | with_reducible exact Upd.here _ | with_reducible apply Upd.there)); done) | ((repeat (first | exact Upd.here _ | apply Upd.there)); done) | fail) ?_)
      (repeat (refine gG ?_; try intro _))
      refine gk_say 34 (.int .i64 ((j + 1 : Nat) : Int)) rfl (by first | (congr 1; done) | (congr 1; omega)) ?_
      refine gk_again_sel rfl (j + 1, msG x (.int .i64 1) M') hI2 (by dsimp only; omega) (by repeat (first | exact trivial | refine ⟨rfl, ?_⟩)) sA sS
    · rw [List.take_of_length_le (by omega)] at hu'
      (repeat' (first | (refine gG ?_; try intro _) | ((first | refine g_split rfl rfl tE (fun _ => ?_) (fun _ => ?_) | refine gk_cond rfl rfl tE (fun _ => ?_) (fun _ => ?_)) <;> (try first | (exfalso; omega; done) | (rename_i hx; exact absurd rfl hx) | (rename_i hx; cases hx; done)))))
      refine gk_own 0 87 1 (IE .u32) ?_
      refine gk_pack (tbL2 a (⟨.pointer (some ⟨f, 0, none⟩), .map (some rs), .slice none 0 0, .int .i64 (n : Int)⟩ : XA) T1) [packF (frF f fs'), mpk rs (Value.int .u32) M', own 0 87 1 (.slice none 0 0) (IE .u32) []] sA ?_
      refine gk_fin hT rfl rfl .nil (fun w' hk => ?_)
      exact RetM.mkP (ll := fun r : AlD => alL a n r (commitA ⟨S, l, U, L⟩)) ((⟨f, fs', T1, rs, M', .slice none 0 0⟩ : AlD)) ⟨hcm, hf', hr, hu'⟩ rfl hk (fun b hb => (finE_mem h.2 b).1 hb) (show SelAll [tbF2 a (⟨.pointer (some ⟨f, 0, none⟩), .map (some rs), .slice none 0 0, .int .i64 (n : Int)⟩ : XA) T1, packF (frF f fs'), mpk rs (Value.int .u32) M', own 0 87 1 (.slice none 0 0) (IE .u32) []] _ from sA)
theorem asound_any (a n : Nat) (D : AlD) (s : AlS) (w : World) (hn : n ≤ 4096) (hI : AlI n D s) (h : Rd1 w (alF a n D s)) :
    Calls Try.prog 60 [.pointer (some ⟨a, 0, none⟩)].toArray w fun e w' => e = .returned (.bool true) ∧ Below w.heap.size w w' := by
  have hlens := hI.p.len
  obtain ⟨f, fs, T1, rs, M, v⟩ := D
  obtain ⟨S, l, U, L⟩ := s
  obtain ⟨hp, hf, hr, hu⟩ := hI
  dsimp only at hp hf hr hu hlens
  have hll := hr.len
  have hfl := hf.l.length_eq
  have hnil : fs.mo = none → fs.K = [] := fun e => by
    have h1 := hf.nil e
    have h2 := hf.k.length_eq
    rw [h1] at h2
    exact List.length_eq_zero_iff.1 h2
  have hrd := rda h
  obtain ⟨A, c, hv, _⟩ := own_rdv hrd.o
  replace hv : v = .slice A L.length c := hv
  subst hv
  have hsl : Rd1 w (sl A 1 (IE .u32) L) := SoU.rd_own hrd.o
  have hhas : ∀ b, b ∉ S → ∀ w, Rd1 w (packF (frF f fs)) → Calls Try.prog 110 [.pointer (some ⟨f, 0, none⟩), .int .u32 b].toArray w fun e w' => e = .returned (.bool false) ∧ Below w.heap.size w w' := fun b hb w h2 => by
    have h3 := lhas_any f fs b w h2 hnil
    rwa [tB_false fun h4 => hb (hf.k.mem_iff.1 h4)] at h3
  refine g_enter0 T [] [] [blk a [.pointer (some ⟨f, 0, none⟩), .map T1.r, .int .i64 T1.sum, .map (some rs), .slice A L.length c, .int .i64 (n : Int)] 191, tbF2 a (⟨.pointer (some ⟨f, 0, none⟩), .map (some rs), .slice A L.length c, .int .i64 (n : Int)⟩ : XA) T1, packF (frF f fs), mpk rs (Value.int .u32) M, sl A 1 (IE .u32) L] Try.func60 rfl Try.ntmps60 rfl (Rds.cons hrd.b (.cons hrd.t (.cons hrd.f (.cons hrd.m (.cons hsl .nil))))).kn ?_
  refine gk_rowR (g := a) mE ?_
  (repeat (refine gG ?_; try intro _))
  refine gk_any [0, 1, 2, 3, 4, 5] (Cut _ (fun _ : Unit => [(0, .pointer (some ⟨a, 0, none⟩)), (27, .bool false)]) (fun _ => []) (fun _ => [row a 0 [.pointer (some ⟨f, 0, none⟩), .map T1.r, .int .i64 T1.sum, .map (some rs), .slice A L.length c, .int .i64 (n : Int)], tbF2 a (⟨.pointer (some ⟨f, 0, none⟩), .map (some rs), .slice A L.length c, .int .i64 (n : Int)⟩ : XA) T1, packF (frF f fs), mpk rs (Value.int .u32) M, sl A 1 (IE .u32) L])) rfl rfl (by kernel_rfl) ?_ (cut_k fun _ => ?_)
  · skip
    refine gb_take 0 rfl (by decide +kernel) rfl rfl (ys_ev (nw := true) hT rfl sI) sF ?_
    refine gb_take 1 rfl (by decide +kernel) rfl rfl (ys_ev (nw := true) hT rfl sI) sF ?_
    refine gb_take 2 rfl (by decide +kernel) rfl rfl (ys_ev (nw := true) hT rfl sI) sF ?_
    refine gb_take 3 rfl (by decide +kernel) rfl rfl (by first | exact ys_blk hT rfl rfl mE rfl rfl | exact ys_row hT rfl rfl mE rfl rfl | exact ys_row0 hT rfl rfl mE rfl rfl) sF ?_
    refine gb_take 5 rfl (by decide +kernel) rfl rfl (ys_ev (nw := true) hT rfl sI) sF ?_
    refine gb_take 6 rfl (by decide +kernel) rfl rfl (ys_ev (nw := true) hT rfl sI) sF ?_
    refine gb_take 7 rfl (by decide +kernel) rfl rfl (ys_ev (nw := true) hT rfl sI) sF ?_
    refine gb_take 10 rfl (by decide +kernel) rfl rfl (ys_ev (nw := true) hT rfl sI) sF ?_
    refine gb_take 11 rfl (by decide +kernel) rfl rfl (ys_ev (nw := true) hT rfl sI) sF ?_
    refine gb_take 12 rfl (by decide +kernel) rfl rfl (ys_ev (nw := true) hT rfl sI) sF ?_
    refine gb_take 13 rfl (by decide +kernel) rfl rfl (by first | exact ys_blk hT rfl rfl mE rfl rfl | exact ys_row hT rfl rfl mE rfl rfl | exact ys_row0 hT rfl rfl mE rfl rfl) sF ?_
    refine gb_take 14 rfl (by decide +kernel) rfl rfl (ys_ev (nw := true) hT rfl sI) sF ?_
    refine gb_take 16 rfl (by decide +kernel) rfl rfl (ys_ev (nw := true) hT rfl sI) sF ?_
    refine gb_take 17 rfl (by decide +kernel) rfl rfl (ys_ev (nw := true) hT rfl sI) sF ?_
    refine gb_take 18 rfl (by decide +kernel) rfl rfl (ys_ev (nw := true) hT rfl sI) sF ?_
    refine gb_take 19 rfl (by decide +kernel) rfl rfl (by first | exact ys_blk hT rfl rfl mE rfl rfl | exact ys_row hT rfl rfl mE rfl rfl | exact ys_row0 hT rfl rfl mE rfl rfl) sF ?_
    refine gb_only 4 (by decide +kernel) rfl rfl ?_
    refine mv_call_bel (fun w hk => llen_any f fs w (hk.rR (φ := packF (frF f fs)) mE) (by omega)) rfl rfl rfl rfl rfl (by kernel_rfl) ?_
    refine ⟨sF, ?_⟩
    refine gb_only 8 (by decide +kernel) rfl rfl ?_
    refine mv_call_bel (fun w hk => len2_any a (⟨.pointer (some ⟨f, 0, none⟩), .map (some rs), .slice A L.length c, .int .i64 (n : Int)⟩ : XA) T1 l w hr (hk.rR (φ := tbF2 a (⟨.pointer (some ⟨f, 0, none⟩), .map (some rs), .slice A L.length c, .int .i64 (n : Int)⟩ : XA) T1) mE)) rfl rfl rfl rfl rfl (by kernel_rfl) ?_
    refine ⟨sF, ?_⟩
    refine gb_take 9 rfl (by decide +kernel) rfl rfl (ys_ev (nw := true) hT rfl sI) sF ?_
    refine gb_take 15 rfl (by decide +kernel) rfl rfl (ys_ev (nw := true) hT rfl sI) sF ?_
    refine gb_take 20 rfl (by decide +kernel) rfl rfl (ys_ev (nw := true) hT rfl sI) sF ?_
    try (refine gb_say 27 (.bool false) rfl (congrArg Value.bool (tB_false (by omega))) ?_)
    refine gb_nil (by decide +kernel) ?_
    exact ⟨(), (by repeat (first | exact trivial | refine ⟨rfl, ?_⟩)), sA, sS⟩
  (repeat (refine gG ?_; try intro _))
  refine gk_loop_sel (fun (q : Nat × Unit) => match q with | (i, z) => (i ≤ L.length)) (fun (q : Nat × Unit) => match q with | (i, z) => [(0, .pointer (some ⟨a, 0, none⟩)), (31, .slice A L.length c), (32, .int .i64 (L.length : Int)), (33, .int .i64 (i : Int))]) (fun (q : Nat × Unit) => match q with | (i, z) => []) (fun (q : Nat × Unit) => match q with | (i, z) => [row a 0 [.pointer (some ⟨f, 0, none⟩), .map T1.r, .int .i64 T1.sum, .map (some rs), .slice A L.length c, .int .i64 (n : Int)], tbF2 a (⟨.pointer (some ⟨f, 0, none⟩), .map (some rs), .slice A L.length c, .int .i64 (n : Int)⟩ : XA) T1, packF (frF f fs), mpk rs (Value.int .u32) M, sl A 1 (IE .u32) L]) (fun (q : Nat × Unit) => match q with | (i, z) => L.length - i) (0, ()) rfl (Nat.zero_le _) (by repeat (first | exact trivial | refine ⟨rfl, ?_⟩)) sA sS ?_
  rintro ⟨i, z⟩ hI
  replace hI : (i ≤ L.length) := hI
  change GK _ _ [(0, .pointer (some ⟨a, 0, none⟩)), (31, .slice A L.length c), (32, .int .i64 (L.length : Int)), (33, .int .i64 (i : Int))] [] [row a 0 [.pointer (some ⟨f, 0, none⟩), .map T1.r, .int .i64 T1.sum, .map (some rs), .slice A L.length c, .int .i64 (n : Int)], tbF2 a (⟨.pointer (some ⟨f, 0, none⟩), .map (some rs), .slice A L.length c, .int .i64 (n : Int)⟩ : XA) T1, packF (frF f fs), mpk rs (Value.int .u32) M, sl A 1 (IE .u32) L]
  by_cases hlt : i < L.length
  · obtain ⟨x, hx⟩ : ∃ b, L[i]? = some b := ⟨L[i], List.getElem?_eq_getElem hlt⟩
    have hxL := List.mem_of_getElem? hx
    have hc0 : l.count x = 0 := List.count_eq_zero.2 fun h2 => hp.lL x h2 hxL
    refine gk_elem (enc := IE .u32) (L := L) i mE hlt (by decide) (fun g o y eA hy => ?_)
    refine gk_lessR (φ := sl A 1 (IE .u32) L) (ψ := sl A 1 (IE .u32) L) mE (fun w h => h) (fun b h => h) ?_
    obtain rfl : x = y := by rw [hx] at hy; exact Option.some.inj hy
    subst eA
    (repeat' (first | (refine gG ?_; try intro _) | (refine g_mv rfl ?_; first | refine mv_call_bel (fun w hk => hhas x (fun h2 => hp.fL x h2 hxL) w (hk.rR (φ := packF (frF f fs)) mE)) rfl rfl rfl rfl rfl (by kernel_rfl) ?_ | refine mv_call_bel (fun w hk => count2_any a (⟨.pointer (some ⟨f, 0, none⟩), .map (some rs), .slice (some ⟨g, o, none⟩) L.length c, .int .i64 (n : Int)⟩ : XA) T1 l x w hr (hk.rR (φ := tbF2 a (⟨.pointer (some ⟨f, 0, none⟩), .map (some rs), .slice (some ⟨g, o, none⟩) L.length c, .int .i64 (n : Int)⟩ : XA) T1) mE)) rfl rfl rfl rfl rfl (by kernel_rfl) ?_) | ((first | refine g_split rfl rfl tE (fun _ => ?_) (fun _ => ?_) | refine gk_cond rfl rfl tE (fun _ => ?_) (fun _ => ?_)) <;> (try first | (exfalso; omega; done) | (rename_i hx; exact absurd rfl hx) | (rename_i hx; cases hx; done)))))
    refine g_yd rfl rfl ((ys_lookupG (S := [mpk rs (Value.int .u32) M]) x rfl rfl rfl rfl Try.underlying81 kok_u zero_I (.head _)).ydS sF) ?_
    refine g_say 57 (.int .i64 1) rfl ((lk_u hu x).trans (by rw [if_pos (hp.sub x hxL)])) ?_
    (repeat' (first | (refine gG ?_; try intro _) | ((first | refine g_split rfl rfl tE (fun _ => ?_) (fun _ => ?_) | refine gk_cond rfl rfl tE (fun _ => ?_) (fun _ => ?_)) <;> (try first | (exfalso; omega; done) | (rename_i hx; exact absurd rfl hx) | (rename_i hx; cases hx; done)))))
    refine gk_say 33 (.int .i64 ((i + 1 : Nat) : Int)) rfl (by first | (congr 1; done) | (congr 1; omega)) ?_
    refine gk_again_sel rfl (i + 1, ()) (by omega) (by dsimp only; omega) (by repeat (first | exact trivial | refine ⟨rfl, ?_⟩)) sA sS
  · (repeat' (first | (refine gG ?_; try intro _) | ((first | refine g_split rfl rfl tE (fun _ => ?_) (fun _ => ?_) | refine gk_cond rfl rfl tE (fun _ => ?_) (fun _ => ?_)) <;> (try first | (exfalso; omega; done) | (rename_i hx; exact absurd rfl hx) | (rename_i hx; cases hx; done)))))
    refine g_mv rfl ?_; refine mv_call_rt (fun w hk => all2_any a (⟨.pointer (some ⟨f, 0, none⟩), .map (some rs), .slice A L.length c, .int .i64 (n : Int)⟩ : XA) T1 l w hr (hk.rR (φ := tbF2 a (⟨.pointer (some ⟨f, 0, none⟩), .map (some rs), .slice A L.length c, .int .i64 (n : Int)⟩ : XA) T1) mE)) rfl rfl rfl rfl rfl (by kernel_rfl) (fun _ => rfl) (fun v1 _ => ?_)
    refine g_freeze _ (by intro _; first | ((repeat (first | with_reducible exact Upd.here _ | with_reducible apply Upd.there)); done) | ((repeat (first | exact Upd.here _ | apply Upd.there)); done) | fail) (fun A1 c1 hA1 hA11 hA12 hA13 => ?_); subst hA1
    (repeat (refine gG ?_; try intro _))
    refine gk_share (φ := sl A1 1 (IE .u32) (setP l)) (by repeat (first | with_reducible exact Sel.here | with_reducible apply Sel.there)) ?_
    refine gk_loop_sel (fun (q : Nat × Unit) => match q with | (j, z) => (j ≤ (setP l).length)) (fun (q : Nat × Unit) => match q with | (j, z) => [(0, .pointer (some ⟨a, 0, none⟩)), (64, .slice A1 (setP l).length c1), (65, .int .i64 ((setP l).length : Int)), (66, .int .i64 (j : Int))]) (fun (q : Nat × Unit) => match q with | (j, z) => []) (fun (q : Nat × Unit) => match q with | (j, z) => [row a 0 [.pointer (some ⟨f, 0, none⟩), .map T1.r, .int .i64 T1.sum, .map (some rs), .slice A L.length c, .int .i64 (n : Int)], packF (frF f fs), sl A1 1 (IE .u32) (setP l)]) (fun (q : Nat × Unit) => match q with | (j, z) => (setP l).length - j) (0, ()) rfl (Nat.zero_le _) (by repeat (first | exact trivial | refine ⟨rfl, ?_⟩)) sA sS ?_
    rintro ⟨j, z⟩ hI
    replace hI : (j ≤ (setP l).length) := hI
    change GK _ _ [(0, .pointer (some ⟨a, 0, none⟩)), (64, .slice A1 (setP l).length c1), (65, .int .i64 ((setP l).length : Int)), (66, .int .i64 (j : Int))] [] [row a 0 [.pointer (some ⟨f, 0, none⟩), .map T1.r, .int .i64 T1.sum, .map (some rs), .slice A L.length c, .int .i64 (n : Int)], packF (frF f fs), sl A1 1 (IE .u32) (setP l)]
    by_cases hlt2 : j < (setP l).length
    · obtain ⟨x, hx⟩ : ∃ b, (setP l)[j]? = some b := ⟨(setP l)[j], List.getElem?_eq_getElem hlt2⟩
      have hxl := mem_setP.1 (List.mem_of_getElem? hx)
      refine gk_elem (enc := IE .u32) (L := setP l) j mE hlt2 (by decide) (fun g o y eA hy => ?_)
      subst eA
      obtain rfl : x = y := by rw [hx] at hy; exact Option.some.inj hy
      (repeat' (first | (refine gG ?_; try intro _) | (refine g_mv rfl ?_; first | refine mv_call_bel (fun w hk => hhas x (fun h2 => hp.fl x h2 hxl) w (hk.rR (φ := packF (frF f fs)) mE)) rfl rfl rfl rfl rfl (by kernel_rfl) ?_) | ((first | refine g_split rfl rfl tE (fun _ => ?_) (fun _ => ?_) | refine gk_cond rfl rfl tE (fun _ => ?_) (fun _ => ?_)) <;> (try first | (exfalso; omega; done) | (rename_i hx; exact absurd rfl hx) | (rename_i hx; cases hx; done)))))
      refine gk_say 66 (.int .i64 ((j + 1 : Nat) : Int)) rfl (by first | (congr 1; done) | (congr 1; omega)) ?_
      refine gk_again_sel rfl (j + 1, ()) (by omega) (by dsimp only; omega) (by repeat (first | exact trivial | refine ⟨rfl, ?_⟩)) sA sS
    · (repeat' (first | (refine gG ?_; try intro _) | ((first | refine g_split rfl rfl tE (fun _ => ?_) (fun _ => ?_) | refine gk_cond rfl rfl tE (fun _ => ?_) (fun _ => ?_)) <;> (try first | (exfalso; omega; done) | (rename_i hx; exact absurd rfl hx) | (rename_i hx; cases hx; done)))))
      refine gk_ret hT rfl rfl (.tmp rfl .nil) (fun w' hk => ?_)
      exact ⟨rfl, hk.toBelow⟩
end Go.Proofs.Ytdkgmgfadpnhbaa.Al

