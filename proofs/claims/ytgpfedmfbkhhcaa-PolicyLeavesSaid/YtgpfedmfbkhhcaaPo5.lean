/- The points that stay: the document's. -/
import Derived.Test.YtgpfedmfbkhhcaaPo4
namespace Go.Proofs.Ytgpfedmfbkhhcaa.Po
open Go.RowKit Mem Gx Ct Dd Hp
set_option linter.unusedVariables false
set_option linter.unusedSimpArgs false
set_option maxRecDepth 100000
set_option maxHeartbeats 4000000
theorem joinK {X : Cx} {ks : List KI} {ι : Type} (P : ι → Prop) (F : ι → Fr) (OO RR : ι → List Fact) {q : Prop} (r : Later (∀ i, P i → GK X ks (F i) (OO i) (RR i)) → q) (g : ∀ i, P i → GK X ks (F i) (OO i) (RR i)) : q := r ⟨g⟩
theorem rev_at {L : List Int} {r : Nat} {y : Int} (h : L[r]? = some y) : L.reverse.take (L.length - r) = L.reverse.take (L.length - (r + 1)) ++ [y] := by
  have hl := (List.getElem?_eq_some_iff.1 h).1
  rw [show L.length - r = (L.length - (r + 1)) + 1 by omega]
  refine take_snoc ?_
  rw [List.getElem?_reverse (by omega), show L.length - 1 - (L.length - (r + 1)) = r by omega]
  exact h
theorem rkept_any (c : CatD) (low ev : Int) (w : World) (hc : c.Ok) (h9 : c.K.length ≤ 1000) (hf0 : 0 ≤ c.fl) (hl0 : 0 ≤ low) (hl9 : low ≤ 18446744073709551615) (he0 : 0 ≤ ev) (h : Rd1 w (catF c)) :
    Calls Try.prog 23 [c.val, .int .u64 low, .int .u64 ev].toArray w (RetS (fun q : SlV => q.Ok (keptP c.K low c.fl ev).length) (fun q => q.v) (fun q => [sl q.A 1 (IE .u64) (keptP c.K low c.fl ev)]) [] w) := by
  obtain ⟨nv, ng, nb, fl, ⟨vA, vm, vc⟩, V, ⟨gA, gm, gc⟩, G, ⟨bA, bm, bc⟩, B, ⟨kA, km, kd⟩, K, ⟨tA, tm, tc⟩, M⟩ := c
  have hkn : km = K.length := hc.k.n
  have hml := moreK_len low fl ev
  dsimp only at h9 hf0
  dsimp only [CatD.val]
  refine g_enter0 T [] [] [catF (⟨nv, ng, nb, fl, ⟨vA, vm, vc⟩, V, ⟨gA, gm, gc⟩, G, ⟨bA, bm, bc⟩, B, ⟨kA, km, kd⟩, K, ⟨tA, tm, tc⟩, M⟩ : CatD)] Try.func23 rfl Try.ntmps23 rfl (Rds.cons h .nil).kn ?_
  refine gk_der [catF (⟨nv, ng, nb, fl, ⟨vA, vm, vc⟩, V, ⟨gA, gm, gc⟩, G, ⟨bA, bm, bc⟩, B, ⟨kA, km, kd⟩, K, ⟨tA, tm, tc⟩, M⟩ : CatD)] (φ := sl kA 1 (IE .u64) K) d_k sS ?_
  (repeat (refine gG ?_; try intro _))
  rename_i g3
  refine g_own 0 31 1 (IE .u64) ?_
  apply joinK (fun q : Option Addr × Nat => True) (fun q => [(3, .pointer (some ⟨g3, 0, none⟩)), (7, .slice q.1 (moreK low fl ev).length q.2), (9, .int .i64 ((km : Int) - 1))]) (fun q => [own 0 31 1 (.slice q.1 (moreK low fl ev).length q.2) (IE .u64) (moreK low fl ev), blk g3 [.int .i64 nv, .int .i64 ng, .int .i64 nb, .int .u64 fl, .slice vA vm vc, .slice gA gm gc, .slice bA bm bc, .slice kA km kd, .slice tA tm tc] 67]) (fun _ => [sl kA 1 (IE .u64) K])
  case r =>
    intro J
    by_cases hev : 0 < ev
    · by_cases hlo : fl < low
      · have hp : 0 < ev ∧ 0 < low := ⟨hev, by omega⟩
        have hmo := Ov.mod_le (low - 1) ev (by omega) (by omega)
        have hmd : (low - 1) / ev * ev = low - 1 - (low - 1) % ev := by have := Int.emod_add_mul_ediv (low - 1) ev; rw [Int.mul_comm]; omega
        have hd0 : 0 ≤ (low - 1) / ev := Int.ediv_nonneg (by omega) (by omega)
        have hst : KpI low fl ev (low - 1 - (low - 1) % ev) [] := by
          have e := KpI.start (fl := fl) hl0 hl9 he0
          have : downS (subS low 1) ev = low - 1 - (low - 1) % ev := by
            unfold downS subS
            rw [if_neg (by omega), if_neg (by omega)]
          rwa [this] at e
        (repeat' (first | (refine gG ?_; try intro _) | ((first | refine g_split rfl rfl tE (fun _ => ?_) (fun _ => ?_) | refine gk_cond rfl rfl tE (fun _ => ?_) (fun _ => ?_)) <;> (try first | (exfalso; omega; done) | (rename_i hx; exact absurd rfl hx) | (rename_i hx; cases hx; done)))))
        have hdq : (low - 1) / ev ≤ low - 1 := Int.ediv_le_self _ (by omega)
        refine g_pure true hT rfl rfl rfl (show 0 ≤ low - 1 ∧ 0 < ev ∧ inR .u64 ((low - 1) / ev) from ⟨by omega, hev, by simp only [inR]; omega⟩) ?_
        (repeat (refine gG ?_; try intro _))
        refine gk_say 8 (.int .u64 (low - 1 - (low - 1) % ev)) rfl (congrArg (Value.int .u64) hmd) ?_
        refine gk_loop_sel (fun (q : Int × (Option Addr) × Nat × (List Int)) => match q with | (nn, rA, rc, M) => (KpI low fl ev nn M ∧ ∃ q : Nat, nn = (q : Int) * ev)) (fun (q : Int × (Option Addr) × Nat × (List Int)) => match q with | (nn, rA, rc, M) => [(1, .int .u64 low), (2, .int .u64 ev), (3, .pointer (some ⟨g3, 0, none⟩)), (7, .slice rA M.length rc), (8, .int .u64 nn)]) (fun (q : Int × (Option Addr) × Nat × (List Int)) => match q with | (nn, rA, rc, M) => [own 0 31 1 (.slice rA M.length rc) (IE .u64) M, blk g3 [.int .i64 nv, .int .i64 ng, .int .i64 nb, .int .u64 fl, .slice vA vm vc, .slice gA gm gc, .slice bA bm bc, .slice kA km kd, .slice tA tm tc] 67]) (fun (q : Int × (Option Addr) × Nat × (List Int)) => match q with | (nn, rA, rc, M) => [sl kA 1 (IE .u64) K]) (fun (q : Int × (Option Addr) × Nat × (List Int)) => match q with | (nn, rA, rc, M) => 33 - M.length) (low - 1 - (low - 1) % ev, none, 0, []) rfl ⟨hst, ((low - 1) / ev).toNat, by rw [Int.toNat_of_nonneg hd0, hmd]⟩ (by repeat (first | exact trivial | refine ⟨rfl, ?_⟩)) sA sS ?_
        rintro ⟨nn, rA, rc, M⟩ hI
        replace hI : (KpI low fl ev nn M ∧ ∃ q : Nat, nn = (q : Int) * ev) := hI
        change GK _ _ [(1, .int .u64 low), (2, .int .u64 ev), (3, .pointer (some ⟨g3, 0, none⟩)), (7, .slice rA M.length rc), (8, .int .u64 nn)] [own 0 31 1 (.slice rA M.length rc) (IE .u64) M, blk g3 [.int .i64 nv, .int .i64 ng, .int .i64 nb, .int .u64 fl, .slice vA vm vc, .slice gA gm gc, .slice bA bm bc, .slice kA km kd, .slice tA tm tc] 67] [sl kA 1 (IE .u64) K]
        obtain ⟨hI, qq, hqq⟩ := hI
        have hM := hI.len
        have hn0 := hI.n0
        have hn9 := hI.n9
        by_cases h1 : nn < fl
        · have e := hI.full (.inr (.inl h1))
          subst e
          have hJ := J.out (rA, rc) trivial
          dsimp only at hJ
          (repeat' (first | (refine gG ?_; try intro _) | ((first | refine g_split rfl rfl tE (fun _ => ?_) (fun _ => ?_) | refine gk_cond rfl rfl tE (fun _ => ?_) (fun _ => ?_)) <;> (try first | (exfalso; omega; done) | (rename_i hx; exact absurd rfl hx) | (rename_i hx; cases hx; done)))))
          refine gk_sel (by repeat (first | exact trivial | refine ⟨rfl, ?_⟩)) sA sS hJ
        · by_cases h2 : M.length < 32
          · (repeat' (first | (refine gG ?_; try intro _) | ((first | refine g_split rfl rfl tE (fun _ => ?_) (fun _ => ?_) | refine gk_cond rfl rfl tE (fun _ => ?_) (fun _ => ?_)) <;> (try first | (exfalso; omega; done) | (rename_i hx; exact absurd rfl hx) | (rename_i hx; cases hx; done)))))
            refine g_mv rfl (mv_append (L := M) rfl [nn] rfl rfl rfl rfl elt_U (by intro _; first | ((repeat (first | with_reducible exact Upd.here _ | with_reducible apply Upd.there)); done) | ((repeat (first | exact Upd.here _ | apply Upd.there)); done) | fail) (src_blk mE rfl) rfl oneU (by simp only [maxLen, List.length_append, List.length_cons, List.length_nil]; omega) (by simp only [List.length_append, List.length_cons, List.length_nil]; omega) (Nat.zero_le _) (fun v2 => ?_))
            refine g_ownv v2 mE (fun A2 c2 hv2 _ _ _ => ?_)
            subst hv2
            by_cases h3 : nn = 0
            · have e := hI.last hp h1 h2 (by omega)
              have hJ := J.out (A2, c2) trivial
              rw [← e] at hJ
              dsimp only at hJ
              (repeat' (first | (refine gG ?_; try intro _) | ((first | refine g_split rfl rfl tE (fun _ => ?_) (fun _ => ?_) | refine gk_cond rfl rfl tE (fun _ => ?_) (fun _ => ?_)) <;> (try first | (exfalso; omega; done) | (rename_i hx; exact absurd rfl hx) | (rename_i hx; cases hx; done)))))
              refine gk_sel (by repeat (first | exact trivial | refine ⟨rfl, ?_⟩)) sA sS hJ
            · obtain ⟨q1, rfl⟩ : ∃ q1, qq = q1 + 1 := ⟨qq - 1, by
                have : qq ≠ 0 := fun e => h3 (by rw [hqq, e]; simp)
                omega⟩
              have hq1 : nn = (q1 : Int) * ev + ev := by rw [hqq]; push_cast; rw [Int.add_mul, Int.one_mul]
              have hq2 : 0 ≤ (q1 : Int) * ev := Int.mul_nonneg (by omega) he0
              have hst := hI.step hp h1 h2 (by omega)
              (repeat' (first | (refine gG ?_; try intro _) | ((first | refine g_split rfl rfl tE (fun _ => ?_) (fun _ => ?_) | refine gk_cond rfl rfl tE (fun _ => ?_) (fun _ => ?_)) <;> (try first | (exfalso; omega; done) | (rename_i hx; exact absurd rfl hx) | (rename_i hx; cases hx; done)))))
              refine gk_say 8 (.int .u64 (nn - ev)) rfl (by first | rfl | (congr 1; show (nn - ev) % 18446744073709551616 = _; omega)) ?_
              refine gk_again_sel rfl (nn - ev, A2, c2, M ++ [nn]) ⟨hst, q1, by omega⟩ (by dsimp only; simp only [List.length_append, List.length_singleton]; omega) (by repeat (first | exact trivial | refine ⟨rfl, ?_⟩)) sA sS
          · have e := hI.full (.inr (.inr (by omega)))
            subst e
            have hJ := J.out (rA, rc) trivial
            dsimp only at hJ
            (repeat' (first | (refine gG ?_; try intro _) | ((first | refine g_split rfl rfl tE (fun _ => ?_) (fun _ => ?_) | refine gk_cond rfl rfl tE (fun _ => ?_) (fun _ => ?_)) <;> (try first | (exfalso; omega; done) | (rename_i hx; exact absurd rfl hx) | (rename_i hx; cases hx; done)))))
            refine gk_sel (by repeat (first | exact trivial | refine ⟨rfl, ?_⟩)) sA sS hJ
      · have e0 := moreK_no hf0 (fun h => hlo h.2 : ¬ (0 < ev ∧ fl < low))
        have hJ := J.out (none, 0) trivial
        rw [e0] at hJ
        dsimp only at hJ
        (repeat' (first | (refine gG ?_; try intro _) | ((first | refine g_split rfl rfl tE (fun _ => ?_) (fun _ => ?_) | refine gk_cond rfl rfl tE (fun _ => ?_) (fun _ => ?_)) <;> (try first | (exfalso; omega; done) | (rename_i hx; exact absurd rfl hx) | (rename_i hx; cases hx; done)))))
        refine gk_sel (by repeat (first | exact trivial | refine ⟨rfl, ?_⟩)) sA sS hJ
    · have e0 := moreK_no hf0 (fun h => hev h.1 : ¬ (0 < ev ∧ fl < low))
      have hJ := J.out (none, 0) trivial
      rw [e0] at hJ
      dsimp only at hJ
      (repeat' (first | (refine gG ?_; try intro _) | ((first | refine g_split rfl rfl tE (fun _ => ?_) (fun _ => ?_) | refine gk_cond rfl rfl tE (fun _ => ?_) (fun _ => ?_)) <;> (try first | (exfalso; omega; done) | (rename_i hx; exact absurd rfl hx) | (rename_i hx; cases hx; done)))))
      refine gk_sel (by repeat (first | exact trivial | refine ⟨rfl, ?_⟩)) sA sS hJ
  case g =>
    rintro ⟨rA, rc⟩ _
    dsimp only
    refine gk_say 9 (.int .i64 ((K.length : Int) - 1)) rfl (by rw [hkn]) ?_
    refine gk_loop_sel (fun (q : Nat × (Option Addr) × Nat × (List Int)) => match q with | (r, rA, rc, M) => (r ≤ K.length ∧ M.length ≤ 32 ∧ M = moreK low fl ev ++ K.reverse.take (K.length - r))) (fun (q : Nat × (Option Addr) × Nat × (List Int)) => match q with | (r, rA, rc, M) => [(3, .pointer (some ⟨g3, 0, none⟩)), (7, .slice rA M.length rc), (9, .int .i64 ((r : Int) - 1))]) (fun (q : Nat × (Option Addr) × Nat × (List Int)) => match q with | (r, rA, rc, M) => [own 0 31 1 (.slice rA M.length rc) (IE .u64) M, blk g3 [.int .i64 nv, .int .i64 ng, .int .i64 nb, .int .u64 fl, .slice vA vm vc, .slice gA gm gc, .slice bA bm bc, .slice kA km kd, .slice tA tm tc] 67]) (fun (q : Nat × (Option Addr) × Nat × (List Int)) => match q with | (r, rA, rc, M) => [sl kA 1 (IE .u64) K]) (fun (q : Nat × (Option Addr) × Nat × (List Int)) => match q with | (r, rA, rc, M) => r) (K.length, rA, rc, moreK low fl ev) rfl ⟨Nat.le_refl _, hml, by simp⟩ (by repeat (first | exact trivial | refine ⟨rfl, ?_⟩)) sA sS ?_
    rintro ⟨r, rA, rc, M⟩ hI
    replace hI : (r ≤ K.length ∧ M.length ≤ 32 ∧ M = moreK low fl ev ++ K.reverse.take (K.length - r)) := hI
    change GK _ _ [(3, .pointer (some ⟨g3, 0, none⟩)), (7, .slice rA M.length rc), (9, .int .i64 ((r : Int) - 1))] [own 0 31 1 (.slice rA M.length rc) (IE .u64) M, blk g3 [.int .i64 nv, .int .i64 ng, .int .i64 nb, .int .u64 fl, .slice vA vm vc, .slice gA gm gc, .slice bA bm bc, .slice kA km kd, .slice tA tm tc] 67] [sl kA 1 (IE .u64) K]
    obtain ⟨hr, hM, eM⟩ := hI
    apply joinK (fun q : Option Addr × Nat × List Int => q.2.2 = (moreK low fl ev ++ K.reverse).take 32) (fun q => [(7, .slice q.1 q.2.2.length q.2.1), (10, .slice none 0 0), (11, .int .i64 ((q.2.2.length : Int) - 1))]) (fun q => [own 0 31 1 (.slice q.1 q.2.2.length q.2.1) (IE .u64) q.2.2]) (fun _ => [])
    case r =>
      intro J
      by_cases h0 : 0 < r
      · by_cases h32 : M.length < 32
        · obtain ⟨r, rfl⟩ : ∃ r', r = r' + 1 := ⟨r - 1, by omega⟩
          obtain ⟨y, hy⟩ : ∃ y, K[r]? = some y := ⟨K[r], List.getElem?_eq_getElem (by omega)⟩
          have hra := rev_at hy
          refine gk_elem (enc := IE .u64) (L := K) r mE (by omega) (by decide) (fun kb ko y' eA hy' => ?_)
          subst eA
          obtain rfl : y = y' := by rw [hy] at hy'; exact Option.some.inj hy'
          refine gk_say 9 (.int .i64 (r : Int)) rfl (by congr 1; omega) ?_
          (repeat' (first | (refine gG ?_; try intro _) | ((first | refine g_split rfl rfl tE (fun _ => ?_) (fun _ => ?_) | refine gk_cond rfl rfl tE (fun _ => ?_) (fun _ => ?_)) <;> (try first | (exfalso; omega; done) | (rename_i hx; exact absurd rfl hx) | (rename_i hx; cases hx; done)))))
          refine g_mv rfl (mv_append (L := M) rfl [y] rfl rfl rfl rfl elt_U (by intro _; first | ((repeat (first | with_reducible exact Upd.here _ | with_reducible apply Upd.there)); done) | ((repeat (first | exact Upd.here _ | apply Upd.there)); done) | fail) (src_blk mE rfl) rfl oneU (by simp only [maxLen, List.length_append, List.length_cons, List.length_nil]; omega) (by simp only [List.length_append, List.length_cons, List.length_nil]; omega) (Nat.zero_le _) (fun v2 => ?_))
          refine g_ownv v2 mE (fun A2 c2 hv2 _ _ _ => ?_)
          subst hv2
          (repeat' (first | (refine gG ?_; try intro _) | ((first | refine g_split rfl rfl tE (fun _ => ?_) (fun _ => ?_) | refine gk_cond rfl rfl tE (fun _ => ?_) (fun _ => ?_)) <;> (try first | (exfalso; omega; done) | (rename_i hx; exact absurd rfl hx) | (rename_i hx; cases hx; done)))))
          refine gk_again_sel rfl (r, A2, c2, M ++ [y]) ⟨by omega, by simp; omega, by rw [eM, List.append_assoc, hra]⟩ (by dsimp only; omega) (by repeat (first | exact trivial | refine ⟨rfl, ?_⟩)) sA sS
        · have e : M = (moreK low fl ev ++ K.reverse).take 32 := by
            have h1 : M.length = 32 := by omega
            rw [eM, List.length_append, List.length_take, List.length_reverse] at h1
            rw [eM, List.take_append, List.take_of_length_le hml, show 32 - (moreK low fl ev).length = K.length - r by omega]
          have hJ := J.out (rA, rc, M) e
          dsimp only at hJ
          (repeat' (first | (refine gG ?_; try intro _) | ((first | refine g_split rfl rfl tE (fun _ => ?_) (fun _ => ?_) | refine gk_cond rfl rfl tE (fun _ => ?_) (fun _ => ?_)) <;> (try first | (exfalso; omega; done) | (rename_i hx; exact absurd rfl hx) | (rename_i hx; cases hx; done)))))
          refine gk_sel (by repeat (first | exact trivial | refine ⟨rfl, ?_⟩)) sA sS hJ
      · have e : M = (moreK low fl ev ++ K.reverse).take 32 := by
          obtain rfl : r = 0 := by omega
          rw [Nat.sub_zero, List.take_of_length_le (by rw [List.length_reverse]; exact Nat.le_refl _)] at eM
          rw [← eM, List.take_of_length_le hM]
        have hJ := J.out (rA, rc, M) e
        dsimp only at hJ
        (repeat' (first | (refine gG ?_; try intro _) | ((first | refine g_split rfl rfl tE (fun _ => ?_) (fun _ => ?_) | refine gk_cond rfl rfl tE (fun _ => ?_) (fun _ => ?_)) <;> (try first | (exfalso; omega; done) | (rename_i hx; exact absurd rfl hx) | (rename_i hx; cases hx; done)))))
        refine gk_sel (by repeat (first | exact trivial | refine ⟨rfl, ?_⟩)) sA sS hJ
    case g =>
      rintro ⟨bA, bc, Bk⟩ hB
      dsimp only at hB ⊢
      have hBl : Bk.length ≤ 32 := by rw [hB]; exact List.length_take_le _ _
      have hBe : Bk.reverse = keptP K low fl ev := by rw [hB]; exact keptP_back K low fl ev
      refine gk_freeze (.slice bA Bk.length bc) (by intro _; first | ((repeat (first | with_reducible exact Upd.here _ | with_reducible apply Upd.there)); done) | ((repeat (first | exact Upd.here _ | apply Upd.there)); done) | fail) (fun B4 d4 hv hA41 hA42 hA43 => ?_)
      injection hv with e1 e2 e3
      subst e1
      subst e3
      refine gk_share (φ := sl bA 1 (IE .u64) Bk) (by repeat (first | with_reducible exact Sel.here | with_reducible apply Sel.there)) ?_
      refine gk_own 0 31 1 (IE .u64) ?_
      refine gk_loop_sel (fun (q : Nat × (Option Addr) × Nat × (List Int)) => match q with | (r, oA, oc, Q) => (r ≤ Bk.length ∧ Q = Bk.reverse.take (Bk.length - r))) (fun (q : Nat × (Option Addr) × Nat × (List Int)) => match q with | (r, oA, oc, Q) => [(7, .slice bA Bk.length bc), (10, .slice oA Q.length oc), (11, .int .i64 ((r : Int) - 1))]) (fun (q : Nat × (Option Addr) × Nat × (List Int)) => match q with | (r, oA, oc, Q) => [own 0 31 1 (.slice oA Q.length oc) (IE .u64) Q]) (fun (q : Nat × (Option Addr) × Nat × (List Int)) => match q with | (r, oA, oc, Q) => [sl bA 1 (IE .u64) Bk]) (fun (q : Nat × (Option Addr) × Nat × (List Int)) => match q with | (r, oA, oc, Q) => r) (Bk.length, none, 0, []) rfl ⟨Nat.le_refl _, by simp⟩ (by repeat (first | exact trivial | refine ⟨rfl, ?_⟩)) sA sS ?_
      rintro ⟨r, oA, oc, Q⟩ hI
      replace hI : (r ≤ Bk.length ∧ Q = Bk.reverse.take (Bk.length - r)) := hI
      change GK _ _ [(7, .slice bA Bk.length bc), (10, .slice oA Q.length oc), (11, .int .i64 ((r : Int) - 1))] [own 0 31 1 (.slice oA Q.length oc) (IE .u64) Q] [sl bA 1 (IE .u64) Bk]
      obtain ⟨hr2, eQ⟩ := hI
      have hQl : Q.length ≤ 32 := by rw [eQ, List.length_take, List.length_reverse]; omega
      by_cases h0 : 0 < r
      · obtain ⟨r, rfl⟩ : ∃ r', r = r' + 1 := ⟨r - 1, by omega⟩
        obtain ⟨y, hy⟩ : ∃ y, Bk[r]? = some y := ⟨Bk[r], List.getElem?_eq_getElem (by omega)⟩
        have hra := rev_at hy
        refine gk_elem (enc := IE .u64) (L := Bk) r mE (by omega) (by decide) (fun kb ko y' eA hy' => ?_)
        subst eA
        obtain rfl : y = y' := by rw [hy] at hy'; exact Option.some.inj hy'
        refine gk_say 11 (.int .i64 (r : Int)) rfl (by congr 1; omega) ?_
        (repeat' (first | (refine gG ?_; try intro _) | ((first | refine g_split rfl rfl tE (fun _ => ?_) (fun _ => ?_) | refine gk_cond rfl rfl tE (fun _ => ?_) (fun _ => ?_)) <;> (try first | (exfalso; omega; done) | (rename_i hx; exact absurd rfl hx) | (rename_i hx; cases hx; done)))))
        refine g_mv rfl (mv_append (L := Q) rfl [y] rfl rfl rfl rfl elt_U (by intro _; first | ((repeat (first | with_reducible exact Upd.here _ | with_reducible apply Upd.there)); done) | ((repeat (first | exact Upd.here _ | apply Upd.there)); done) | fail) (src_blk mE rfl) rfl oneU (by simp only [maxLen, List.length_append, List.length_cons, List.length_nil]; omega) (by simp only [List.length_append, List.length_cons, List.length_nil]; omega) (Nat.zero_le _) (fun v2 => ?_))
        refine g_ownv v2 mE (fun A2 c2 hv2 _ _ _ => ?_)
        subst hv2
        (repeat' (first | (refine gG ?_; try intro _) | ((first | refine g_split rfl rfl tE (fun _ => ?_) (fun _ => ?_) | refine gk_cond rfl rfl tE (fun _ => ?_) (fun _ => ?_)) <;> (try first | (exfalso; omega; done) | (rename_i hx; exact absurd rfl hx) | (rename_i hx; cases hx; done)))))
        refine gk_again_sel rfl (r, A2, c2, Q ++ [y]) ⟨by omega, by rw [eQ, hra]⟩ (by dsimp only; omega) (by repeat (first | exact trivial | refine ⟨rfl, ?_⟩)) sA sS
      · have e : Q = keptP K low fl ev := by
          obtain rfl : r = 0 := by omega
          rw [Nat.sub_zero, List.take_of_length_le (by rw [List.length_reverse]; exact Nat.le_refl _)] at eQ
          rw [eQ, hBe]
        subst e
        (repeat' (first | (refine gG ?_; try intro _) | ((first | refine g_split rfl rfl tE (fun _ => ?_) (fun _ => ?_) | refine gk_cond rfl rfl tE (fun _ => ?_) (fun _ => ?_)) <;> (try first | (exfalso; omega; done) | (rename_i hx; exact absurd rfl hx) | (rename_i hx; cases hx; done)))))
        refine gk_freeze (.slice oA (keptP K low fl ev).length oc) (by intro _; first | ((repeat (first | with_reducible exact Upd.here _ | with_reducible apply Upd.there)); done) | ((repeat (first | exact Upd.here _ | apply Upd.there)); done) | fail) (fun Q4 q4 hv hQ1 hQ2 hQ3 => ?_)
        injection hv with e1 e2 e3
        subst e1
        subst e3
        refine gk_ret hT rfl rfl (.tmp rfl .nil) (fun w' hk => ?_)
        exact RetS.mk (⟨oA, (keptP K low fl ev).length, oc⟩ : SlV) ⟨rfl, hQ1, hQ2, hQ3⟩ rfl hk (.cons (RS1.own hk mE) .nil)
end Go.Proofs.Ytgpfedmfbkhhcaa.Po

