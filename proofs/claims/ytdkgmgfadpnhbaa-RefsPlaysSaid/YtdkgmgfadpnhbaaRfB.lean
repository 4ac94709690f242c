/- Law 15: two tables. -/
import Derived.Test.YtdkgmgfadpnhbaaRfA
import Derived.Test.YtdkgmgfadpnhbaaRfQ
namespace Go.Proofs.Ytdkgmgfadpnhbaa.Rf
open Go.RowKit Mem Gx Gm KyU Dd
set_option linter.unusedVariables false
set_option linter.unusedSimpArgs false
set_option maxRecDepth 100000
set_option maxHeartbeats 4000000
/-- What is known of the two tables and the two rows. -/
structure RsI (i : Nat) (T0 T1 : TabS) (A0 A1 : Option Addr) (c0 c1 : Nat) (l0 l1 : List Int) : Prop where
  f0 : RfI T0 l0
  f1 : RfI T1 l1
  b0 : l0.length ≤ i
  b1 : l1.length ≤ i
  z0 : (0 : Int) ∉ l0
  z1 : (0 : Int) ∉ l1
  o0 : (SlV.mk A0 l0.length c0).Ok l0.length
  o1 : (SlV.mk A1 l1.length c1).Ok l1.length
theorem rfi0 : RfI ⟨none, [], 0⟩ [] := ⟨fun _ => rfl, rfl, MapIs.nil.congr fun k => by simp [cntV], by simp⟩
theorem gk_at {X : Cx} {ks k : List KI} {f : Fr} {O R : List Fact} {id : Nat} {l : List Oper} {d : Bool} (h : nx 1000 ks = some (.region id l d k)) (hg : GK X (.code (.region id l.toArray d) :: k) f O R) : GK X ks f O R := .mk fun a w hr hk => nx_sound h (hg.out a w hr hk)
theorem joinD {X : Cx} {c : Code} {k : List KI} {ι : Type} (P : ι → Prop) (F : ι → Fr) (OO RR : ι → List Fact) {q : Prop} (r : Later (∀ i, P i → GK X (.code c :: k) (F i) (OO i) (RR i)) → q) (g : ∀ i, P i → GK X (.code c :: k) (F i) (OO i) (RR i)) : q := r ⟨g⟩
def secI (b : Bool) : Int := bif b then 1 else 0
theorem not_mem_erase {l : List Int} {x y : Int} (h : y ∉ l) : y ∉ l.erase x := fun h2 => h (List.mem_of_mem_erase h2)
theorem snoc_no {l : List Int} {b : Int} (h : (0 : Int) ∉ l) (hb : b ≠ 0) : (0 : Int) ∉ l ++ [b] := by
  rw [List.mem_append, List.mem_singleton]
  exact fun h2 => h2.elim h (fun h3 => hb h3.symm)
abbrev Jn : Type := TabS × TabS × (Option Addr × Nat × List Int) × (Option Addr × Nat × List Int)
theorem law15_any (A : Option Addr) (n c : Nat) (CS : List CallD) (w : World) (hn : n = CS.length) (hs : Rd1 w (sl A 3 CE CS)) :
    Calls Try.prog 5 [.slice A n c].toArray w fun e w' => e = .returned (.bool true) ∧ Below w.heap.size w w' := by
  refine g_enter0 T [] [] [sl A 3 CE CS] Try.func5 rfl Try.ntmps5 rfl (Rds.cons hs .nil).kn ?_
  by_cases h80 : 80 < n
  · (repeat' (first | (refine gG ?_; try intro _) | ((first | refine g_split rfl rfl tE (fun _ => ?_) (fun _ => ?_) | refine gk_cond rfl rfl tE (fun _ => ?_) (fun _ => ?_)) <;> (try first | (exfalso; omega; done) | (rename_i hx; exact absurd rfl hx) | (rename_i hx; cases hx; done)))))
    refine gk_ret hT rfl rfl (.tmp rfl .nil) (fun w' hk => ?_)
    exact ⟨rfl, hk.toBelow⟩
  (repeat' (first | (refine gG ?_; try intro _) | ((first | refine g_split rfl rfl tE (fun _ => ?_) (fun _ => ?_) | refine gk_cond rfl rfl tE (fun _ => ?_) (fun _ => ?_)) <;> (try first | (exfalso; omega; done) | (rename_i hx; exact absurd rfl hx) | (rename_i hx; cases hx; done)))))
  rename_i t0 t1 tb lb
  refine gk_pack (tbL t0 ⟨none, [], 0⟩) [blk t1 [.map none, .int .i64 0] 83, blk tb [.pointer (some ⟨t0, 0, none⟩), .pointer (some ⟨t1, 0, none⟩)] 84, blk lb [.slice none 0 0, .slice none 0 0] 86] sA ?_
  refine gk_pack (tbL t1 ⟨none, [], 0⟩) [tbF t0 ⟨none, [], 0⟩, blk tb [.pointer (some ⟨t0, 0, none⟩), .pointer (some ⟨t1, 0, none⟩)] 84, blk lb [.slice none 0 0, .slice none 0 0] 86] sA ?_
  refine gk_nilR none 1 (IE .u32) ?_
  refine gk_loop_sel (fun (q : Nat × TabS × TabS × (Option Addr) × (Option Addr) × Nat × Nat × (List Int) × (List Int)) => match q with | (i, T0, T1, A0, A1, c0, c1, l0, l1) => (i ≤ n ∧ RsI i T0 T1 A0 A1 c0 c1 l0 l1)) (fun (q : Nat × TabS × TabS × (Option Addr) × (Option Addr) × Nat × Nat × (List Int) × (List Int)) => match q with | (i, T0, T1, A0, A1, c0, c1, l0, l1) => [(0, .slice A n c), (3, .pointer (some ⟨tb, 0, none⟩)), (4, .pointer (some ⟨lb, 0, none⟩)), (5, .int .i64 (i : Int))]) (fun (q : Nat × TabS × TabS × (Option Addr) × (Option Addr) × Nat × Nat × (List Int) × (List Int)) => match q with | (i, T0, T1, A0, A1, c0, c1, l0, l1) => [blk tb [.pointer (some ⟨t0, 0, none⟩), .pointer (some ⟨t1, 0, none⟩)] 84, blk lb [.slice A0 l0.length c0, .slice A1 l1.length c1] 86, tbF t0 T0, tbF t1 T1]) (fun (q : Nat × TabS × TabS × (Option Addr) × (Option Addr) × Nat × Nat × (List Int) × (List Int)) => match q with | (i, T0, T1, A0, A1, c0, c1, l0, l1) => [sl A0 1 (IE .u32) l0, sl A1 1 (IE .u32) l1, sl A 3 CE CS]) (fun (q : Nat × TabS × TabS × (Option Addr) × (Option Addr) × Nat × Nat × (List Int) × (List Int)) => match q with | (i, T0, T1, A0, A1, c0, c1, l0, l1) => n - i) (0, ⟨none, [], 0⟩, ⟨none, [], 0⟩, none, none, 0, 0, [], []) rfl ⟨Nat.zero_le _, rfi0, rfi0, Nat.le_refl _, Nat.le_refl _, by simp, by simp, ⟨rfl, Nat.le_refl _, Nat.zero_le _, fun _ => rfl⟩, ⟨rfl, Nat.le_refl _, Nat.zero_le _, fun _ => rfl⟩⟩ (by repeat (first | exact trivial | refine ⟨rfl, ?_⟩)) sA sS ?_
  rintro ⟨i, T0, T1, A0, A1, c0, c1, l0, l1⟩ hI
  replace hI : (i ≤ n ∧ RsI i T0 T1 A0 A1 c0 c1 l0 l1) := hI
  change GK _ _ [(0, .slice A n c), (3, .pointer (some ⟨tb, 0, none⟩)), (4, .pointer (some ⟨lb, 0, none⟩)), (5, .int .i64 (i : Int))] [blk tb [.pointer (some ⟨t0, 0, none⟩), .pointer (some ⟨t1, 0, none⟩)] 84, blk lb [.slice A0 l0.length c0, .slice A1 l1.length c1] 86, tbF t0 T0, tbF t1 T1] [sl A0 1 (IE .u32) l0, sl A1 1 (IE .u32) l1, sl A 3 CE CS]
  obtain ⟨hi, hR⟩ := hI
  have hb0' := hR.b0
  have hb1' := hR.b1
  by_cases hlt : i < n
  · obtain ⟨cd, hcd⟩ : ∃ b, CS[i]? = some b := ⟨CS[i], List.getElem?_eq_getElem (by omega)⟩
    refine gk_elem (enc := CE) (L := CS) i mE (by omega) (by decide) (fun g o y eA hy => ?_)
    subst eA
    obtain rfl : cd = y := by rw [hcd] at hy; exact Option.some.inj hy
    obtain ⟨dr, sec, b⟩ := cd
    (repeat' (first | (refine gG ?_; try intro _) | ((first | refine g_split rfl rfl tE (fun _ => ?_) (fun _ => ?_) | refine gk_cond rfl rfl tE (fun _ => ?_) (fun _ => ?_)) <;> (try first | (exfalso; omega; done) | (rename_i hx; exact absurd rfl hx) | (rename_i hx; cases hx; done)))))
    refine gk_drawn_at [0, 1, 2, 3, 4, 5, 6] rfl rfl (by kernel_rfl) ?_
    (repeat (first | refine ga_nil (by decide +kernel) ?_ | refine ga_take (by decide +kernel) rfl rfl (ys_ev (nw := true) hT rfl sI) sF ?_ | refine ga_skip (by decide +kernel) rfl rfl sF ?_ | refine ga_take (by decide +kernel) rfl rfl (ys_blk hT rfl rfl mE rfl rfl) sF ?_ | refine ga_take (by decide +kernel) rfl rfl (ys_row hT rfl rfl mE rfl rfl) sF ?_ | refine ga_take (by decide +kernel) rfl rfl (ys_row0 hT rfl rfl mE rfl rfl) sF ?_ | (refine ga_mv (by decide +kernel) rfl ?_; (first | (refine mv_box rfl rfl rfl rfl ?_; intro _) | (refine mv_alloc rfl hT rfl rfl ?_; intro _) | refine mv_store hT rfl rfl rfl rfl rfl rfl sO rfl ?_ | (refine mv_buildSlice rfl hT rfl rfl rfl rfl rfl rfl rfl rfl ?_; intro _)); refine ⟨sF, ?_⟩) | refine ga_take (by decide +kernel) rfl rfl (ys_eql rfl rfl rfl rfl rfl (by kernel_rfl)) sF ?_ | refine ga_take (by decide +kernel) rfl rfl (ys_neq rfl rfl rfl rfl rfl (by kernel_rfl)) sF ?_))
    refine gk_say 7 (.int .u32 b) rfl rfl ?_
    apply joinD (fun q : Jn => RsI (i + 1) q.1 q.2.1 q.2.2.1.1 q.2.2.2.1 q.2.2.1.2.1 q.2.2.2.2.1 q.2.2.1.2.2 q.2.2.2.2.2) (fun q => [(0, .slice (some ⟨g, o, none⟩) n c), (3, .pointer (some ⟨tb, 0, none⟩)), (4, .pointer (some ⟨lb, 0, none⟩)), (5, .int .i64 (i : Int)), (6, .int .i64 (secI sec)), (7, .int .u32 b), (11, .slice none 0 0)]) (fun q => [blk tb [.pointer (some ⟨t0, 0, none⟩), .pointer (some ⟨t1, 0, none⟩)] 84, blk lb [.slice q.2.2.1.1 q.2.2.1.2.2.length q.2.2.1.2.1, .slice q.2.2.2.1 q.2.2.2.2.2.length q.2.2.2.2.1] 86, tbF t0 q.1, tbF t1 q.2.1]) (fun q => [sl q.2.2.1.1 1 (IE .u32) q.2.2.1.2.2, sl q.2.2.2.1 1 (IE .u32) q.2.2.2.2.2, sl (some ⟨g, o, none⟩) 3 CE CS])
    case r =>
      intro J
      cases sec
      · cases dr
        · as_aux_lemma =>
          by_cases hb0 : b = 0
          · subst hb0
            have hc : l0.count 0 = 0 := List.count_eq_zero.2 hR.z0
            (repeat' (first | (refine gG ?_; try intro _) | ((first | refine g_split rfl rfl tE (fun _ => ?_) (fun _ => ?_) | refine gk_cond rfl rfl tE (fun _ => ?_) (fun _ => ?_)) <;> (try first | (exfalso; omega; done) | (rename_i hx; exact absurd rfl hx) | (rename_i hx; cases hx; done)))))
            refine gk_any [0, 1, 2, 3, 4, 5, 6] (Cut _ (fun _ : Unit => [(0, .slice (some ⟨g, o, none⟩) n c), (3, .pointer (some ⟨tb, 0, none⟩)), (4, .pointer (some ⟨lb, 0, none⟩)), (5, .int .i64 (i : Int)), (6, .int .i64 0), (7, .int .u32 0), (97, .bool false)]) (fun _ => [blk tb [.pointer (some ⟨t0, 0, none⟩), .pointer (some ⟨t1, 0, none⟩)] 84, blk lb [.slice A0 l0.length c0, .slice A1 l1.length c1] 86, tbF t0 T0, tbF t1 T1]) (fun _ => [sl A0 1 (IE .u32) l0, sl A1 1 (IE .u32) l1, sl (some ⟨g, o, none⟩) 3 CE CS])) rfl rfl (by kernel_rfl) ?_ (cut_k fun _ => ?_)
            · skip
              refine gb_take 0 rfl (by decide +kernel) rfl rfl (ys_ev (nw := true) hT rfl sI) sF ?_
              refine gb_take 1 rfl (by decide +kernel) rfl rfl (ys_ev (nw := true) hT rfl sI) sF ?_
              refine gb_take 2 rfl (by decide +kernel) rfl rfl (by first | exact ys_blk hT rfl rfl mE rfl rfl | exact ys_row hT rfl rfl mE rfl rfl | exact ys_row0 hT rfl rfl mE rfl rfl) sF ?_
              refine gb_take 3 rfl (by decide +kernel) rfl rfl (ys_ev (nw := true) hT rfl sI) sF ?_
              refine gb_take 5 rfl (by decide +kernel) rfl rfl (ys_ev (nw := true) hT rfl sI) sF ?_
              refine gb_take 6 rfl (by decide +kernel) rfl rfl (ys_ev (nw := true) hT rfl sI) sF ?_
              refine gb_take 7 rfl (by decide +kernel) rfl rfl (by first | exact ys_blk hT rfl rfl mE rfl rfl | exact ys_row hT rfl rfl mE rfl rfl | exact ys_row0 hT rfl rfl mE rfl rfl) sF ?_
              refine gb_take 8 rfl (by decide +kernel) rfl rfl (ys_ev (nw := true) hT rfl sI) sF ?_
              refine gb_only 4 (by decide +kernel) rfl rfl ?_
              refine mv_call_bel (fun w hk => hold0_any t0 w) rfl rfl rfl rfl rfl (by kernel_rfl) ?_
              refine ⟨sF, ?_⟩
              refine gb_only 9 (by decide +kernel) rfl rfl ?_
              refine mv_call_bel (fun w hk => xcnt_any A0 l0.length c0 l0 0 w rfl (by omega) (hk.rR (φ := sl A0 1 (IE .u32) l0) mE)) rfl rfl rfl rfl rfl (by kernel_rfl) ?_
              refine ⟨sF, ?_⟩
              refine gb_take 10 rfl (by decide +kernel) rfl rfl (ys_ev (nw := true) hT rfl sI) sF ?_
              try (refine gb_say 97 (.bool false) rfl (congrArg Value.bool (tB_false (by omega))) ?_)
              refine gb_nil (by decide +kernel) ?_
              exact ⟨(), (by repeat (first | exact trivial | refine ⟨rfl, ?_⟩)), sA, sS⟩
            · (repeat (refine gG ?_; try intro _))
              refine gk_say 6 (.int .i64 (secI false)) rfl rfl ?_
              refine gk_at rfl ?_
              refine gk_sel (by repeat (first | exact trivial | refine ⟨rfl, ?_⟩)) sA sS (J.out (T0, T1, (A0, c0, l0), (A1, c1, l1)) ⟨hR.f0, hR.f1, Nat.le_succ_of_le hR.b0, Nat.le_succ_of_le hR.b1, hR.z0, hR.z1, hR.o0, hR.o1⟩)
          · obtain ⟨l', hl'⟩ : ∃ l', l' = l0 ++ [b] := ⟨_, rfl⟩
            have hll : l'.length = l0.length + 1 := by rw [hl', List.length_append]; rfl
            have hbn : l'.length ≤ i + 1 := by omega
            have hzn : (0 : Int) ∉ l' := by rw [hl']; exact snoc_no hR.z0 hb0
            (repeat' (first | (refine gG ?_; try intro _) | ((first | refine g_split rfl rfl tE (fun _ => ?_) (fun _ => ?_) | refine gk_cond rfl rfl tE (fun _ => ?_) (fun _ => ?_)) <;> (try first | (exfalso; omega; done) | (rename_i hx; exact absurd rfl hx) | (rename_i hx; cases hx; done)))))
            refine g_mv rfl ?_; refine mv_call_rt (fun w hk => cloneU_own A0 l0.length c0 l0 w rfl (by omega) (hk.pR (sl A0 1 (IE .u32) l0) mE)) rfl rfl rfl rfl rfl (by kernel_rfl) (fun _ => rfl) (fun v1 _ => ?_)
            (repeat (refine gG ?_; try intro _))
            refine g_mv rfl (mv_append (L := l0) rfl [b] rfl rfl rfl rfl elt_U (by intro _; first | ((repeat (first | with_reducible exact Upd.here _ | with_reducible apply Upd.there)); done) | ((repeat (first | exact Upd.here _ | apply Upd.there)); done) | fail) (src_blk mE rfl) rfl oneU (by simp only [maxLen, List.length_append, List.length_cons, List.length_nil]; omega) (by simp only [List.length_append, List.length_cons, List.length_nil]; omega) (Nat.zero_le _) (fun v2 => ?_))
            rw [← hl']
            refine g_freeze _ (by intro _; first | ((repeat (first | with_reducible exact Upd.here _ | with_reducible apply Upd.there)); done) | ((repeat (first | exact Upd.here _ | apply Upd.there)); done) | fail) (fun A' c' hA' hA'1 hA'2 hA'3 => ?_); subst hA'
            (repeat (refine gG ?_; try intro _))
            refine gk_share (φ := sl A' 1 (IE .u32) l') (by repeat (first | with_reducible exact Sel.here | with_reducible apply Sel.there)) ?_
            refine gk_sel (f' := [(0, .slice (some ⟨g, o, none⟩) n c), (3, .pointer (some ⟨tb, 0, none⟩)), (4, .pointer (some ⟨lb, 0, none⟩)), (5, .int .i64 (i : Int)), (6, .int .i64 0), (7, .int .u32 b)]) (O' := [blk tb [.pointer (some ⟨t0, 0, none⟩), .pointer (some ⟨t1, 0, none⟩)] 84, blk lb [.slice A' l'.length c', .slice A1 l1.length c1] 86, tbF t0 T0, tbF t1 T1]) (R' := [sl A' 1 (IE .u32) l', sl A0 1 (IE .u32) l0, sl A1 1 (IE .u32) l1, sl (some ⟨g, o, none⟩) 3 CE CS]) (by repeat (first | exact trivial | refine ⟨rfl, ?_⟩)) sA sS ?_
            refine gk_any [0, 1, 3, 4, 5, 6, 7] (Cut _ (fun q : {T' : TabS // RfI T' l'} => [(0, .slice (some ⟨g, o, none⟩) n c), (3, .pointer (some ⟨tb, 0, none⟩)), (4, .pointer (some ⟨lb, 0, none⟩)), (5, .int .i64 (i : Int)), (6, .int .i64 0), (7, .int .u32 b), (97, .bool false)]) (fun q => [blk tb [.pointer (some ⟨t0, 0, none⟩), .pointer (some ⟨t1, 0, none⟩)] 84, blk lb [.slice A' l'.length c', .slice A1 l1.length c1] 86, tbF t0 q.1, tbF t1 T1]) (fun _ => [sl A' 1 (IE .u32) l', sl A0 1 (IE .u32) l0, sl A1 1 (IE .u32) l1, sl (some ⟨g, o, none⟩) 3 CE CS])) rfl rfl (by kernel_rfl) ?_ (cut_k fun q => ?_)
            · skip
              refine gb_take 0 rfl (by decide +kernel) rfl rfl (ys_ev (nw := true) hT rfl sI) sF ?_
              refine gb_take 1 rfl (by decide +kernel) rfl rfl (ys_ev (nw := true) hT rfl sI) sF ?_
              refine gb_take 2 rfl (by decide +kernel) rfl rfl (by first | exact ys_blk hT rfl rfl mE rfl rfl | exact ys_row hT rfl rfl mE rfl rfl | exact ys_row0 hT rfl rfl mE rfl rfl) sF ?_
              refine gb_take 3 rfl (by decide +kernel) rfl rfl (ys_ev (nw := true) hT rfl sI) sF ?_
              refine gb_take 5 rfl (by decide +kernel) rfl rfl (ys_ev (nw := true) hT rfl sI) sF ?_
              refine gb_take 6 rfl (by decide +kernel) rfl rfl (ys_ev (nw := true) hT rfl sI) sF ?_
              refine gb_take 7 rfl (by decide +kernel) rfl rfl (by first | exact ys_blk hT rfl rfl mE rfl rfl | exact ys_row hT rfl rfl mE rfl rfl | exact ys_row0 hT rfl rfl mE rfl rfl) sF ?_
              refine gb_take 8 rfl (by decide +kernel) rfl rfl (ys_ev (nw := true) hT rfl sI) sF ?_
              refine gb_only 4 (by decide +kernel) rfl rfl ?_
              refine mv_call_mod (φ := tbF t0 T0) (ψ := fun T' : TabS => tbF t0 T') (fun w1 hk => by exact hold_any t0 T0 l0 b w1 hb0 (by omega) hR.f0 (hk.rO (φ := tbF t0 T0) mE)) rfl rfl rfl rfl rfl (by kernel_rfl) (by intro _; first | ((repeat (first | with_reducible exact Upd.here _ | with_reducible apply Upd.there)); done) | ((repeat (first | exact Upd.here _ | apply Upd.there)); done) | fail) (fun T' hT' => ?_)
              refine ⟨sF, ?_⟩
              refine gb_only 9 (by decide +kernel) rfl rfl ?_
              refine mv_call_bel (fun w hk => xcnt_any A' l'.length c' l' b w rfl (by omega) (hk.rR (φ := sl A' 1 (IE .u32) l') mE)) rfl rfl rfl rfl rfl (by kernel_rfl) ?_
              refine ⟨sF, ?_⟩
              refine gb_take 10 rfl (by decide +kernel) rfl rfl (ys_ev (nw := true) hT rfl sI) sF ?_
              try (refine gb_say 97 (.bool false) rfl (congrArg Value.bool (tB_false (by rw [hl']; exact fun h => h rfl))) ?_)
              refine gb_nil (by decide +kernel) ?_
              exact ⟨⟨T', by rw [hl']; exact hT'⟩, (by repeat (first | exact trivial | refine ⟨rfl, ?_⟩)), sA, sS⟩
            · (repeat (refine gG ?_; try intro _))
              refine gk_say 6 (.int .i64 (secI false)) rfl rfl ?_
              refine gk_at rfl ?_
              refine gk_sel (by repeat (first | exact trivial | refine ⟨rfl, ?_⟩)) sA sS (J.out (q.1, T1, (A', c', l'), (A1, c1, l1)) ⟨q.2, hR.f1, hbn, Nat.le_succ_of_le hR.b1, hzn, hR.z1, ⟨rfl, hA'1, hA'2, hA'3⟩, hR.o1⟩)
        · as_aux_lemma =>
          by_cases hm : b ∈ l0
          · have hc : 0 < l0.count b := List.count_pos_iff.2 hm
            have hle : (l0.erase b).length ≤ l0.length := List.length_erase_le
            obtain ⟨l', hl'⟩ : ∃ l', l' = l0.erase b := ⟨_, rfl⟩
            have hbn : l'.length ≤ i + 1 := by rw [hl']; omega
            have hzn : (0 : Int) ∉ l' := by rw [hl']; exact not_mem_erase hR.z0
            (repeat' (first | (refine gG ?_; try intro _) | ((first | refine g_split rfl rfl tE (fun _ => ?_) (fun _ => ?_) | refine gk_cond rfl rfl tE (fun _ => ?_) (fun _ => ?_)) <;> (try first | (exfalso; omega; done) | (rename_i hx; exact absurd rfl hx) | (rename_i hx; cases hx; done)))))
            refine g_mv rfl (mv_call_mod (φ := tbF t0 T0) (ψ := fun T' : TabS => tbF t0 T') (fun w1 hk => by exact drop_any t0 T0 l0 b w1 hc hR.f0 (hk.rO (φ := tbF t0 T0) mE)) rfl rfl rfl rfl rfl (by kernel_rfl) (by intro _; first | ((repeat (first | with_reducible exact Upd.here _ | with_reducible apply Upd.there)); done) | ((repeat (first | exact Upd.here _ | apply Upd.there)); done) | fail) (fun T' hT' => ?_))
            rw [← hl'] at hT' ⊢
            (repeat' (first | (refine gG ?_; try intro _) | (refine g_mv rfl ?_; first | refine mv_call_bel (fun w hk => xcnt_any A0 l0.length c0 l0 b w rfl (by omega) (hk.rR (φ := sl A0 1 (IE .u32) l0) mE)) rfl rfl rfl rfl rfl (by kernel_rfl) ?_) | ((first | refine g_split rfl rfl tE (fun _ => ?_) (fun _ => ?_) | refine gk_cond rfl rfl tE (fun _ => ?_) (fun _ => ?_)) <;> (try first | (exfalso; omega; done) | (rename_i hx; exact absurd rfl hx) | (rename_i hx; cases hx; done)))))
            refine g_mv rfl ?_; refine mv_call_rt (fun w hk => without_in A0 l0.length c0 l0 b w hR.o0 (by omega) hm (hk.rR (φ := sl A0 1 (IE .u32) l0) mE)) rfl rfl rfl rfl rfl (by kernel_rfl) (fun _ => rfl) (fun v1 _ => ?_)
            rw [← hl']
            refine g_freeze _ (by intro _; first | ((repeat (first | with_reducible exact Upd.here _ | with_reducible apply Upd.there)); done) | ((repeat (first | exact Upd.here _ | apply Upd.there)); done) | fail) (fun A' c' hA' hA'1 hA'2 hA'3 => ?_); subst hA'
            (repeat (refine gG ?_; try intro _))
            refine g_say 67 (.bool false) rfl (congrArg Value.bool (tB_false (fun h => h (tB_true (by omega)).symm))) ?_
            (repeat' (first | (refine gG ?_; try intro _) | (refine g_mv rfl ?_; first | refine mv_call_bel (fun w hk => xcnt_any A' l'.length c' l' b w rfl (by omega) (hk.rO (φ := sl A' 1 (IE .u32) l') mE)) rfl rfl rfl rfl rfl (by kernel_rfl) ?_) | ((first | refine g_split rfl rfl tE (fun _ => ?_) (fun _ => ?_) | refine gk_cond rfl rfl tE (fun _ => ?_) (fun _ => ?_)) <;> (try first | (exfalso; omega; done) | (rename_i hx; exact absurd rfl hx) | (rename_i hx; cases hx; done)))))
            refine gk_share (φ := sl A' 1 (IE .u32) l') (by repeat (first | with_reducible exact Sel.here | with_reducible apply Sel.there)) ?_
            refine gk_say 6 (.int .i64 (secI false)) rfl rfl ?_
            refine gk_at rfl ?_
            refine gk_sel (by repeat (first | exact trivial | refine ⟨rfl, ?_⟩)) sA sS (J.out (T', T1, (A', c', l'), (A1, c1, l1)) ⟨hT', hR.f1, hbn, Nat.le_succ_of_le hR.b1, hzn, hR.z1, ⟨rfl, hA'1, hA'2, hA'3⟩, hR.o1⟩)
          · have hc : l0.count b = 0 := List.count_eq_zero.2 hm
            (repeat' (first | (refine gG ?_; try intro _) | (refine g_mv rfl ?_; first | refine mv_call_bel (fun w hk => drop0_any t0 T0 l0 b w hc hR.f0 (hk.rO (φ := tbF t0 T0) mE)) rfl rfl rfl rfl rfl (by kernel_rfl) ?_) | ((first | refine g_split rfl rfl tE (fun _ => ?_) (fun _ => ?_) | refine gk_cond rfl rfl tE (fun _ => ?_) (fun _ => ?_)) <;> (try first | (exfalso; omega; done) | (rename_i hx; exact absurd rfl hx) | (rename_i hx; cases hx; done)))))
            refine g_mv rfl ?_; refine mv_call_bel (fun w hk => xcnt_any A0 l0.length c0 l0 b w rfl (by omega) (hk.rR (φ := sl A0 1 (IE .u32) l0) mE)) rfl rfl rfl rfl rfl (by kernel_rfl) ?_
            (repeat (refine gG ?_; try intro _))
            refine g_mv rfl ?_; refine mv_call_bel (fun w hk => without_no A0 l0.length c0 l0 b w rfl (by omega) hm (hk.rR (φ := sl A0 1 (IE .u32) l0) mE)) rfl rfl rfl rfl rfl (by kernel_rfl) ?_
            (repeat (refine gG ?_; try intro _))
            refine g_say 67 (.bool false) rfl (congrArg Value.bool (tB_false (fun h => h (tB_false (by omega)).symm))) ?_
            (repeat' (first | (refine gG ?_; try intro _) | (refine g_mv rfl ?_; first | refine mv_call_bel (fun w hk => xcnt_any A0 l0.length c0 l0 b w rfl (by omega) (hk.rR (φ := sl A0 1 (IE .u32) l0) mE)) rfl rfl rfl rfl rfl (by kernel_rfl) ?_) | ((first | refine g_split rfl rfl tE (fun _ => ?_) (fun _ => ?_) | refine gk_cond rfl rfl tE (fun _ => ?_) (fun _ => ?_)) <;> (try first | (exfalso; omega; done) | (rename_i hx; exact absurd rfl hx) | (rename_i hx; cases hx; done)))))
            refine gk_say 6 (.int .i64 (secI false)) rfl rfl ?_
            refine gk_at rfl ?_
            refine gk_sel (by repeat (first | exact trivial | refine ⟨rfl, ?_⟩)) sA sS (J.out (T0, T1, (A0, c0, l0), (A1, c1, l1)) ⟨hR.f0, hR.f1, Nat.le_succ_of_le hR.b0, Nat.le_succ_of_le hR.b1, hR.z0, hR.z1, hR.o0, hR.o1⟩)
      · cases dr
        · as_aux_lemma =>
          by_cases hb0 : b = 0
          · subst hb0
            have hc : l1.count 0 = 0 := List.count_eq_zero.2 hR.z1
            (repeat' (first | (refine gG ?_; try intro _) | ((first | refine g_split rfl rfl tE (fun _ => ?_) (fun _ => ?_) | refine gk_cond rfl rfl tE (fun _ => ?_) (fun _ => ?_)) <;> (try first | (exfalso; omega; done) | (rename_i hx; exact absurd rfl hx) | (rename_i hx; cases hx; done)))))
            refine gk_any [0, 1, 2, 3, 4, 5, 6] (Cut _ (fun _ : Unit => [(0, .slice (some ⟨g, o, none⟩) n c), (3, .pointer (some ⟨tb, 0, none⟩)), (4, .pointer (some ⟨lb, 0, none⟩)), (5, .int .i64 (i : Int)), (6, .int .i64 1), (7, .int .u32 0), (97, .bool false)]) (fun _ => [blk tb [.pointer (some ⟨t0, 0, none⟩), .pointer (some ⟨t1, 0, none⟩)] 84, blk lb [.slice A0 l0.length c0, .slice A1 l1.length c1] 86, tbF t0 T0, tbF t1 T1]) (fun _ => [sl A0 1 (IE .u32) l0, sl A1 1 (IE .u32) l1, sl (some ⟨g, o, none⟩) 3 CE CS])) rfl rfl (by kernel_rfl) ?_ (cut_k fun _ => ?_)
            · skip
              refine gb_take 0 rfl (by decide +kernel) rfl rfl (ys_ev (nw := true) hT rfl sI) sF ?_
              refine gb_take 1 rfl (by decide +kernel) rfl rfl (ys_ev (nw := true) hT rfl sI) sF ?_
              refine gb_take 2 rfl (by decide +kernel) rfl rfl (by first | exact ys_blk hT rfl rfl mE rfl rfl | exact ys_row hT rfl rfl mE rfl rfl | exact ys_row0 hT rfl rfl mE rfl rfl) sF ?_
              refine gb_take 3 rfl (by decide +kernel) rfl rfl (ys_ev (nw := true) hT rfl sI) sF ?_
              refine gb_take 5 rfl (by decide +kernel) rfl rfl (ys_ev (nw := true) hT rfl sI) sF ?_
              refine gb_take 6 rfl (by decide +kernel) rfl rfl (ys_ev (nw := true) hT rfl sI) sF ?_
              refine gb_take 7 rfl (by decide +kernel) rfl rfl (by first | exact ys_blk hT rfl rfl mE rfl rfl | exact ys_row hT rfl rfl mE rfl rfl | exact ys_row0 hT rfl rfl mE rfl rfl) sF ?_
              refine gb_take 8 rfl (by decide +kernel) rfl rfl (ys_ev (nw := true) hT rfl sI) sF ?_
              refine gb_only 4 (by decide +kernel) rfl rfl ?_
              refine mv_call_bel (fun w hk => hold0_any t1 w) rfl rfl rfl rfl rfl (by kernel_rfl) ?_
              refine ⟨sF, ?_⟩
              refine gb_only 9 (by decide +kernel) rfl rfl ?_
              refine mv_call_bel (fun w hk => xcnt_any A1 l1.length c1 l1 0 w rfl (by omega) (hk.rR (φ := sl A1 1 (IE .u32) l1) mE)) rfl rfl rfl rfl rfl (by kernel_rfl) ?_
              refine ⟨sF, ?_⟩
              refine gb_take 10 rfl (by decide +kernel) rfl rfl (ys_ev (nw := true) hT rfl sI) sF ?_
              try (refine gb_say 97 (.bool false) rfl (congrArg Value.bool (tB_false (by omega))) ?_)
              refine gb_nil (by decide +kernel) ?_
              exact ⟨(), (by repeat (first | exact trivial | refine ⟨rfl, ?_⟩)), sA, sS⟩
            · (repeat (refine gG ?_; try intro _))
              refine gk_say 6 (.int .i64 (secI true)) rfl rfl ?_
              refine gk_at rfl ?_
              refine gk_sel (by repeat (first | exact trivial | refine ⟨rfl, ?_⟩)) sA sS (J.out (T0, T1, (A0, c0, l0), (A1, c1, l1)) ⟨hR.f0, hR.f1, Nat.le_succ_of_le hR.b0, Nat.le_succ_of_le hR.b1, hR.z0, hR.z1, hR.o0, hR.o1⟩)
          · obtain ⟨l', hl'⟩ : ∃ l', l' = l1 ++ [b] := ⟨_, rfl⟩
            have hll : l'.length = l1.length + 1 := by rw [hl', List.length_append]; rfl
            have hbn : l'.length ≤ i + 1 := by omega
            have hzn : (0 : Int) ∉ l' := by rw [hl']; exact snoc_no hR.z1 hb0
            (repeat' (first | (refine gG ?_; try intro _) | ((first | refine g_split rfl rfl tE (fun _ => ?_) (fun _ => ?_) | refine gk_cond rfl rfl tE (fun _ => ?_) (fun _ => ?_)) <;> (try first | (exfalso; omega; done) | (rename_i hx; exact absurd rfl hx) | (rename_i hx; cases hx; done)))))
            refine g_mv rfl ?_; refine mv_call_rt (fun w hk => cloneU_own A1 l1.length c1 l1 w rfl (by omega) (hk.pR (sl A1 1 (IE .u32) l1) mE)) rfl rfl rfl rfl rfl (by kernel_rfl) (fun _ => rfl) (fun v1 _ => ?_)
            (repeat (refine gG ?_; try intro _))
            refine g_mv rfl (mv_append (L := l1) rfl [b] rfl rfl rfl rfl elt_U (by intro _; first | ((repeat (first | with_reducible exact Upd.here _ | with_reducible apply Upd.there)); done) | ((repeat (first | exact Upd.here _ | apply Upd.there)); done) | fail) (src_blk mE rfl) rfl oneU (by simp only [maxLen, List.length_append, List.length_cons, List.length_nil]; omega) (by simp only [List.length_append, List.length_cons, List.length_nil]; omega) (Nat.zero_le _) (fun v2 => ?_))
            rw [← hl']
            refine g_freeze _ (by intro _; first | ((repeat (first | with_reducible exact Upd.here _ | with_reducible apply Upd.there)); done) | ((repeat (first | exact Upd.here _ | apply Upd.there)); done) | fail) (fun A' c' hA' hA'1 hA'2 hA'3 => ?_); subst hA'
            (repeat (refine gG ?_; try intro _))
            refine gk_share (φ := sl A' 1 (IE .u32) l') (by repeat (first | with_reducible exact Sel.here | with_reducible apply Sel.there)) ?_
            refine gk_sel (f' := [(0, .slice (some ⟨g, o, none⟩) n c), (3, .pointer (some ⟨tb, 0, none⟩)), (4, .pointer (some ⟨lb, 0, none⟩)), (5, .int .i64 (i : Int)), (6, .int .i64 1), (7, .int .u32 b)]) (O' := [blk tb [.pointer (some ⟨t0, 0, none⟩), .pointer (some ⟨t1, 0, none⟩)] 84, blk lb [.slice A0 l0.length c0, .slice A' l'.length c'] 86, tbF t0 T0, tbF t1 T1]) (R' := [sl A' 1 (IE .u32) l', sl A0 1 (IE .u32) l0, sl A1 1 (IE .u32) l1, sl (some ⟨g, o, none⟩) 3 CE CS]) (by repeat (first | exact trivial | refine ⟨rfl, ?_⟩)) sA sS ?_
            refine gk_any [0, 1, 2, 4, 5, 6, 7] (Cut _ (fun q : {T' : TabS // RfI T' l'} => [(0, .slice (some ⟨g, o, none⟩) n c), (3, .pointer (some ⟨tb, 0, none⟩)), (4, .pointer (some ⟨lb, 0, none⟩)), (5, .int .i64 (i : Int)), (6, .int .i64 1), (7, .int .u32 b), (97, .bool false)]) (fun q => [blk tb [.pointer (some ⟨t0, 0, none⟩), .pointer (some ⟨t1, 0, none⟩)] 84, blk lb [.slice A0 l0.length c0, .slice A' l'.length c'] 86, tbF t0 T0, tbF t1 q.1]) (fun _ => [sl A' 1 (IE .u32) l', sl A0 1 (IE .u32) l0, sl A1 1 (IE .u32) l1, sl (some ⟨g, o, none⟩) 3 CE CS])) rfl rfl (by kernel_rfl) ?_ (cut_k fun q => ?_)
            · skip
              refine gb_take 0 rfl (by decide +kernel) rfl rfl (ys_ev (nw := true) hT rfl sI) sF ?_
              refine gb_take 1 rfl (by decide +kernel) rfl rfl (ys_ev (nw := true) hT rfl sI) sF ?_
              refine gb_take 2 rfl (by decide +kernel) rfl rfl (by first | exact ys_blk hT rfl rfl mE rfl rfl | exact ys_row hT rfl rfl mE rfl rfl | exact ys_row0 hT rfl rfl mE rfl rfl) sF ?_
              refine gb_take 3 rfl (by decide +kernel) rfl rfl (ys_ev (nw := true) hT rfl sI) sF ?_
              refine gb_take 5 rfl (by decide +kernel) rfl rfl (ys_ev (nw := true) hT rfl sI) sF ?_
              refine gb_take 6 rfl (by decide +kernel) rfl rfl (ys_ev (nw := true) hT rfl sI) sF ?_
              refine gb_take 7 rfl (by decide +kernel) rfl rfl (by first | exact ys_blk hT rfl rfl mE rfl rfl | exact ys_row hT rfl rfl mE rfl rfl | exact ys_row0 hT rfl rfl mE rfl rfl) sF ?_
              refine gb_take 8 rfl (by decide +kernel) rfl rfl (ys_ev (nw := true) hT rfl sI) sF ?_
              refine gb_only 4 (by decide +kernel) rfl rfl ?_
              refine mv_call_mod (φ := tbF t1 T1) (ψ := fun T' : TabS => tbF t1 T') (fun w1 hk => by exact hold_any t1 T1 l1 b w1 hb0 (by omega) hR.f1 (hk.rO (φ := tbF t1 T1) mE)) rfl rfl rfl rfl rfl (by kernel_rfl) (by intro _; first | ((repeat (first | with_reducible exact Upd.here _ | with_reducible apply Upd.there)); done) | ((repeat (first | exact Upd.here _ | apply Upd.there)); done) | fail) (fun T' hT' => ?_)
              refine ⟨sF, ?_⟩
              refine gb_only 9 (by decide +kernel) rfl rfl ?_
              refine mv_call_bel (fun w hk => xcnt_any A' l'.length c' l' b w rfl (by omega) (hk.rR (φ := sl A' 1 (IE .u32) l') mE)) rfl rfl rfl rfl rfl (by kernel_rfl) ?_
              refine ⟨sF, ?_⟩
              refine gb_take 10 rfl (by decide +kernel) rfl rfl (ys_ev (nw := true) hT rfl sI) sF ?_
              try (refine gb_say 97 (.bool false) rfl (congrArg Value.bool (tB_false (by rw [hl']; exact fun h => h rfl))) ?_)
              refine gb_nil (by decide +kernel) ?_
              exact ⟨⟨T', by rw [hl']; exact hT'⟩, (by repeat (first | exact trivial | refine ⟨rfl, ?_⟩)), sA, sS⟩
            · (repeat (refine gG ?_; try intro _))
              refine gk_say 6 (.int .i64 (secI true)) rfl rfl ?_
              refine gk_at rfl ?_
              refine gk_sel (by repeat (first | exact trivial | refine ⟨rfl, ?_⟩)) sA sS (J.out (T0, q.1, (A0, c0, l0), (A', c', l')) ⟨hR.f0, q.2, Nat.le_succ_of_le hR.b0, hbn, hR.z0, hzn, hR.o0, ⟨rfl, hA'1, hA'2, hA'3⟩⟩)
        · as_aux_lemma =>
          by_cases hm : b ∈ l1
          · have hc : 0 < l1.count b := List.count_pos_iff.2 hm
            have hle : (l1.erase b).length ≤ l1.length := List.length_erase_le
            obtain ⟨l', hl'⟩ : ∃ l', l' = l1.erase b := ⟨_, rfl⟩
            have hbn : l'.length ≤ i + 1 := by rw [hl']; omega
            have hzn : (0 : Int) ∉ l' := by rw [hl']; exact not_mem_erase hR.z1
            (repeat' (first | (refine gG ?_; try intro _) | ((first | refine g_split rfl rfl tE (fun _ => ?_) (fun _ => ?_) | refine gk_cond rfl rfl tE (fun _ => ?_) (fun _ => ?_)) <;> (try first | (exfalso; omega; done) | (rename_i hx; exact absurd rfl hx) | (rename_i hx; cases hx; done)))))
            refine g_mv rfl (mv_call_mod (φ := tbF t1 T1) (ψ := fun T' : TabS => tbF t1 T') (fun w1 hk => by exact drop_any t1 T1 l1 b w1 hc hR.f1 (hk.rO (φ := tbF t1 T1) mE)) rfl rfl rfl rfl rfl (by kernel_rfl) (by intro _; first | ((repeat (first | with_reducible exact Upd.here _ | with_reducible apply Upd.there)); done) | ((repeat (first | exact Upd.here _ | apply Upd.there)); done) | fail) (fun T' hT' => ?_))
            rw [← hl'] at hT' ⊢
            (repeat' (first | (refine gG ?_; try intro _) | (refine g_mv rfl ?_; first | refine mv_call_bel (fun w hk => xcnt_any A1 l1.length c1 l1 b w rfl (by omega) (hk.rR (φ := sl A1 1 (IE .u32) l1) mE)) rfl rfl rfl rfl rfl (by kernel_rfl) ?_) | ((first | refine g_split rfl rfl tE (fun _ => ?_) (fun _ => ?_) | refine gk_cond rfl rfl tE (fun _ => ?_) (fun _ => ?_)) <;> (try first | (exfalso; omega; done) | (rename_i hx; exact absurd rfl hx) | (rename_i hx; cases hx; done)))))
            refine g_mv rfl ?_; refine mv_call_rt (fun w hk => without_in A1 l1.length c1 l1 b w hR.o1 (by omega) hm (hk.rR (φ := sl A1 1 (IE .u32) l1) mE)) rfl rfl rfl rfl rfl (by kernel_rfl) (fun _ => rfl) (fun v1 _ => ?_)
            rw [← hl']
            refine g_freeze _ (by intro _; first | ((repeat (first | with_reducible exact Upd.here _ | with_reducible apply Upd.there)); done) | ((repeat (first | exact Upd.here _ | apply Upd.there)); done) | fail) (fun A' c' hA' hA'1 hA'2 hA'3 => ?_); subst hA'
            (repeat (refine gG ?_; try intro _))
            refine g_say 67 (.bool false) rfl (congrArg Value.bool (tB_false (fun h => h (tB_true (by omega)).symm))) ?_
            (repeat' (first | (refine gG ?_; try intro _) | (refine g_mv rfl ?_; first | refine mv_call_bel (fun w hk => xcnt_any A' l'.length c' l' b w rfl (by omega) (hk.rO (φ := sl A' 1 (IE .u32) l') mE)) rfl rfl rfl rfl rfl (by kernel_rfl) ?_) | ((first | refine g_split rfl rfl tE (fun _ => ?_) (fun _ => ?_) | refine gk_cond rfl rfl tE (fun _ => ?_) (fun _ => ?_)) <;> (try first | (exfalso; omega; done) | (rename_i hx; exact absurd rfl hx) | (rename_i hx; cases hx; done)))))
            refine gk_share (φ := sl A' 1 (IE .u32) l') (by repeat (first | with_reducible exact Sel.here | with_reducible apply Sel.there)) ?_
            refine gk_say 6 (.int .i64 (secI true)) rfl rfl ?_
            refine gk_at rfl ?_
            refine gk_sel (by repeat (first | exact trivial | refine ⟨rfl, ?_⟩)) sA sS (J.out (T0, T', (A0, c0, l0), (A', c', l')) ⟨hR.f0, hT', Nat.le_succ_of_le hR.b0, hbn, hR.z0, hzn, hR.o0, ⟨rfl, hA'1, hA'2, hA'3⟩⟩)
          · have hc : l1.count b = 0 := List.count_eq_zero.2 hm
            (repeat' (first | (refine gG ?_; try intro _) | (refine g_mv rfl ?_; first | refine mv_call_bel (fun w hk => drop0_any t1 T1 l1 b w hc hR.f1 (hk.rO (φ := tbF t1 T1) mE)) rfl rfl rfl rfl rfl (by kernel_rfl) ?_) | ((first | refine g_split rfl rfl tE (fun _ => ?_) (fun _ => ?_) | refine gk_cond rfl rfl tE (fun _ => ?_) (fun _ => ?_)) <;> (try first | (exfalso; omega; done) | (rename_i hx; exact absurd rfl hx) | (rename_i hx; cases hx; done)))))
            refine g_mv rfl ?_; refine mv_call_bel (fun w hk => xcnt_any A1 l1.length c1 l1 b w rfl (by omega) (hk.rR (φ := sl A1 1 (IE .u32) l1) mE)) rfl rfl rfl rfl rfl (by kernel_rfl) ?_
            (repeat (refine gG ?_; try intro _))
            refine g_mv rfl ?_; refine mv_call_bel (fun w hk => without_no A1 l1.length c1 l1 b w rfl (by omega) hm (hk.rR (φ := sl A1 1 (IE .u32) l1) mE)) rfl rfl rfl rfl rfl (by kernel_rfl) ?_
            (repeat (refine gG ?_; try intro _))
            refine g_say 67 (.bool false) rfl (congrArg Value.bool (tB_false (fun h => h (tB_false (by omega)).symm))) ?_
            (repeat' (first | (refine gG ?_; try intro _) | (refine g_mv rfl ?_; first | refine mv_call_bel (fun w hk => xcnt_any A1 l1.length c1 l1 b w rfl (by omega) (hk.rR (φ := sl A1 1 (IE .u32) l1) mE)) rfl rfl rfl rfl rfl (by kernel_rfl) ?_) | ((first | refine g_split rfl rfl tE (fun _ => ?_) (fun _ => ?_) | refine gk_cond rfl rfl tE (fun _ => ?_) (fun _ => ?_)) <;> (try first | (exfalso; omega; done) | (rename_i hx; exact absurd rfl hx) | (rename_i hx; cases hx; done)))))
            refine gk_say 6 (.int .i64 (secI true)) rfl rfl ?_
            refine gk_at rfl ?_
            refine gk_sel (by repeat (first | exact trivial | refine ⟨rfl, ?_⟩)) sA sS (J.out (T0, T1, (A0, c0, l0), (A1, c1, l1)) ⟨hR.f0, hR.f1, Nat.le_succ_of_le hR.b0, Nat.le_succ_of_le hR.b1, hR.z0, hR.z1, hR.o0, hR.o1⟩)
    case g =>
      clear hR hb0' hb1'
      rintro ⟨U0, U1, ⟨B0, d0, m0⟩, ⟨B1, d1, m1⟩⟩ hR
      dsimp only at hR ⊢
      have hb0' := hR.b0
      have hb1' := hR.b1
      have hms : (m0 ++ m1).length = m0.length + m1.length := List.length_append
      have hml := setP_len (m0 ++ m1)
      refine gk_any [0, 1, 2, 3, 4, 5, 6] (Cut _ (fun v : Value => [(0, .slice (some ⟨g, o, none⟩) n c), (3, .pointer (some ⟨tb, 0, none⟩)), (4, .pointer (some ⟨lb, 0, none⟩)), (5, .int .i64 (i : Int)), (6, .int .i64 (secI sec)), (7, .int .u32 b), (11, .slice none 0 0), (12, v)]) (fun v => [own 0 87 1 v (IE .u32) (setP (m0 ++ m1)), blk tb [.pointer (some ⟨t0, 0, none⟩), .pointer (some ⟨t1, 0, none⟩)] 84, blk lb [.slice B0 m0.length d0, .slice B1 m1.length d1] 86, tbF t0 U0, tbF t1 U1]) (fun _ => [sl B0 1 (IE .u32) m0, sl B1 1 (IE .u32) m1, sl (some ⟨g, o, none⟩) 3 CE CS])) rfl rfl (by kernel_rfl) ?_ (cut_k fun v => ?_)
      · skip
        refine gb_take 0 rfl (by decide +kernel) rfl rfl (ys_ev (nw := true) hT rfl sI) sF ?_
        refine gb_take 1 rfl (by decide +kernel) rfl rfl (by first | exact ys_blk hT rfl rfl mE rfl rfl | exact ys_row hT rfl rfl mE rfl rfl | exact ys_row0 hT rfl rfl mE rfl rfl) sF ?_
        refine gb_take 3 rfl (by decide +kernel) rfl rfl (ys_ev (nw := true) hT rfl sI) sF ?_
        refine gb_take 4 rfl (by decide +kernel) rfl rfl (by first | exact ys_blk hT rfl rfl mE rfl rfl | exact ys_row hT rfl rfl mE rfl rfl | exact ys_row0 hT rfl rfl mE rfl rfl) sF ?_
        refine gb_only 2 (by decide +kernel) rfl rfl ?_
        (refine mv_call_rt (fun w hk => cloneU_own B0 m0.length d0 m0 w rfl (by omega) (hk.pR (sl B0 1 (IE .u32) m0) mE)) rfl rfl rfl rfl rfl (by kernel_rfl) (fun _ => rfl) ?_; intro v1 _)
        refine ⟨sF, ?_⟩
        refine gb_only 5 (by decide +kernel) rfl rfl ?_
        (refine mv_append (L := m0) rfl m1 rfl rfl rfl rfl elt_U (by intro _; first | ((repeat (first | with_reducible exact Upd.here _ | with_reducible apply Upd.there)); done) | ((repeat (first | exact Upd.here _ | apply Upd.there)); done) | fail) (src_R mE) rfl oneU (by first | omega | (simp only [maxLen, List.length_append]; omega) | (simp only [maxLen]; omega)) (by first | omega | (simp only [List.length_append]; omega)) (Nat.zero_le _) ?_; intro v2)
        refine ⟨sF, ?_⟩
        refine gb_only 6 (by decide +kernel) rfl rfl ?_
        (refine mv_call_rt (fun w hk => set_own v2 (m0 ++ m1) w (by omega) (hk.rO (φ := own 0 87 1 v2 (IE .u32) (m0 ++ m1)) mE)) rfl rfl rfl rfl rfl (by kernel_rfl) (fun _ => rfl) ?_; intro v3 _)
        refine ⟨sF, ?_⟩
        refine gb_take 7 rfl (by decide +kernel) rfl rfl (ys_ev (nw := true) hT rfl sI) sF ?_
        refine gb_nil (by decide +kernel) ?_
        exact ⟨v3, (by repeat (first | exact trivial | refine ⟨rfl, ?_⟩)), sA, sS⟩
      · refine gk_freeze _ (by intro _; first | ((repeat (first | with_reducible exact Upd.here _ | with_reducible apply Upd.there)); done) | ((repeat (first | exact Upd.here _ | apply Upd.there)); done) | fail) (fun AA cc hAA hAA1 hAA2 hAA3 => ?_); subst hAA
        refine gk_share (φ := sl AA 1 (IE .u32) (setP (m0 ++ m1))) (by repeat (first | with_reducible exact Sel.here | with_reducible apply Sel.there)) ?_
        refine gk_own 0 87 1 (IE .u32) ?_
        (repeat (refine gG ?_; try intro _))
        refine gk_loop_sel (fun (q : Nat × Value) => match q with | (j, pv) => (j ≤ (setP (m0 ++ m1)).length)) (fun (q : Nat × Value) => match q with | (j, pv) => [(0, .slice (some ⟨g, o, none⟩) n c), (3, .pointer (some ⟨tb, 0, none⟩)), (4, .pointer (some ⟨lb, 0, none⟩)), (5, .int .i64 (i : Int)), (6, .int .i64 (secI sec)), (7, .int .u32 b), (11, pv), (12, .slice AA (setP (m0 ++ m1)).length cc), (13, .int .i64 (j : Int))]) (fun (q : Nat × Value) => match q with | (j, pv) => [own 0 87 1 pv (IE .u32) (((setP (m0 ++ m1)).take j).filter (dif m0 m1)), blk tb [.pointer (some ⟨t0, 0, none⟩), .pointer (some ⟨t1, 0, none⟩)] 84, blk lb [.slice B0 m0.length d0, .slice B1 m1.length d1] 86, tbF t0 U0, tbF t1 U1]) (fun (q : Nat × Value) => match q with | (j, pv) => [sl AA 1 (IE .u32) (setP (m0 ++ m1)), sl B0 1 (IE .u32) m0, sl B1 1 (IE .u32) m1, sl (some ⟨g, o, none⟩) 3 CE CS]) (fun (q : Nat × Value) => match q with | (j, pv) => (setP (m0 ++ m1)).length - j) (0, .slice none 0 0) rfl (Nat.zero_le _) (by repeat (first | exact trivial | refine ⟨rfl, ?_⟩)) sA sS ?_
        rintro ⟨j, pv⟩ hI
        replace hI : (j ≤ (setP (m0 ++ m1)).length) := hI
        change GK _ _ [(0, .slice (some ⟨g, o, none⟩) n c), (3, .pointer (some ⟨tb, 0, none⟩)), (4, .pointer (some ⟨lb, 0, none⟩)), (5, .int .i64 (i : Int)), (6, .int .i64 (secI sec)), (7, .int .u32 b), (11, pv), (12, .slice AA (setP (m0 ++ m1)).length cc), (13, .int .i64 (j : Int))] [own 0 87 1 pv (IE .u32) (((setP (m0 ++ m1)).take j).filter (dif m0 m1)), blk tb [.pointer (some ⟨t0, 0, none⟩), .pointer (some ⟨t1, 0, none⟩)] 84, blk lb [.slice B0 m0.length d0, .slice B1 m1.length d1] 86, tbF t0 U0, tbF t1 U1] [sl AA 1 (IE .u32) (setP (m0 ++ m1)), sl B0 1 (IE .u32) m0, sl B1 1 (IE .u32) m1, sl (some ⟨g, o, none⟩) 3 CE CS]
        by_cases hj : j < (setP (m0 ++ m1)).length
        · obtain ⟨x, hx⟩ : ∃ b, (setP (m0 ++ m1))[j]? = some b := ⟨(setP (m0 ++ m1))[j], List.getElem?_eq_getElem hj⟩
          have htk := takeAt hx
          have hfl : (((setP (m0 ++ m1)).take j).filter (dif m0 m1)).length ≤ ((setP (m0 ++ m1)).take j).length := List.length_filter_le _ _
          rw [List.length_take] at hfl
          refine gk_elem (enc := IE .u32) (L := setP (m0 ++ m1)) j mE hj (by decide) (fun g2 o2 y eA hy2 => ?_)
          subst eA
          obtain rfl : x = y := by rw [hx] at hy2; exact Option.some.inj hy2
          (repeat' (first | (refine gG ?_; try intro _) | ((first | refine g_split rfl rfl tE (fun _ => ?_) (fun _ => ?_) | refine gk_cond rfl rfl tE (fun _ => ?_) (fun _ => ?_)) <;> (try first | (exfalso; omega; done) | (rename_i hx; exact absurd rfl hx) | (rename_i hx; cases hx; done)))))
          by_cases hc : m0.count x = m1.count x
          · have hd : dif m0 m1 x = false := by unfold dif; simp [hc]
            have hfs : ((setP (m0 ++ m1)).take (j + 1)).filter (dif m0 m1) = ((setP (m0 ++ m1)).take j).filter (dif m0 m1) := by
              rw [htk, List.filter_append, List.filter_cons, hd]
              simp
            refine gk_any [0, 1, 2, 3, 4, 5, 6, 7, 8] (Cut _ (fun _ : Unit => [(0, .slice (some ⟨g, o, none⟩) n c), (3, .pointer (some ⟨tb, 0, none⟩)), (4, .pointer (some ⟨lb, 0, none⟩)), (5, .int .i64 (i : Int)), (6, .int .i64 (secI sec)), (7, .int .u32 b), (11, pv), (12, .slice (some ⟨g2, o2, none⟩) (setP (m0 ++ m1)).length cc), (13, .int .i64 (j : Int)), (125, .bool false)]) (fun _ => [own 0 87 1 pv (IE .u32) (((setP (m0 ++ m1)).take j).filter (dif m0 m1)), blk tb [.pointer (some ⟨t0, 0, none⟩), .pointer (some ⟨t1, 0, none⟩)] 84, blk lb [.slice B0 m0.length d0, .slice B1 m1.length d1] 86, tbF t0 U0, tbF t1 U1]) (fun _ => [sl (some ⟨g2, o2, none⟩) 1 (IE .u32) (setP (m0 ++ m1)), sl B0 1 (IE .u32) m0, sl B1 1 (IE .u32) m1, sl (some ⟨g, o, none⟩) 3 CE CS])) rfl rfl (by kernel_rfl) ?_ (cut_k fun _ => ?_)
            · skip
              refine gb_take 0 rfl (by decide +kernel) rfl rfl (ys_ev (nw := true) hT rfl sI) sF ?_
              refine gb_take 1 rfl (by decide +kernel) rfl rfl (by first | exact ys_blk hT rfl rfl mE rfl rfl | exact ys_row hT rfl rfl mE rfl rfl | exact ys_row0 hT rfl rfl mE rfl rfl) sF ?_
              refine gb_take 2 rfl (by decide +kernel) rfl rfl (ys_ev (nw := true) hT rfl sI) sF ?_
              refine gb_take 3 rfl (by decide +kernel) rfl rfl (ys_ev (nw := true) hT rfl sI) sF ?_
              refine gb_take 4 rfl (by decide +kernel) rfl rfl (ys_ev (nw := true) hT rfl sI) sF ?_
              refine gb_take 5 rfl (by decide +kernel) rfl rfl (by first | exact ys_blk hT rfl rfl mE rfl rfl | exact ys_row hT rfl rfl mE rfl rfl | exact ys_row0 hT rfl rfl mE rfl rfl) sF ?_
              refine gb_take 7 rfl (by decide +kernel) rfl rfl (ys_ev (nw := true) hT rfl sI) sF ?_
              refine gb_take 8 rfl (by decide +kernel) rfl rfl (by first | exact ys_blk hT rfl rfl mE rfl rfl | exact ys_row hT rfl rfl mE rfl rfl | exact ys_row0 hT rfl rfl mE rfl rfl) sF ?_
              refine gb_take 9 rfl (by decide +kernel) rfl rfl (ys_ev (nw := true) hT rfl sI) sF ?_
              refine gb_take 10 rfl (by decide +kernel) rfl rfl (ys_ev (nw := true) hT rfl sI) sF ?_
              refine gb_take 11 rfl (by decide +kernel) rfl rfl (ys_ev (nw := true) hT rfl sI) sF ?_
              refine gb_take 12 rfl (by decide +kernel) rfl rfl (by first | exact ys_blk hT rfl rfl mE rfl rfl | exact ys_row hT rfl rfl mE rfl rfl | exact ys_row0 hT rfl rfl mE rfl rfl) sF ?_
              refine gb_only 6 (by decide +kernel) rfl rfl ?_
              refine mv_call_bel (fun w hk => xcnt_any B0 m0.length d0 m0 x w rfl (by omega) (hk.rR (φ := sl B0 1 (IE .u32) m0) mE)) rfl rfl rfl rfl rfl (by kernel_rfl) ?_
              refine ⟨sF, ?_⟩
              refine gb_only 13 (by decide +kernel) rfl rfl ?_
              refine mv_call_bel (fun w hk => xcnt_any B1 m1.length d1 m1 x w rfl (by omega) (hk.rR (φ := sl B1 1 (IE .u32) m1) mE)) rfl rfl rfl rfl rfl (by kernel_rfl) ?_
              refine ⟨sF, ?_⟩
              refine gb_take 14 rfl (by decide +kernel) rfl rfl (ys_ev (nw := true) hT rfl sI) sF ?_
              try (refine gb_say 125 (.bool false) rfl (congrArg Value.bool (tB_false (by omega))) ?_)
              refine gb_nil (by decide +kernel) ?_
              exact ⟨(), (by repeat (first | exact trivial | refine ⟨rfl, ?_⟩)), sA, sS⟩
            · (repeat (refine gG ?_; try intro _))
              refine gk_say 13 (.int .i64 ((j + 1 : Nat) : Int)) rfl (by first | (congr 1; done) | (congr 1; omega)) ?_
              rw [← hfs]
              refine gk_again_sel rfl (j + 1, pv) (by omega) (by dsimp only; omega) (by repeat (first | exact trivial | refine ⟨rfl, ?_⟩)) sA sS
          · have hd : dif m0 m1 x = true := by unfold dif; simp [hc]
            have hfs : ((setP (m0 ++ m1)).take (j + 1)).filter (dif m0 m1) = ((setP (m0 ++ m1)).take j).filter (dif m0 m1) ++ [x] := by
              rw [htk, List.filter_append, List.filter_cons, hd]
              simp
            refine gk_any [0, 1, 2, 3, 4, 5, 6, 7, 8] (Cut _ (fun _ : Unit => [(0, .slice (some ⟨g, o, none⟩) n c), (3, .pointer (some ⟨tb, 0, none⟩)), (4, .pointer (some ⟨lb, 0, none⟩)), (5, .int .i64 (i : Int)), (6, .int .i64 (secI sec)), (7, .int .u32 b), (11, pv), (12, .slice (some ⟨g2, o2, none⟩) (setP (m0 ++ m1)).length cc), (13, .int .i64 (j : Int)), (125, .bool true)]) (fun _ => [own 0 87 1 pv (IE .u32) (((setP (m0 ++ m1)).take j).filter (dif m0 m1)), blk tb [.pointer (some ⟨t0, 0, none⟩), .pointer (some ⟨t1, 0, none⟩)] 84, blk lb [.slice B0 m0.length d0, .slice B1 m1.length d1] 86, tbF t0 U0, tbF t1 U1]) (fun _ => [sl (some ⟨g2, o2, none⟩) 1 (IE .u32) (setP (m0 ++ m1)), sl B0 1 (IE .u32) m0, sl B1 1 (IE .u32) m1, sl (some ⟨g, o, none⟩) 3 CE CS])) rfl rfl (by kernel_rfl) ?_ (cut_k fun _ => ?_)
            · skip
              refine gb_take 0 rfl (by decide +kernel) rfl rfl (ys_ev (nw := true) hT rfl sI) sF ?_
              refine gb_take 1 rfl (by decide +kernel) rfl rfl (by first | exact ys_blk hT rfl rfl mE rfl rfl | exact ys_row hT rfl rfl mE rfl rfl | exact ys_row0 hT rfl rfl mE rfl rfl) sF ?_
              refine gb_take 2 rfl (by decide +kernel) rfl rfl (ys_ev (nw := true) hT rfl sI) sF ?_
              refine gb_take 3 rfl (by decide +kernel) rfl rfl (ys_ev (nw := true) hT rfl sI) sF ?_
              refine gb_take 4 rfl (by decide +kernel) rfl rfl (ys_ev (nw := true) hT rfl sI) sF ?_
              refine gb_take 5 rfl (by decide +kernel) rfl rfl (by first | exact ys_blk hT rfl rfl mE rfl rfl | exact ys_row hT rfl rfl mE rfl rfl | exact ys_row0 hT rfl rfl mE rfl rfl) sF ?_
              refine gb_take 7 rfl (by decide +kernel) rfl rfl (ys_ev (nw := true) hT rfl sI) sF ?_
              refine gb_take 8 rfl (by decide +kernel) rfl rfl (by first | exact ys_blk hT rfl rfl mE rfl rfl | exact ys_row hT rfl rfl mE rfl rfl | exact ys_row0 hT rfl rfl mE rfl rfl) sF ?_
              refine gb_take 9 rfl (by decide +kernel) rfl rfl (ys_ev (nw := true) hT rfl sI) sF ?_
              refine gb_take 10 rfl (by decide +kernel) rfl rfl (ys_ev (nw := true) hT rfl sI) sF ?_
              refine gb_take 11 rfl (by decide +kernel) rfl rfl (ys_ev (nw := true) hT rfl sI) sF ?_
              refine gb_take 12 rfl (by decide +kernel) rfl rfl (by first | exact ys_blk hT rfl rfl mE rfl rfl | exact ys_row hT rfl rfl mE rfl rfl | exact ys_row0 hT rfl rfl mE rfl rfl) sF ?_
              refine gb_only 6 (by decide +kernel) rfl rfl ?_
              refine mv_call_bel (fun w hk => xcnt_any B0 m0.length d0 m0 x w rfl (by omega) (hk.rR (φ := sl B0 1 (IE .u32) m0) mE)) rfl rfl rfl rfl rfl (by kernel_rfl) ?_
              refine ⟨sF, ?_⟩
              refine gb_only 13 (by decide +kernel) rfl rfl ?_
              refine mv_call_bel (fun w hk => xcnt_any B1 m1.length d1 m1 x w rfl (by omega) (hk.rR (φ := sl B1 1 (IE .u32) m1) mE)) rfl rfl rfl rfl rfl (by kernel_rfl) ?_
              refine ⟨sF, ?_⟩
              refine gb_take 14 rfl (by decide +kernel) rfl rfl (ys_ev (nw := true) hT rfl sI) sF ?_
              try (refine gb_say 125 (.bool true) rfl (congrArg Value.bool (tB_true (by omega))) ?_)
              refine gb_nil (by decide +kernel) ?_
              exact ⟨(), (by repeat (first | exact trivial | refine ⟨rfl, ?_⟩)), sA, sS⟩
            · refine gk_elem (enc := IE .u32) (L := setP (m0 ++ m1)) j mE hj (by decide) (fun g3 o3 y eA hy3 => ?_)
              cases eA
              obtain rfl : x = y := by rw [hx] at hy3; exact Option.some.inj hy3
              (repeat (refine gG ?_; try intro _))
              refine g_mv rfl (mv_append (L := ((setP (m0 ++ m1)).take j).filter (dif m0 m1)) rfl [x] rfl rfl rfl rfl elt_U (by intro _; first | ((repeat (first | with_reducible exact Upd.here _ | with_reducible apply Upd.there)); done) | ((repeat (first | exact Upd.here _ | apply Upd.there)); done) | fail) (src_blk mE rfl) rfl oneU (by simp only [maxLen, List.length_append, List.length_cons, List.length_nil]; omega) (by simp only [List.length_append, List.length_cons, List.length_nil]; omega) (Nat.zero_le _) (fun pv2 => ?_))
              (repeat (refine gG ?_; try intro _))
              refine gk_say 13 (.int .i64 ((j + 1 : Nat) : Int)) rfl (by first | (congr 1; done) | (congr 1; omega)) ?_
              rw [← hfs]
              refine gk_again_sel rfl (j + 1, pv2) (by omega) (by dsimp only; omega) (by repeat (first | exact trivial | refine ⟨rfl, ?_⟩)) sA sS
        · have ht : (setP (m0 ++ m1)).take j = setP (m0 ++ m1) := List.take_of_length_le (by omega)
          rw [ht]
          rw [show (setP (m0 ++ m1)).filter (dif m0 m1) = partP m0 m1 from rfl]
          have hpl : (partP m0 m1).length ≤ (setP (m0 ++ m1)).length := List.length_filter_le _ _
          have hpn := @partP_nil m0 m1
          refine gk_freeze _ (by intro _; first | ((repeat (first | with_reducible exact Upd.here _ | with_reducible apply Upd.there)); done) | ((repeat (first | exact Upd.here _ | apply Upd.there)); done) | fail) (fun PA pc hPA hPA1 hPA2 hPA3 => ?_); subst hPA
          (repeat' (first | (refine gG ?_; try intro _) | ((first | refine g_split rfl rfl tE (fun _ => ?_) (fun _ => ?_) | refine gk_cond rfl rfl tE (fun _ => ?_) (fun _ => ?_)) <;> (try first | (exfalso; omega; done) | (rename_i hx; exact absurd rfl hx) | (rename_i hx; cases hx; done)))))
          cases sec
          · refine gk_say 6 (.int .i64 0) rfl rfl ?_
            by_cases hsm : SameP m0 m1
            · have hp0 : (partP m0 m1).length = 0 := by rw [hpn.2 hsm]; rfl
              refine gk_any [0, 1, 2, 3, 4, 5, 6, 7] (Cut _ (fun _ : Unit => [(0, .slice (some ⟨g, o, none⟩) n c), (3, .pointer (some ⟨tb, 0, none⟩)), (4, .pointer (some ⟨lb, 0, none⟩)), (5, .int .i64 (i : Int)), (162, .bool false)]) (fun _ => [blk tb [.pointer (some ⟨t0, 0, none⟩), .pointer (some ⟨t1, 0, none⟩)] 84, blk lb [.slice B0 m0.length d0, .slice B1 m1.length d1] 86, tbF t0 U0, tbF t1 U1]) (fun _ => [sl B0 1 (IE .u32) m0, sl B1 1 (IE .u32) m1, sl (some ⟨g, o, none⟩) 3 CE CS])) rfl rfl (by kernel_rfl) ?_ (cut_k fun _ => ?_)
              · skip
                refine gb_take 0 rfl (by decide +kernel) rfl rfl (ys_ev (nw := true) hT rfl sI) sF ?_
                refine gb_take 1 rfl (by decide +kernel) rfl rfl (ys_ev (nw := true) hT rfl sI) sF ?_
                refine gb_take 2 rfl (by decide +kernel) rfl rfl (by first | exact ys_blk hT rfl rfl mE rfl rfl | exact ys_row hT rfl rfl mE rfl rfl | exact ys_row0 hT rfl rfl mE rfl rfl) sF ?_
                refine gb_take 3 rfl (by decide +kernel) rfl rfl (ys_ev (nw := true) hT rfl sI) sF ?_
                refine gb_take 4 rfl (by decide +kernel) rfl rfl (ys_ev (nw := true) hT rfl sI) sF ?_
                refine gb_take 5 rfl (by decide +kernel) rfl rfl (by first | exact ys_blk hT rfl rfl mE rfl rfl | exact ys_row hT rfl rfl mE rfl rfl | exact ys_row0 hT rfl rfl mE rfl rfl) sF ?_
                refine gb_take 6 rfl (by decide +kernel) rfl rfl (ys_ev (nw := true) hT rfl sI) sF ?_
                refine gb_only 7 (by decide +kernel) rfl rfl ?_
                refine mv_call_bel (fun w hk => told_any t0 U0 B0 m0.length d0 m0 b w rfl hR.f0 (hk.rO (φ := tbF t0 U0) mE) (hk.rR (φ := sl B0 1 (IE .u32) m0) mE)) rfl rfl rfl rfl rfl (by kernel_rfl) ?_
                refine ⟨sF, ?_⟩
                refine gb_take 8 rfl (by decide +kernel) rfl rfl (ys_ev (nw := true) hT rfl sI) sF ?_
                refine gb_take 9 rfl (by decide +kernel) rfl rfl (ys_ev (nw := true) hT rfl sI) sF ?_
                first | refine gb_take 10 rfl (by decide +kernel) rfl rfl (ys_ev (nw := true) hT rfl sI) sF ?_ | refine gb_skip 10 rfl (by decide +kernel) rfl rfl sF ?_
                first | refine gb_take 11 rfl (by decide +kernel) rfl rfl (by first | exact ys_blk hT rfl rfl mE rfl rfl | exact ys_row hT rfl rfl mE rfl rfl | exact ys_row0 hT rfl rfl mE rfl rfl) sF ?_ | refine gb_skip 11 rfl (by decide +kernel) rfl rfl sF ?_
                first | refine gb_take 12 rfl (by decide +kernel) rfl rfl (ys_ev (nw := true) hT rfl sI) sF ?_ | refine gb_skip 12 rfl (by decide +kernel) rfl rfl sF ?_
                first | refine gb_take 13 rfl (by decide +kernel) rfl rfl (by first | exact ys_blk hT rfl rfl mE rfl rfl | exact ys_row hT rfl rfl mE rfl rfl | exact ys_row0 hT rfl rfl mE rfl rfl) sF ?_ | refine gb_skip 13 rfl (by decide +kernel) rfl rfl sF ?_
                first | refine gb_take 15 rfl (by decide +kernel) rfl rfl (ys_ev (nw := true) hT rfl sI) sF ?_ | refine gb_skip 15 rfl (by decide +kernel) rfl rfl sF ?_
                first | refine gb_take 16 rfl (by decide +kernel) rfl rfl (ys_ev (nw := true) hT rfl sI) sF ?_ | refine gb_skip 16 rfl (by decide +kernel) rfl rfl sF ?_
                first | refine gb_take 17 rfl (by decide +kernel) rfl rfl (ys_ev (nw := true) hT rfl sI) sF ?_ | refine gb_skip 17 rfl (by decide +kernel) rfl rfl sF ?_
                try (refine gb_say 150 (.bool true) rfl (congrArg Value.bool (tB_true (by omega))) ?_)
                first | refine gb_skip 14 rfl (by decide +kernel) rfl rfl sF ?_ | (refine gb_only 14 (by decide +kernel) rfl rfl ?_; (refine mv_call_bel (fun w hk => same_any t0 t1 U0 U1 m0 m1 w hR.f0 hR.f1 (hk.rO (φ := tbF t0 U0) mE) (hk.rO (φ := tbF t1 U1) mE)) rfl rfl rfl rfl rfl (by kernel_rfl) ?_); refine ⟨sF, ?_⟩)
                try (refine gb_say 147 (.bool true) rfl (congrArg Value.bool (tB_true hsm)) ?_)
                first | refine gb_take 18 rfl (by decide +kernel) rfl rfl (ys_ev (nw := true) hT rfl sI) sF ?_ | refine gb_skip 18 rfl (by decide +kernel) rfl rfl sF ?_
                try (refine gb_say 151 (.bool false) rfl (congrArg Value.bool (tB_false (fun h => h rfl))) ?_)
                refine gb_take 19 rfl (by decide +kernel) rfl rfl (ys_ev (nw := true) hT rfl sI) sF ?_
                refine gb_take 20 rfl (by decide +kernel) rfl rfl (ys_ev (nw := true) hT rfl sI) sF ?_
                first | refine gb_take 21 rfl (by decide +kernel) rfl rfl (ys_ev (nw := true) hT rfl sI) sF ?_ | refine gb_skip 21 rfl (by decide +kernel) rfl rfl sF ?_
                first | refine gb_take 22 rfl (by decide +kernel) rfl rfl (by first | exact ys_blk hT rfl rfl mE rfl rfl | exact ys_row hT rfl rfl mE rfl rfl | exact ys_row0 hT rfl rfl mE rfl rfl) sF ?_ | refine gb_skip 22 rfl (by decide +kernel) rfl rfl sF ?_
                first | refine gb_take 23 rfl (by decide +kernel) rfl rfl (ys_ev (nw := true) hT rfl sI) sF ?_ | refine gb_skip 23 rfl (by decide +kernel) rfl rfl sF ?_
                first | refine gb_take 24 rfl (by decide +kernel) rfl rfl (by first | exact ys_blk hT rfl rfl mE rfl rfl | exact ys_row hT rfl rfl mE rfl rfl | exact ys_row0 hT rfl rfl mE rfl rfl) sF ?_ | refine gb_skip 24 rfl (by decide +kernel) rfl rfl sF ?_
                first | refine gb_take 26 rfl (by decide +kernel) rfl rfl (ys_ev (nw := true) hT rfl sI) sF ?_ | refine gb_skip 26 rfl (by decide +kernel) rfl rfl sF ?_
                first | refine gb_skip 25 rfl (by decide +kernel) rfl rfl sF ?_ | (refine gb_only 25 (by decide +kernel) rfl rfl ?_; ((refine mv_call_rt (fun w hk => parted_any t0 t1 U0 U1 m0 m1 w hR.f0 hR.f1 (hk.rO (φ := tbF t0 U0) mE) (hk.rO (φ := tbF t1 U1) mE)) rfl rfl rfl rfl rfl (by kernel_rfl) (fun _ => rfl) ?_; intro v4 _)); refine ⟨sF, ?_⟩)
                first | refine gb_skip 27 rfl (by decide +kernel) rfl rfl sF ?_ | (refine gb_only 27 (by decide +kernel) rfl rfl ?_; (refine mv_call_bel (fun w hk => equal_own v4 PA (partP m0 m1).length pc (partP m0 m1) (partP m0 m1) w rfl (by omega) (hk.rO (φ := own 0 87 1 v4 (IE .u32) (partP m0 m1)) mE) (hk.rO (φ := sl PA 1 (IE .u32) (partP m0 m1)) mE)) rfl rfl rfl rfl rfl (by kernel_rfl) ?_); refine ⟨sF, ?_⟩)
                try (refine gb_say 160 (.bool true) rfl (congrArg Value.bool (tB_true rfl)) ?_)
                first | refine gb_take 28 rfl (by decide +kernel) rfl rfl (ys_ev (nw := true) hT rfl sI) sF ?_ | refine gb_skip 28 rfl (by decide +kernel) rfl rfl sF ?_
                refine gb_take 29 rfl (by decide +kernel) rfl rfl (ys_ev (nw := true) hT rfl sI) sF ?_
                refine gb_nil (by decide +kernel) ?_
                exact ⟨(), (by repeat (first | exact trivial | refine ⟨rfl, ?_⟩)), sA, sS⟩
              · (repeat (refine gG ?_; try intro _))
                refine gk_say 5 (.int .i64 ((i + 1 : Nat) : Int)) rfl (by first | (congr 1; done) | (congr 1; omega)) ?_
                refine gk_again_sel rfl (i + 1, U0, U1, B0, B1, d0, d1, m0, m1) ⟨by omega, hR⟩ (by dsimp only; omega) (by repeat (first | exact trivial | refine ⟨rfl, ?_⟩)) sA sS
            · have hp0 : (partP m0 m1).length ≠ 0 := fun h => hsm (hpn.1 (List.length_eq_zero_iff.1 h))
              refine gk_any [0, 1, 2, 3, 4, 5, 6, 7] (Cut _ (fun _ : Unit => [(0, .slice (some ⟨g, o, none⟩) n c), (3, .pointer (some ⟨tb, 0, none⟩)), (4, .pointer (some ⟨lb, 0, none⟩)), (5, .int .i64 (i : Int)), (162, .bool false)]) (fun _ => [blk tb [.pointer (some ⟨t0, 0, none⟩), .pointer (some ⟨t1, 0, none⟩)] 84, blk lb [.slice B0 m0.length d0, .slice B1 m1.length d1] 86, tbF t0 U0, tbF t1 U1]) (fun _ => [sl B0 1 (IE .u32) m0, sl B1 1 (IE .u32) m1, sl (some ⟨g, o, none⟩) 3 CE CS])) rfl rfl (by kernel_rfl) ?_ (cut_k fun _ => ?_)
              · skip
                refine gb_take 0 rfl (by decide +kernel) rfl rfl (ys_ev (nw := true) hT rfl sI) sF ?_
                refine gb_take 1 rfl (by decide +kernel) rfl rfl (ys_ev (nw := true) hT rfl sI) sF ?_
                refine gb_take 2 rfl (by decide +kernel) rfl rfl (by first | exact ys_blk hT rfl rfl mE rfl rfl | exact ys_row hT rfl rfl mE rfl rfl | exact ys_row0 hT rfl rfl mE rfl rfl) sF ?_
                refine gb_take 3 rfl (by decide +kernel) rfl rfl (ys_ev (nw := true) hT rfl sI) sF ?_
                refine gb_take 4 rfl (by decide +kernel) rfl rfl (ys_ev (nw := true) hT rfl sI) sF ?_
                refine gb_take 5 rfl (by decide +kernel) rfl rfl (by first | exact ys_blk hT rfl rfl mE rfl rfl | exact ys_row hT rfl rfl mE rfl rfl | exact ys_row0 hT rfl rfl mE rfl rfl) sF ?_
                refine gb_take 6 rfl (by decide +kernel) rfl rfl (ys_ev (nw := true) hT rfl sI) sF ?_
                refine gb_only 7 (by decide +kernel) rfl rfl ?_
                refine mv_call_bel (fun w hk => told_any t0 U0 B0 m0.length d0 m0 b w rfl hR.f0 (hk.rO (φ := tbF t0 U0) mE) (hk.rR (φ := sl B0 1 (IE .u32) m0) mE)) rfl rfl rfl rfl rfl (by kernel_rfl) ?_
                refine ⟨sF, ?_⟩
                refine gb_take 8 rfl (by decide +kernel) rfl rfl (ys_ev (nw := true) hT rfl sI) sF ?_
                refine gb_take 9 rfl (by decide +kernel) rfl rfl (ys_ev (nw := true) hT rfl sI) sF ?_
                first | refine gb_take 10 rfl (by decide +kernel) rfl rfl (ys_ev (nw := true) hT rfl sI) sF ?_ | refine gb_skip 10 rfl (by decide +kernel) rfl rfl sF ?_
                first | refine gb_take 11 rfl (by decide +kernel) rfl rfl (by first | exact ys_blk hT rfl rfl mE rfl rfl | exact ys_row hT rfl rfl mE rfl rfl | exact ys_row0 hT rfl rfl mE rfl rfl) sF ?_ | refine gb_skip 11 rfl (by decide +kernel) rfl rfl sF ?_
                first | refine gb_take 12 rfl (by decide +kernel) rfl rfl (ys_ev (nw := true) hT rfl sI) sF ?_ | refine gb_skip 12 rfl (by decide +kernel) rfl rfl sF ?_
                first | refine gb_take 13 rfl (by decide +kernel) rfl rfl (by first | exact ys_blk hT rfl rfl mE rfl rfl | exact ys_row hT rfl rfl mE rfl rfl | exact ys_row0 hT rfl rfl mE rfl rfl) sF ?_ | refine gb_skip 13 rfl (by decide +kernel) rfl rfl sF ?_
                first | refine gb_take 15 rfl (by decide +kernel) rfl rfl (ys_ev (nw := true) hT rfl sI) sF ?_ | refine gb_skip 15 rfl (by decide +kernel) rfl rfl sF ?_
                first | refine gb_take 16 rfl (by decide +kernel) rfl rfl (ys_ev (nw := true) hT rfl sI) sF ?_ | refine gb_skip 16 rfl (by decide +kernel) rfl rfl sF ?_
                first | refine gb_take 17 rfl (by decide +kernel) rfl rfl (ys_ev (nw := true) hT rfl sI) sF ?_ | refine gb_skip 17 rfl (by decide +kernel) rfl rfl sF ?_
                try (refine gb_say 150 (.bool false) rfl (congrArg Value.bool (tB_false (by omega))) ?_)
                first | refine gb_skip 14 rfl (by decide +kernel) rfl rfl sF ?_ | (refine gb_only 14 (by decide +kernel) rfl rfl ?_; (refine mv_call_bel (fun w hk => same_any t0 t1 U0 U1 m0 m1 w hR.f0 hR.f1 (hk.rO (φ := tbF t0 U0) mE) (hk.rO (φ := tbF t1 U1) mE)) rfl rfl rfl rfl rfl (by kernel_rfl) ?_); refine ⟨sF, ?_⟩)
                try (refine gb_say 147 (.bool false) rfl (congrArg Value.bool (tB_false hsm)) ?_)
                first | refine gb_take 18 rfl (by decide +kernel) rfl rfl (ys_ev (nw := true) hT rfl sI) sF ?_ | refine gb_skip 18 rfl (by decide +kernel) rfl rfl sF ?_
                try (refine gb_say 151 (.bool false) rfl (congrArg Value.bool (tB_false (fun h => h rfl))) ?_)
                refine gb_take 19 rfl (by decide +kernel) rfl rfl (ys_ev (nw := true) hT rfl sI) sF ?_
                refine gb_take 20 rfl (by decide +kernel) rfl rfl (ys_ev (nw := true) hT rfl sI) sF ?_
                first | refine gb_take 21 rfl (by decide +kernel) rfl rfl (ys_ev (nw := true) hT rfl sI) sF ?_ | refine gb_skip 21 rfl (by decide +kernel) rfl rfl sF ?_
                first | refine gb_take 22 rfl (by decide +kernel) rfl rfl (by first | exact ys_blk hT rfl rfl mE rfl rfl | exact ys_row hT rfl rfl mE rfl rfl | exact ys_row0 hT rfl rfl mE rfl rfl) sF ?_ | refine gb_skip 22 rfl (by decide +kernel) rfl rfl sF ?_
                first | refine gb_take 23 rfl (by decide +kernel) rfl rfl (ys_ev (nw := true) hT rfl sI) sF ?_ | refine gb_skip 23 rfl (by decide +kernel) rfl rfl sF ?_
                first | refine gb_take 24 rfl (by decide +kernel) rfl rfl (by first | exact ys_blk hT rfl rfl mE rfl rfl | exact ys_row hT rfl rfl mE rfl rfl | exact ys_row0 hT rfl rfl mE rfl rfl) sF ?_ | refine gb_skip 24 rfl (by decide +kernel) rfl rfl sF ?_
                first | refine gb_take 26 rfl (by decide +kernel) rfl rfl (ys_ev (nw := true) hT rfl sI) sF ?_ | refine gb_skip 26 rfl (by decide +kernel) rfl rfl sF ?_
                first | refine gb_skip 25 rfl (by decide +kernel) rfl rfl sF ?_ | (refine gb_only 25 (by decide +kernel) rfl rfl ?_; ((refine mv_call_rt (fun w hk => parted_any t0 t1 U0 U1 m0 m1 w hR.f0 hR.f1 (hk.rO (φ := tbF t0 U0) mE) (hk.rO (φ := tbF t1 U1) mE)) rfl rfl rfl rfl rfl (by kernel_rfl) (fun _ => rfl) ?_; intro v4 _)); refine ⟨sF, ?_⟩)
                first | refine gb_skip 27 rfl (by decide +kernel) rfl rfl sF ?_ | (refine gb_only 27 (by decide +kernel) rfl rfl ?_; (refine mv_call_bel (fun w hk => equal_own v4 PA (partP m0 m1).length pc (partP m0 m1) (partP m0 m1) w rfl (by omega) (hk.rO (φ := own 0 87 1 v4 (IE .u32) (partP m0 m1)) mE) (hk.rO (φ := sl PA 1 (IE .u32) (partP m0 m1)) mE)) rfl rfl rfl rfl rfl (by kernel_rfl) ?_); refine ⟨sF, ?_⟩)
                try (refine gb_say 160 (.bool true) rfl (congrArg Value.bool (tB_true rfl)) ?_)
                first | refine gb_take 28 rfl (by decide +kernel) rfl rfl (ys_ev (nw := true) hT rfl sI) sF ?_ | refine gb_skip 28 rfl (by decide +kernel) rfl rfl sF ?_
                refine gb_take 29 rfl (by decide +kernel) rfl rfl (ys_ev (nw := true) hT rfl sI) sF ?_
                refine gb_nil (by decide +kernel) ?_
                exact ⟨(), (by repeat (first | exact trivial | refine ⟨rfl, ?_⟩)), sA, sS⟩
              · (repeat (refine gG ?_; try intro _))
                refine gk_say 5 (.int .i64 ((i + 1 : Nat) : Int)) rfl (by first | (congr 1; done) | (congr 1; omega)) ?_
                refine gk_again_sel rfl (i + 1, U0, U1, B0, B1, d0, d1, m0, m1) ⟨by omega, hR⟩ (by dsimp only; omega) (by repeat (first | exact trivial | refine ⟨rfl, ?_⟩)) sA sS
          · refine gk_say 6 (.int .i64 1) rfl rfl ?_
            by_cases hsm : SameP m0 m1
            · have hp0 : (partP m0 m1).length = 0 := by rw [hpn.2 hsm]; rfl
              refine gk_any [0, 1, 2, 3, 4, 5, 6, 7] (Cut _ (fun _ : Unit => [(0, .slice (some ⟨g, o, none⟩) n c), (3, .pointer (some ⟨tb, 0, none⟩)), (4, .pointer (some ⟨lb, 0, none⟩)), (5, .int .i64 (i : Int)), (162, .bool false)]) (fun _ => [blk tb [.pointer (some ⟨t0, 0, none⟩), .pointer (some ⟨t1, 0, none⟩)] 84, blk lb [.slice B0 m0.length d0, .slice B1 m1.length d1] 86, tbF t0 U0, tbF t1 U1]) (fun _ => [sl B0 1 (IE .u32) m0, sl B1 1 (IE .u32) m1, sl (some ⟨g, o, none⟩) 3 CE CS])) rfl rfl (by kernel_rfl) ?_ (cut_k fun _ => ?_)
              · skip
                refine gb_take 0 rfl (by decide +kernel) rfl rfl (ys_ev (nw := true) hT rfl sI) sF ?_
                refine gb_take 1 rfl (by decide +kernel) rfl rfl (ys_ev (nw := true) hT rfl sI) sF ?_
                refine gb_take 2 rfl (by decide +kernel) rfl rfl (by first | exact ys_blk hT rfl rfl mE rfl rfl | exact ys_row hT rfl rfl mE rfl rfl | exact ys_row0 hT rfl rfl mE rfl rfl) sF ?_
                refine gb_take 3 rfl (by decide +kernel) rfl rfl (ys_ev (nw := true) hT rfl sI) sF ?_
                refine gb_take 4 rfl (by decide +kernel) rfl rfl (ys_ev (nw := true) hT rfl sI) sF ?_
                refine gb_take 5 rfl (by decide +kernel) rfl rfl (by first | exact ys_blk hT rfl rfl mE rfl rfl | exact ys_row hT rfl rfl mE rfl rfl | exact ys_row0 hT rfl rfl mE rfl rfl) sF ?_
                refine gb_take 6 rfl (by decide +kernel) rfl rfl (ys_ev (nw := true) hT rfl sI) sF ?_
                refine gb_only 7 (by decide +kernel) rfl rfl ?_
                refine mv_call_bel (fun w hk => told_any t1 U1 B1 m1.length d1 m1 b w rfl hR.f1 (hk.rO (φ := tbF t1 U1) mE) (hk.rR (φ := sl B1 1 (IE .u32) m1) mE)) rfl rfl rfl rfl rfl (by kernel_rfl) ?_
                refine ⟨sF, ?_⟩
                refine gb_take 8 rfl (by decide +kernel) rfl rfl (ys_ev (nw := true) hT rfl sI) sF ?_
                refine gb_take 9 rfl (by decide +kernel) rfl rfl (ys_ev (nw := true) hT rfl sI) sF ?_
                first | refine gb_take 10 rfl (by decide +kernel) rfl rfl (ys_ev (nw := true) hT rfl sI) sF ?_ | refine gb_skip 10 rfl (by decide +kernel) rfl rfl sF ?_
                first | refine gb_take 11 rfl (by decide +kernel) rfl rfl (by first | exact ys_blk hT rfl rfl mE rfl rfl | exact ys_row hT rfl rfl mE rfl rfl | exact ys_row0 hT rfl rfl mE rfl rfl) sF ?_ | refine gb_skip 11 rfl (by decide +kernel) rfl rfl sF ?_
                first | refine gb_take 12 rfl (by decide +kernel) rfl rfl (ys_ev (nw := true) hT rfl sI) sF ?_ | refine gb_skip 12 rfl (by decide +kernel) rfl rfl sF ?_
                first | refine gb_take 13 rfl (by decide +kernel) rfl rfl (by first | exact ys_blk hT rfl rfl mE rfl rfl | exact ys_row hT rfl rfl mE rfl rfl | exact ys_row0 hT rfl rfl mE rfl rfl) sF ?_ | refine gb_skip 13 rfl (by decide +kernel) rfl rfl sF ?_
                first | refine gb_take 15 rfl (by decide +kernel) rfl rfl (ys_ev (nw := true) hT rfl sI) sF ?_ | refine gb_skip 15 rfl (by decide +kernel) rfl rfl sF ?_
                first | refine gb_take 16 rfl (by decide +kernel) rfl rfl (ys_ev (nw := true) hT rfl sI) sF ?_ | refine gb_skip 16 rfl (by decide +kernel) rfl rfl sF ?_
                first | refine gb_take 17 rfl (by decide +kernel) rfl rfl (ys_ev (nw := true) hT rfl sI) sF ?_ | refine gb_skip 17 rfl (by decide +kernel) rfl rfl sF ?_
                try (refine gb_say 150 (.bool true) rfl (congrArg Value.bool (tB_true (by omega))) ?_)
                first | refine gb_skip 14 rfl (by decide +kernel) rfl rfl sF ?_ | (refine gb_only 14 (by decide +kernel) rfl rfl ?_; (refine mv_call_bel (fun w hk => same_any t0 t1 U0 U1 m0 m1 w hR.f0 hR.f1 (hk.rO (φ := tbF t0 U0) mE) (hk.rO (φ := tbF t1 U1) mE)) rfl rfl rfl rfl rfl (by kernel_rfl) ?_); refine ⟨sF, ?_⟩)
                try (refine gb_say 147 (.bool true) rfl (congrArg Value.bool (tB_true hsm)) ?_)
                first | refine gb_take 18 rfl (by decide +kernel) rfl rfl (ys_ev (nw := true) hT rfl sI) sF ?_ | refine gb_skip 18 rfl (by decide +kernel) rfl rfl sF ?_
                try (refine gb_say 151 (.bool false) rfl (congrArg Value.bool (tB_false (fun h => h rfl))) ?_)
                refine gb_take 19 rfl (by decide +kernel) rfl rfl (ys_ev (nw := true) hT rfl sI) sF ?_
                refine gb_take 20 rfl (by decide +kernel) rfl rfl (ys_ev (nw := true) hT rfl sI) sF ?_
                first | refine gb_take 21 rfl (by decide +kernel) rfl rfl (ys_ev (nw := true) hT rfl sI) sF ?_ | refine gb_skip 21 rfl (by decide +kernel) rfl rfl sF ?_
                first | refine gb_take 22 rfl (by decide +kernel) rfl rfl (by first | exact ys_blk hT rfl rfl mE rfl rfl | exact ys_row hT rfl rfl mE rfl rfl | exact ys_row0 hT rfl rfl mE rfl rfl) sF ?_ | refine gb_skip 22 rfl (by decide +kernel) rfl rfl sF ?_
                first | refine gb_take 23 rfl (by decide +kernel) rfl rfl (ys_ev (nw := true) hT rfl sI) sF ?_ | refine gb_skip 23 rfl (by decide +kernel) rfl rfl sF ?_
                first | refine gb_take 24 rfl (by decide +kernel) rfl rfl (by first | exact ys_blk hT rfl rfl mE rfl rfl | exact ys_row hT rfl rfl mE rfl rfl | exact ys_row0 hT rfl rfl mE rfl rfl) sF ?_ | refine gb_skip 24 rfl (by decide +kernel) rfl rfl sF ?_
                first | refine gb_take 26 rfl (by decide +kernel) rfl rfl (ys_ev (nw := true) hT rfl sI) sF ?_ | refine gb_skip 26 rfl (by decide +kernel) rfl rfl sF ?_
                first | refine gb_skip 25 rfl (by decide +kernel) rfl rfl sF ?_ | (refine gb_only 25 (by decide +kernel) rfl rfl ?_; ((refine mv_call_rt (fun w hk => parted_any t0 t1 U0 U1 m0 m1 w hR.f0 hR.f1 (hk.rO (φ := tbF t0 U0) mE) (hk.rO (φ := tbF t1 U1) mE)) rfl rfl rfl rfl rfl (by kernel_rfl) (fun _ => rfl) ?_; intro v4 _)); refine ⟨sF, ?_⟩)
                first | refine gb_skip 27 rfl (by decide +kernel) rfl rfl sF ?_ | (refine gb_only 27 (by decide +kernel) rfl rfl ?_; (refine mv_call_bel (fun w hk => equal_own v4 PA (partP m0 m1).length pc (partP m0 m1) (partP m0 m1) w rfl (by omega) (hk.rO (φ := own 0 87 1 v4 (IE .u32) (partP m0 m1)) mE) (hk.rO (φ := sl PA 1 (IE .u32) (partP m0 m1)) mE)) rfl rfl rfl rfl rfl (by kernel_rfl) ?_); refine ⟨sF, ?_⟩)
                try (refine gb_say 160 (.bool true) rfl (congrArg Value.bool (tB_true rfl)) ?_)
                first | refine gb_take 28 rfl (by decide +kernel) rfl rfl (ys_ev (nw := true) hT rfl sI) sF ?_ | refine gb_skip 28 rfl (by decide +kernel) rfl rfl sF ?_
                refine gb_take 29 rfl (by decide +kernel) rfl rfl (ys_ev (nw := true) hT rfl sI) sF ?_
                refine gb_nil (by decide +kernel) ?_
                exact ⟨(), (by repeat (first | exact trivial | refine ⟨rfl, ?_⟩)), sA, sS⟩
              · (repeat (refine gG ?_; try intro _))
                refine gk_say 5 (.int .i64 ((i + 1 : Nat) : Int)) rfl (by first | (congr 1; done) | (congr 1; omega)) ?_
                refine gk_again_sel rfl (i + 1, U0, U1, B0, B1, d0, d1, m0, m1) ⟨by omega, hR⟩ (by dsimp only; omega) (by repeat (first | exact trivial | refine ⟨rfl, ?_⟩)) sA sS
            · have hp0 : (partP m0 m1).length ≠ 0 := fun h => hsm (hpn.1 (List.length_eq_zero_iff.1 h))
              refine gk_any [0, 1, 2, 3, 4, 5, 6, 7] (Cut _ (fun _ : Unit => [(0, .slice (some ⟨g, o, none⟩) n c), (3, .pointer (some ⟨tb, 0, none⟩)), (4, .pointer (some ⟨lb, 0, none⟩)), (5, .int .i64 (i : Int)), (162, .bool false)]) (fun _ => [blk tb [.pointer (some ⟨t0, 0, none⟩), .pointer (some ⟨t1, 0, none⟩)] 84, blk lb [.slice B0 m0.length d0, .slice B1 m1.length d1] 86, tbF t0 U0, tbF t1 U1]) (fun _ => [sl B0 1 (IE .u32) m0, sl B1 1 (IE .u32) m1, sl (some ⟨g, o, none⟩) 3 CE CS])) rfl rfl (by kernel_rfl) ?_ (cut_k fun _ => ?_)
              · skip
                refine gb_take 0 rfl (by decide +kernel) rfl rfl (ys_ev (nw := true) hT rfl sI) sF ?_
                refine gb_take 1 rfl (by decide +kernel) rfl rfl (ys_ev (nw := true) hT rfl sI) sF ?_
                refine gb_take 2 rfl (by decide +kernel) rfl rfl (by first | exact ys_blk hT rfl rfl mE rfl rfl | exact ys_row hT rfl rfl mE rfl rfl | exact ys_row0 hT rfl rfl mE rfl rfl) sF ?_
                refine gb_take 3 rfl (by decide +kernel) rfl rfl (ys_ev (nw := true) hT rfl sI) sF ?_
                refine gb_take 4 rfl (by decide +kernel) rfl rfl (ys_ev (nw := true) hT rfl sI) sF ?_
                refine gb_take 5 rfl (by decide +kernel) rfl rfl (by first | exact ys_blk hT rfl rfl mE rfl rfl | exact ys_row hT rfl rfl mE rfl rfl | exact ys_row0 hT rfl rfl mE rfl rfl) sF ?_
                refine gb_take 6 rfl (by decide +kernel) rfl rfl (ys_ev (nw := true) hT rfl sI) sF ?_
                refine gb_only 7 (by decide +kernel) rfl rfl ?_
                refine mv_call_bel (fun w hk => told_any t1 U1 B1 m1.length d1 m1 b w rfl hR.f1 (hk.rO (φ := tbF t1 U1) mE) (hk.rR (φ := sl B1 1 (IE .u32) m1) mE)) rfl rfl rfl rfl rfl (by kernel_rfl) ?_
                refine ⟨sF, ?_⟩
                refine gb_take 8 rfl (by decide +kernel) rfl rfl (ys_ev (nw := true) hT rfl sI) sF ?_
                refine gb_take 9 rfl (by decide +kernel) rfl rfl (ys_ev (nw := true) hT rfl sI) sF ?_
                first | refine gb_take 10 rfl (by decide +kernel) rfl rfl (ys_ev (nw := true) hT rfl sI) sF ?_ | refine gb_skip 10 rfl (by decide +kernel) rfl rfl sF ?_
                first | refine gb_take 11 rfl (by decide +kernel) rfl rfl (by first | exact ys_blk hT rfl rfl mE rfl rfl | exact ys_row hT rfl rfl mE rfl rfl | exact ys_row0 hT rfl rfl mE rfl rfl) sF ?_ | refine gb_skip 11 rfl (by decide +kernel) rfl rfl sF ?_
                first | refine gb_take 12 rfl (by decide +kernel) rfl rfl (ys_ev (nw := true) hT rfl sI) sF ?_ | refine gb_skip 12 rfl (by decide +kernel) rfl rfl sF ?_
                first | refine gb_take 13 rfl (by decide +kernel) rfl rfl (by first | exact ys_blk hT rfl rfl mE rfl rfl | exact ys_row hT rfl rfl mE rfl rfl | exact ys_row0 hT rfl rfl mE rfl rfl) sF ?_ | refine gb_skip 13 rfl (by decide +kernel) rfl rfl sF ?_
                first | refine gb_take 15 rfl (by decide +kernel) rfl rfl (ys_ev (nw := true) hT rfl sI) sF ?_ | refine gb_skip 15 rfl (by decide +kernel) rfl rfl sF ?_
                first | refine gb_take 16 rfl (by decide +kernel) rfl rfl (ys_ev (nw := true) hT rfl sI) sF ?_ | refine gb_skip 16 rfl (by decide +kernel) rfl rfl sF ?_
                first | refine gb_take 17 rfl (by decide +kernel) rfl rfl (ys_ev (nw := true) hT rfl sI) sF ?_ | refine gb_skip 17 rfl (by decide +kernel) rfl rfl sF ?_
                try (refine gb_say 150 (.bool false) rfl (congrArg Value.bool (tB_false (by omega))) ?_)
                first | refine gb_skip 14 rfl (by decide +kernel) rfl rfl sF ?_ | (refine gb_only 14 (by decide +kernel) rfl rfl ?_; (refine mv_call_bel (fun w hk => same_any t0 t1 U0 U1 m0 m1 w hR.f0 hR.f1 (hk.rO (φ := tbF t0 U0) mE) (hk.rO (φ := tbF t1 U1) mE)) rfl rfl rfl rfl rfl (by kernel_rfl) ?_); refine ⟨sF, ?_⟩)
                try (refine gb_say 147 (.bool false) rfl (congrArg Value.bool (tB_false hsm)) ?_)
                first | refine gb_take 18 rfl (by decide +kernel) rfl rfl (ys_ev (nw := true) hT rfl sI) sF ?_ | refine gb_skip 18 rfl (by decide +kernel) rfl rfl sF ?_
                try (refine gb_say 151 (.bool false) rfl (congrArg Value.bool (tB_false (fun h => h rfl))) ?_)
                refine gb_take 19 rfl (by decide +kernel) rfl rfl (ys_ev (nw := true) hT rfl sI) sF ?_
                refine gb_take 20 rfl (by decide +kernel) rfl rfl (ys_ev (nw := true) hT rfl sI) sF ?_
                first | refine gb_take 21 rfl (by decide +kernel) rfl rfl (ys_ev (nw := true) hT rfl sI) sF ?_ | refine gb_skip 21 rfl (by decide +kernel) rfl rfl sF ?_
                first | refine gb_take 22 rfl (by decide +kernel) rfl rfl (by first | exact ys_blk hT rfl rfl mE rfl rfl | exact ys_row hT rfl rfl mE rfl rfl | exact ys_row0 hT rfl rfl mE rfl rfl) sF ?_ | refine gb_skip 22 rfl (by decide +kernel) rfl rfl sF ?_
                first | refine gb_take 23 rfl (by decide +kernel) rfl rfl (ys_ev (nw := true) hT rfl sI) sF ?_ | refine gb_skip 23 rfl (by decide +kernel) rfl rfl sF ?_
                first | refine gb_take 24 rfl (by decide +kernel) rfl rfl (by first | exact ys_blk hT rfl rfl mE rfl rfl | exact ys_row hT rfl rfl mE rfl rfl | exact ys_row0 hT rfl rfl mE rfl rfl) sF ?_ | refine gb_skip 24 rfl (by decide +kernel) rfl rfl sF ?_
                first | refine gb_take 26 rfl (by decide +kernel) rfl rfl (ys_ev (nw := true) hT rfl sI) sF ?_ | refine gb_skip 26 rfl (by decide +kernel) rfl rfl sF ?_
                first | refine gb_skip 25 rfl (by decide +kernel) rfl rfl sF ?_ | (refine gb_only 25 (by decide +kernel) rfl rfl ?_; ((refine mv_call_rt (fun w hk => parted_any t0 t1 U0 U1 m0 m1 w hR.f0 hR.f1 (hk.rO (φ := tbF t0 U0) mE) (hk.rO (φ := tbF t1 U1) mE)) rfl rfl rfl rfl rfl (by kernel_rfl) (fun _ => rfl) ?_; intro v4 _)); refine ⟨sF, ?_⟩)
                first | refine gb_skip 27 rfl (by decide +kernel) rfl rfl sF ?_ | (refine gb_only 27 (by decide +kernel) rfl rfl ?_; (refine mv_call_bel (fun w hk => equal_own v4 PA (partP m0 m1).length pc (partP m0 m1) (partP m0 m1) w rfl (by omega) (hk.rO (φ := own 0 87 1 v4 (IE .u32) (partP m0 m1)) mE) (hk.rO (φ := sl PA 1 (IE .u32) (partP m0 m1)) mE)) rfl rfl rfl rfl rfl (by kernel_rfl) ?_); refine ⟨sF, ?_⟩)
                try (refine gb_say 160 (.bool true) rfl (congrArg Value.bool (tB_true rfl)) ?_)
                first | refine gb_take 28 rfl (by decide +kernel) rfl rfl (ys_ev (nw := true) hT rfl sI) sF ?_ | refine gb_skip 28 rfl (by decide +kernel) rfl rfl sF ?_
                refine gb_take 29 rfl (by decide +kernel) rfl rfl (ys_ev (nw := true) hT rfl sI) sF ?_
                refine gb_nil (by decide +kernel) ?_
                exact ⟨(), (by repeat (first | exact trivial | refine ⟨rfl, ?_⟩)), sA, sS⟩
              · (repeat (refine gG ?_; try intro _))
                refine gk_say 5 (.int .i64 ((i + 1 : Nat) : Int)) rfl (by first | (congr 1; done) | (congr 1; omega)) ?_
                refine gk_again_sel rfl (i + 1, U0, U1, B0, B1, d0, d1, m0, m1) ⟨by omega, hR⟩ (by dsimp only; omega) (by repeat (first | exact trivial | refine ⟨rfl, ?_⟩)) sA sS
  · (repeat' (first | (refine gG ?_; try intro _) | ((first | refine g_split rfl rfl tE (fun _ => ?_) (fun _ => ?_) | refine gk_cond rfl rfl tE (fun _ => ?_) (fun _ => ?_)) <;> (try first | (exfalso; omega; done) | (rename_i hx; exact absurd rfl hx) | (rename_i hx; cases hx; done)))))
    (repeat' (first | (refine gG ?_; try intro _) | (refine g_mv rfl ?_; first | refine mv_call_bel (fun w hk => alive_any w) rfl rfl rfl rfl rfl (by kernel_rfl) ?_) | ((first | refine g_split rfl rfl tE (fun _ => ?_) (fun _ => ?_) | refine gk_cond rfl rfl tE (fun _ => ?_) (fun _ => ?_)) <;> (try first | (exfalso; omega; done) | (rename_i hx; exact absurd rfl hx) | (rename_i hx; cases hx; done)))))
    refine gk_ret hT rfl rfl (.tmp rfl .nil) (fun w' hk => ?_)
    exact ⟨rfl, hk.toBelow⟩
end Go.Proofs.Ytdkgmgfadpnhbaa.Rf

