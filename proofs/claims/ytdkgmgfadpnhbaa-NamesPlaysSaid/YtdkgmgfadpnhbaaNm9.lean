/- Law 55: names of volumes, call by call. -/
import Derived.Test.YtdkgmgfadpnhbaaNm8
namespace Go.Proofs.Ytdkgmgfadpnhbaa.Nm
open Go.RowKit Mem Gx SoS
set_option linter.unusedVariables false
set_option linter.unusedSimpArgs false
set_option maxRecDepth 100000
set_option maxHeartbeats 4000000
/-- What is known of the table and the row. -/
structure RsN (i : Nat) (T1 : NTab) (l : List NmD) : Prop where
  f : NtI T1 l
  b : l.length ≤ i
  z : ∀ y, y ∈ l → y.s.size ≤ 1000
theorem joinR' {X : Cx} {ops rest : List Oper} {k : List KI} {ι : Type} (P : ι → Prop) (F : ι → Fr) (OO RR : ι → List Fact) {q : Prop} (r : Later (∀ i, P i → G X ops rest k (F i) (OO i) (RR i)) → q) (g : ∀ i, P i → G X ops rest k (F i) (OO i) (RR i)) : q := r ⟨g⟩
theorem uniq_id {l : List NmD} (hn : (l.map (·.id)).Nodup) {y z : NmD} (hy : y ∈ l) (hz : z ∈ l) (e : y.id = z.id) : y = z := by
  have h1 := (find_uniq (f := fun y : NmD => y.id) (a := z.id) (y := y) hn).2 ⟨hy, e⟩
  have h2 := (find_uniq (f := fun y : NmD => y.id) (a := z.id) (y := z) hn).2 ⟨hz, rfl⟩
  exact Option.some.inj (h1.symm.trans h2)
theorem RsN.drop {i : Nat} {T1 T' : NTab} {l : List NmD} {id : Int} (h : RsN i T1 l) (h' : NtI T' (dropN l id)) : RsN (i + 1) T' (dropN l id) :=
  ⟨h', Nat.le_succ_of_le (Nat.le_trans (dropN_len l id) h.b), fun y hy => h.z y (dropN_mem.1 hy).1⟩
theorem RsN.add {i : Nat} {T1 T' : NTab} {l : List NmD} {d : NmD} (h : RsN i T1 l) (h' : NtI T' (dropN l d.id ++ [d])) (hd : d.s.size ≤ 1000) : RsN (i + 1) T' (dropN l d.id ++ [d]) :=
  ⟨h', by have h1 := dropN_len l d.id; have h2 := h.b; rw [List.length_append, List.length_singleton]; omega, fun y hy => by
    rcases List.mem_append.1 hy with hy | hy
    · exact h.z y (dropN_mem.1 hy).1
    · obtain rfl := List.mem_singleton.1 hy; exact hd⟩
theorem RsN.same {i : Nat} {T1 : NTab} {l : List NmD} (h : RsN i T1 l) : RsN (i + 1) T1 l := ⟨h.f, Nat.le_succ_of_le h.b, h.z⟩
theorem lright_b {L : List Int} (hB : ∀ x ∈ L, 0 ≤ x ∧ x ≤ 255) (h9 : L.length ≤ 1000) {b : Bool} (hb : tB (RightP L) = b) (w : World) :
    Calls Try.prog 22 [.string (strOfNums L)].toArray w fun e w' => e = .returned (.bool b) ∧ Below w.heap.size w w' := by
  have := lright_any L hB h9 w
  rwa [hb] at this
theorem law55_any (A : Option Addr) (n c : Nat) (CS : List CallN) (st : ByteArray) (w : World) (hn : n = CS.length) (hs : Rd1 w (sl A 3 CE CS)) :
    Calls Try.prog 4 [.slice A n c, .string st].toArray w fun e w' => e = .returned (.bool true) ∧ Below w.heap.size w w' := by
  refine g_enter0 T [] [] [sl A 3 CE CS] Try.func4 rfl Try.ntmps4 rfl (Rds.cons hs .nil).kn ?_
  by_cases h60 : 60 < n
  · (repeat' (first | (refine gG ?_; try intro _) | ((first | refine g_split rfl rfl tE (fun _ => ?_) (fun _ => ?_) | refine gk_cond rfl rfl tE (fun _ => ?_) (fun _ => ?_)) <;> (try first | (exfalso; omega; done) | (rename_i hx; exact absurd rfl hx) | (rename_i hx; cases hx; done)))))
    all_goals
      refine gk_ret hT rfl rfl (.tmp rfl .nil) (fun w' hk => ?_)
      exact ⟨rfl, hk.toBelow⟩
  by_cases h100 : 100 < st.size
  · (repeat' (first | (refine gG ?_; try intro _) | ((first | refine g_split rfl rfl tE (fun _ => ?_) (fun _ => ?_) | refine gk_cond rfl rfl tE (fun _ => ?_) (fun _ => ?_)) <;> (try first | (exfalso; omega; done) | (rename_i hx; exact absurd rfl hx) | (rename_i hx; cases hx; done)))))
    all_goals
      refine gk_ret hT rfl rfl (.tmp rfl .nil) (fun w' hk => ?_)
      exact ⟨rfl, hk.toBelow⟩
  (repeat' (first | (refine gG ?_; try intro _) | ((first | refine g_split rfl rfl tE (fun _ => ?_) (fun _ => ?_) | refine gk_cond rfl rfl tE (fun _ => ?_) (fun _ => ?_)) <;> (try first | (exfalso; omega; done) | (rename_i hx; exact absurd rfl hx) | (rename_i hx; cases hx; done)))))
  rename_i t
  refine gk_pack (ntL t ⟨none, [], []⟩) [] sA ?_
  refine gk_own 0 75 2 NE ?_
  refine gk_loop_sel (fun (q : Nat × NTab × Value × (List NmD)) => match q with | (i, T1, v, l) => (i ≤ n ∧ RsN i T1 l)) (fun (q : Nat × NTab × Value × (List NmD)) => match q with | (i, T1, v, l) => [(0, .slice A n c), (1, .string st), (5, .pointer (some ⟨t, 0, none⟩)), (6, v), (7, .int .i64 (i : Int))]) (fun (q : Nat × NTab × Value × (List NmD)) => match q with | (i, T1, v, l) => [ntF t T1, own 0 75 2 v NE l]) (fun (q : Nat × NTab × Value × (List NmD)) => match q with | (i, T1, v, l) => [sl A 3 CE CS]) (fun (q : Nat × NTab × Value × (List NmD)) => match q with | (i, T1, v, l) => n - i) (0, ⟨none, [], []⟩, .slice none 0 0, []) rfl ⟨Nat.zero_le _, nti0, Nat.le_refl _, fun y hy => by cases hy⟩ (by repeat (first | exact trivial | refine ⟨rfl, ?_⟩)) sA sS ?_
  rintro ⟨i, T1, v, l⟩ hI
  replace hI : (i ≤ n ∧ RsN i T1 l) := hI
  change GK _ _ [(0, .slice A n c), (1, .string st), (5, .pointer (some ⟨t, 0, none⟩)), (6, v), (7, .int .i64 (i : Int))] [ntF t T1, own 0 75 2 v NE l] [sl A 3 CE CS]
  obtain ⟨hi, hR⟩ := hI
  have hb := hR.b
  by_cases hlt : i < n
  · obtain ⟨cd, hcd⟩ : ∃ b, CS[i]? = some b := ⟨CS[i], List.getElem?_eq_getElem (by omega)⟩
    refine gk_elem (enc := CE) (L := CS) i mE (by omega) (by decide) (fun g o y eA hy => ?_)
    subst eA
    obtain rfl : cd = y := by rw [hcd] at hy; exact Option.some.inj hy
    obtain ⟨d, id, nm⟩ := cd
    obtain ⟨L, rfl, hB⟩ := sx_of nm
    have hsz : (strOfNums L).size = L.length := sx_size L
    have hsz' : ((⟨d, id, strOfNums L⟩ : CallN).s).size = L.length := hsz
    by_cases hL : 100 < L.length
    · (repeat' (first | (refine gG ?_; try intro _) | ((first | refine g_split rfl rfl tE (fun _ => ?_) (fun _ => ?_) | refine gk_cond rfl rfl tE (fun _ => ?_) (fun _ => ?_)) <;> (try first | (exfalso; omega; done) | (rename_i hx; exact absurd rfl hx) | (rename_i hx; cases hx; done)))))
      refine gk_ret hT rfl rfl (.tmp rfl .nil) (fun w' hk => ?_)
      exact ⟨rfl, hk.toBelow⟩
    (repeat' (first | (refine gG ?_; try intro _) | ((first | refine g_split rfl rfl tE (fun _ => ?_) (fun _ => ?_) | refine gk_cond rfl rfl tE (fun _ => ?_) (fun _ => ?_)) <;> (try first | (exfalso; omega; done) | (rename_i hx; exact absurd rfl hx) | (rename_i hx; cases hx; done)))))
    rename_i g8 hx99
    refine gk_sel (f' := [(0, .slice (some ⟨g, o, none⟩) n c), (1, .string st), (5, .pointer (some ⟨t, 0, none⟩)), (6, v), (7, .int .i64 (i : Int)), (8, .pointer (some ⟨g8, 0, none⟩))]) (O' := [ntF t T1, own 0 75 2 v NE l, blk g8 [.bool d, .int .i64 id, .string (strOfNums L)] 69]) (R' := [sl (some ⟨g, o, none⟩) 3 CE CS]) (by repeat (first | exact trivial | refine ⟨rfl, ?_⟩)) sA sS ?_
    refine gk_any [0, 1, 2, 3] (Cut _ (fun _ : Unit => [(0, .slice (some ⟨g, o, none⟩) n c), (1, .string st), (5, .pointer (some ⟨t, 0, none⟩)), (6, v), (7, .int .i64 (i : Int)), (8, .pointer (some ⟨g8, 0, none⟩)), (42, .bool false)]) (fun _ => [ntF t T1, own 0 75 2 v NE l, blk g8 [.bool d, .int .i64 id, .string (strOfNums L)] 69]) (fun _ => [sl (some ⟨g, o, none⟩) 3 CE CS])) rfl rfl (by kernel_rfl) ?_ (cut_k fun _ => ?_)
    · skip
      refine gb_take 0 rfl (by decide +kernel) rfl rfl (ys_ev (nw := true) hT rfl sI) sF ?_
      refine gb_take 1 rfl (by decide +kernel) rfl rfl (by first | exact ys_blk hT rfl rfl mE rfl rfl | exact ys_row hT rfl rfl mE rfl rfl | exact ys_row0 hT rfl rfl mE rfl rfl) sF ?_
      refine gb_take 3 rfl (by decide +kernel) rfl rfl (ys_ev (nw := true) hT rfl sI) sF ?_
      refine gb_take 4 rfl (by decide +kernel) rfl rfl (by first | exact ys_blk hT rfl rfl mE rfl rfl | exact ys_row hT rfl rfl mE rfl rfl | exact ys_row0 hT rfl rfl mE rfl rfl) sF ?_
      refine gb_only 2 (by decide +kernel) rfl rfl ?_
      refine mv_call_bel (fun w hk => nright_any L hB (by omega) w) rfl rfl rfl rfl rfl (by kernel_rfl) ?_
      refine ⟨sF, ?_⟩
      refine gb_only 5 (by decide +kernel) rfl rfl ?_
      refine mv_call_bel (fun w hk => lright_any L hB (by omega) w) rfl rfl rfl rfl rfl (by kernel_rfl) ?_
      refine ⟨sF, ?_⟩
      refine gb_take 6 rfl (by decide +kernel) rfl rfl (ys_ev (nw := true) hT rfl sI) sF ?_
      try (refine gb_say 42 (.bool false) rfl (congrArg Value.bool (tB_false (fun h => h rfl))) ?_)
      refine gb_nil (by decide +kernel) ?_
      exact ⟨(), (by repeat (first | exact trivial | refine ⟨rfl, ?_⟩)), sA, sS⟩
    (repeat (refine gG ?_; try intro _))
    refine g_mv rfl ?_; refine mv_call_bel (fun w hk => by_own v l id w (by omega) (hk.rO (φ := own 0 75 2 v NE l) mE)) rfl rfl rfl rfl rfl (by kernel_rfl) ?_
    (repeat (refine gG ?_; try intro _))
    apply joinR' (fun q : NTab × Value × List NmD => RsN (i + 1) q.1 q.2.2) (fun q => [(0, .slice (some ⟨g, o, none⟩) n c), (1, .string st), (5, .pointer (some ⟨t, 0, none⟩)), (6, q.2.1), (7, .int .i64 (i : Int)), (8, .pointer (some ⟨g8, 0, none⟩)), (109, .pointer (some ⟨t, 0, none⟩)), (110, q.2.1), (111, .agg #[.bool d, .int .i64 id, .string (strOfNums L)]), (112, .string st)]) (fun q => [ntF t q.1, own 0 75 2 q.2.1 NE q.2.2, blk g8 [.bool d, .int .i64 id, .string (strOfNums L)] 69]) (fun _ => [sl (some ⟨g, o, none⟩) 3 CE CS])
    case r =>
      intro J
      rcases posF_cases (pI id) l with ⟨e1, hall1⟩ | ⟨i1, y1, e1, hy1, hy1p, _⟩
      · have hno1 : ∀ y, y ∈ l → y.id ≠ id := fun y hy => by have := hall1 y hy; simpa using this
        have hex : ¬ ∃ y, y ∈ l ∧ y.id = id := fun ⟨y, hy, e⟩ => hno1 y hy e
        have hdn : dropN l id = l := dropN_no hall1
        rw [e1]
        cases d with
        | true =>
          (repeat (refine gG ?_; try intro _))
          refine g_mv rfl (mv_call_mod (φ := ntF t T1) (ψ := fun T' : NTab => ntF t T') (fun w1 hk => by exact ndrop_any t T1 l id w1 hR.f (hk.rO (φ := ntF t T1) mE)) rfl rfl rfl rfl rfl (by kernel_rfl) (by intro _; first | ((repeat (first | with_reducible exact Upd.here _ | with_reducible apply Upd.there)); done) | ((repeat (first | exact Upd.here _ | apply Upd.there)); done) | fail) (fun T' hT' => ?_))
          refine g_say 52 (.bool false) rfl (congrArg Value.bool (tB_false hex)) ?_
          (repeat (refine gG ?_; try intro _))
          refine gk_cond_f rfl (congrArg some (congrArg Value.bool (tB_false (fun h => h (tB_false (by omega)).symm)))) ?_
          (repeat (refine gG ?_; try intro _))
          refine g_mv rfl ?_; refine mv_call_bel (fun w hk => without_own_no v l w (hk.rO (φ := own 0 75 2 v NE l) mE)) rfl rfl rfl rfl rfl (by kernel_rfl) ?_
          (repeat (refine gG ?_; try intro _))
          have hT2 := hR.drop hT'.1
          rw [hdn] at hT2
          have hJ := J.out (T', v, l) hT2
          try dsimp only at hJ
          refine g_wk (by repeat (first | exact trivial | refine ⟨rfl, ?_⟩)) sA sS hJ
        | false =>
          by_cases hbad : id < 1 ∨ 65535 < id ∨ ¬ RightP L
          · as_aux_lemma =>
            (repeat (refine gG ?_; try intro _))
            refine g_mv rfl ?_; refine mv_call_bel (fun w hk => of_own v l (strOfNums L) w (by omega) (hk.rO (φ := own 0 75 2 v NE l) mE)) rfl rfl rfl rfl rfl (by kernel_rfl) ?_
            rcases hrr : (tB (RightP L)) with _ | _
            · have hc := fun w => lright_b hB (by omega) hrr w
              (repeat' (first | (refine gG ?_; try intro _) | (refine g_mv rfl ?_; first | refine mv_call_bel (fun w hk => hc w) rfl rfl rfl rfl rfl (by kernel_rfl) ?_ | refine mv_call_bel (fun w hk => nset_bad t id L w hB (by omega) hbad) rfl rfl rfl rfl rfl (by kernel_rfl) ?_) | ((first | refine g_split rfl rfl tE (fun _ => ?_) (fun _ => ?_) | refine gk_cond rfl rfl tE (fun _ => ?_) (fun _ => ?_)) <;> (try first | (exfalso; omega; done) | (rename_i hx; exact absurd rfl hx) | (rename_i hx; cases hx; done)))))
              all_goals
                have hJ := J.out (T1, v, l) hR.same
                try dsimp only at hJ
                refine g_wk (by repeat (first | exact trivial | refine ⟨rfl, ?_⟩)) sA sS hJ
            · have hc := fun w => lright_b hB (by omega) hrr w
              have hid : id < 1 ∨ 65535 < id := hbad.imp_right fun h => h.resolve_right fun h => h (Classical.byContradiction fun hn => by rw [tB_false hn] at hrr; cases hrr)
              (repeat' (first | (refine gG ?_; try intro _) | (refine g_mv rfl ?_; first | refine mv_call_bel (fun w hk => hc w) rfl rfl rfl rfl rfl (by kernel_rfl) ?_ | refine mv_call_bel (fun w hk => nset_bad t id L w hB (by omega) hbad) rfl rfl rfl rfl rfl (by kernel_rfl) ?_) | ((first | refine g_split rfl rfl tE (fun _ => ?_) (fun _ => ?_) | refine gk_cond rfl rfl tE (fun _ => ?_) (fun _ => ?_)) <;> (try first | (exfalso; omega; done) | (rename_i hx; exact absurd rfl hx) | (rename_i hx; cases hx; done)))))
              all_goals
                have hJ := J.out (T1, v, l) hR.same
                try dsimp only at hJ
                refine g_wk (by repeat (first | exact trivial | refine ⟨rfl, ?_⟩)) sA sS hJ
          · have hg1 : 1 ≤ id := by omega
            have hg2 : id ≤ 65535 := by omega
            have hg3 : RightP L := Classical.byContradiction fun h => hbad (.inr (.inr h))
            clear hbad
            as_aux_lemma =>
              (repeat (refine gG ?_; try intro _))
              refine g_mv rfl ?_; refine mv_call_bel (fun w hk => of_own v l (strOfNums L) w (by omega) (hk.rO (φ := own 0 75 2 v NE l) mE)) rfl rfl rfl rfl rfl (by kernel_rfl) ?_
              have hc := fun w => lright_b hB (by omega) (tB_true hg3) w
              rcases posF_cases (pS (strOfNums L)) l with ⟨e2, hall2⟩ | ⟨j1, z1, e2, hz1, hz1s, _⟩
              · have hno2 : ∀ y, y ∈ l → y.s ≠ strOfNums L := fun y hy => by have := hall2 y hy; simpa using this
                have hgid : ∀ y, y ∈ l → y.s = strOfNums L → y.id = id := fun y hy e => absurd e (hno2 y hy)
                rw [e2]
                (repeat' (first | (refine gG ?_; try intro _) | (refine g_mv rfl ?_; first | refine mv_call_bel (fun w hk => hc w) rfl rfl rfl rfl rfl (by kernel_rfl) ?_) | ((first | refine g_split rfl rfl tE (fun _ => ?_) (fun _ => ?_) | refine gk_cond rfl rfl tE (fun _ => ?_) (fun _ => ?_)) <;> (try first | (exfalso; omega; done) | (rename_i hx; exact absurd rfl hx) | (rename_i hx; cases hx; done)))))
                refine gk_sel (f' := [(0, .slice (some ⟨g, o, none⟩) n c), (1, .string st), (5, .pointer (some ⟨t, 0, none⟩)), (6, v), (7, .int .i64 (i : Int)), (8, .pointer (some ⟨g8, 0, none⟩)), (9, .int .i64 (-1)), (10, .int .i64 0), (11, .int .i64 (-1))]) (O' := [ntF t T1, own 0 75 2 v NE l, blk g8 [.bool false, .int .i64 id, .string (strOfNums L)] 69]) (R' := [sl (some ⟨g, o, none⟩) 3 CE CS]) (by repeat (first | exact trivial | refine ⟨rfl, ?_⟩)) sA sS ?_
                refine gk_any [0, 1, 2, 3] (Cut _ (fun _ : Unit => [(0, .slice (some ⟨g, o, none⟩) n c), (1, .string st), (5, .pointer (some ⟨t, 0, none⟩)), (6, v), (7, .int .i64 (i : Int)), (8, .pointer (some ⟨g8, 0, none⟩)), (9, .int .i64 (-1)), (10, .int .i64 0), (88, .bool false)]) (fun _ => [ntF t T1, own 0 75 2 v NE l, blk g8 [.bool false, .int .i64 id, .string (strOfNums L)] 69]) (fun _ => [sl (some ⟨g, o, none⟩) 3 CE CS])) rfl rfl (by kernel_rfl) ?_ (cut_k fun _ => ?_)
                · skip
                  refine gb_take 0 rfl (by decide +kernel) rfl rfl (ys_ev (nw := true) hT rfl sI) sF ?_
                  refine gb_take 1 rfl (by decide +kernel) rfl rfl (ys_ev (nw := true) hT rfl sI) sF ?_
                  try (refine gb_say 90 (.bool false) rfl (congrArg Value.bool (tB_false (by omega))) ?_)
                  refine gb_take 2 rfl (by decide +kernel) rfl rfl (ys_ev (nw := true) hT rfl sI) sF ?_
                  first | refine gb_take 3 rfl (by decide +kernel) rfl rfl (ys_ev (nw := true) hT rfl sI) sF ?_ | refine gb_skip 3 rfl (by decide +kernel) rfl rfl sF ?_
                  first | refine gb_take 4 rfl (by decide +kernel) rfl rfl (ys_ev (nw := true) hT rfl sI) sF ?_ | refine gb_skip 4 rfl (by decide +kernel) rfl rfl sF ?_
                  first | refine gb_take 5 rfl (by decide +kernel) rfl rfl (ys_ev (nw := true) hT rfl sI) sF ?_ | refine gb_skip 5 rfl (by decide +kernel) rfl rfl sF ?_
                  first | refine gb_take 6 rfl (by decide +kernel) rfl rfl (ys_ev (nw := true) hT rfl sI) sF ?_ | refine gb_skip 6 rfl (by decide +kernel) rfl rfl sF ?_
                  first | refine gb_take 7 rfl (by decide +kernel) rfl rfl (by first | exact ys_blk hT rfl rfl mE rfl rfl | exact ys_row hT rfl rfl mE rfl rfl | exact ys_row0 hT rfl rfl mE rfl rfl) sF ?_ | refine gb_skip 7 rfl (by decide +kernel) rfl rfl sF ?_
                  first | refine gb_take 8 rfl (by decide +kernel) rfl rfl (ys_ev (nw := true) hT rfl sI) sF ?_ | refine gb_skip 8 rfl (by decide +kernel) rfl rfl sF ?_
                  first | refine gb_take 9 rfl (by decide +kernel) rfl rfl (by first | exact ys_blk hT rfl rfl mE rfl rfl | exact ys_row hT rfl rfl mE rfl rfl | exact ys_row0 hT rfl rfl mE rfl rfl) sF ?_ | refine gb_skip 9 rfl (by decide +kernel) rfl rfl sF ?_
                  first | refine gb_take 10 rfl (by decide +kernel) rfl rfl (ys_ev (nw := true) hT rfl sI) sF ?_ | refine gb_skip 10 rfl (by decide +kernel) rfl rfl sF ?_
                  refine gb_take 11 rfl (by decide +kernel) rfl rfl (ys_ev (nw := true) hT rfl sI) sF ?_
                  refine gb_take 12 rfl (by decide +kernel) rfl rfl (ys_ev (nw := true) hT rfl sI) sF ?_
                  refine gb_nil (by decide +kernel) ?_
                  exact ⟨(), (by repeat (first | exact trivial | refine ⟨rfl, ?_⟩)), sA, sS⟩
                · (repeat (refine gG ?_; try intro _))
                  refine gk_sel (f' := [(0, .slice (some ⟨g, o, none⟩) n c), (1, .string st), (5, .pointer (some ⟨t, 0, none⟩)), (6, v), (7, .int .i64 (i : Int)), (8, .pointer (some ⟨g8, 0, none⟩)), (9, .int .i64 (-1)), (10, .int .i64 0)]) (O' := [ntF t T1, own 0 75 2 v NE l, blk g8 [.bool false, .int .i64 id, .string (strOfNums L)] 69]) (R' := [sl (some ⟨g, o, none⟩) 3 CE CS]) (by repeat (first | exact trivial | refine ⟨rfl, ?_⟩)) sA sS ?_
                  refine gk_any [0, 2, 3] (Cut _ (fun v2 : Value => [(0, .slice (some ⟨g, o, none⟩) n c), (1, .string st), (5, .pointer (some ⟨t, 0, none⟩)), (6, v2), (7, .int .i64 (i : Int)), (8, .pointer (some ⟨g8, 0, none⟩)), (10, .int .i64 0)]) (fun v2 => [ntF t T1, own 0 75 2 v2 NE (l ++ [⟨id, strOfNums L⟩]), blk g8 [.bool false, .int .i64 id, .string (strOfNums L)] 69]) (fun _ => [sl (some ⟨g, o, none⟩) 3 CE CS])) rfl rfl (by kernel_rfl) ?_ (cut_k fun v2 => ?_)
                  · skip
                    refine gb_take 0 rfl (by decide +kernel) rfl rfl (ys_ev (nw := true) hT rfl sI) sF ?_
                    refine gb_take 1 rfl (by decide +kernel) rfl rfl (ys_ev (nw := true) hT rfl sI) sF ?_
                    refine gb_take 3 rfl (by decide +kernel) rfl rfl (ys_ev (nw := true) hT rfl sI) sF ?_
                    refine gb_take 4 rfl (by decide +kernel) rfl rfl (by first | exact ys_blk hT rfl rfl mE rfl rfl | exact ys_row hT rfl rfl mE rfl rfl | exact ys_row0 hT rfl rfl mE rfl rfl) sF ?_
                    refine gb_take 5 rfl (by decide +kernel) rfl rfl (ys_ev (nw := true) hT rfl sI) sF ?_
                    refine gb_take 6 rfl (by decide +kernel) rfl rfl (by first | exact ys_blk hT rfl rfl mE rfl rfl | exact ys_row hT rfl rfl mE rfl rfl | exact ys_row0 hT rfl rfl mE rfl rfl) sF ?_
                    refine gb_take 7 rfl (by decide +kernel) rfl rfl (ys_ev (nw := true) hT rfl sI) sF ?_
                    refine gb_all (by decide +kernel) ?_
                    refine gball_not (by decide +kernel) ?_
                    refine gball_not (by decide +kernel) ?_
                    refine gball_yes rfl rfl ?_ ?_
                    · refine mv_call_bel (fun w hk => without_own_no v l w (hk.rO (φ := own 0 75 2 v NE l) mE)) rfl rfl rfl rfl rfl (by kernel_rfl) ?_
                      refine ⟨sF, ?_⟩
                      refine gb_only 8 (by decide +kernel) rfl rfl ?_
                      first | (refine mv_box rfl rfl rfl rfl ?_; intro _) | (refine mv_alloc rfl hT rfl rfl ?_; intro _) | refine mv_store hT rfl rfl rfl rfl rfl rfl sO rfl ?_ | (refine mv_buildSlice rfl hT rfl rfl rfl rfl rfl rfl rfl rfl ?_; intro _)
                      refine ⟨sF, ?_⟩
                      refine gb_only 9 (by decide +kernel) rfl rfl ?_
                      (refine mv_append (L := l) rfl [(⟨id, strOfNums L⟩ : NmD)] rfl rfl rfl rfl elt_N (by intro _; first | ((repeat (first | with_reducible exact Upd.here _ | with_reducible apply Upd.there)); done) | ((repeat (first | exact Upd.here _ | apply Upd.there)); done) | fail) (src_blk mE rfl) rfl oneN (by simp only [maxLen, List.length_append, List.length_cons, List.length_nil]; omega) (by simp only [List.length_append, List.length_cons, List.length_nil]; omega) (Nat.zero_le _) ?_; intro v2)
                      refine ⟨sF, ?_⟩
                      refine gb_take 10 rfl (by decide +kernel) rfl rfl (ys_ev (nw := true) hT rfl sI) sF ?_
                      refine gb_nil (by decide +kernel) ?_
                      exact ⟨v2, (by repeat (first | exact trivial | refine ⟨rfl, ?_⟩)), sA, sS⟩
                    refine gball_not (by decide +kernel) ?_
                    refine gball_not (by decide +kernel) ?_
                    refine gball_not (by decide +kernel) ?_
                    refine gball_not (by decide +kernel) ?_
                    refine gball_not (by decide +kernel) ?_
                    refine gball_yes rfl rfl ?_ ?_
                    · first | (refine mv_box rfl rfl rfl rfl ?_; intro _) | (refine mv_alloc rfl hT rfl rfl ?_; intro _) | refine mv_store hT rfl rfl rfl rfl rfl rfl sO rfl ?_ | (refine mv_buildSlice rfl hT rfl rfl rfl rfl rfl rfl rfl rfl ?_; intro _)
                      refine ⟨sF, ?_⟩
                      refine gb_only 2 (by decide +kernel) rfl rfl ?_
                      refine mv_call_bel (fun w hk => without_own_no v l w (hk.rO (φ := own 0 75 2 v NE l) mE)) rfl rfl rfl rfl rfl (by kernel_rfl) ?_
                      refine ⟨sF, ?_⟩
                      refine gb_only 9 (by decide +kernel) rfl rfl ?_
                      (refine mv_append (L := l) rfl [(⟨id, strOfNums L⟩ : NmD)] rfl rfl rfl rfl elt_N (by intro _; first | ((repeat (first | with_reducible exact Upd.here _ | with_reducible apply Upd.there)); done) | ((repeat (first | exact Upd.here _ | apply Upd.there)); done) | fail) (src_blk mE rfl) rfl oneN (by simp only [maxLen, List.length_append, List.length_cons, List.length_nil]; omega) (by simp only [List.length_append, List.length_cons, List.length_nil]; omega) (Nat.zero_le _) ?_; intro v2)
                      refine ⟨sF, ?_⟩
                      refine gb_take 10 rfl (by decide +kernel) rfl rfl (ys_ev (nw := true) hT rfl sI) sF ?_
                      refine gb_nil (by decide +kernel) ?_
                      exact ⟨v2, (by repeat (first | exact trivial | refine ⟨rfl, ?_⟩)), sA, sS⟩
                    refine gball_not (by decide +kernel) ?_
                    refine gball_not (by decide +kernel) ?_
                    exact gball_end (by decide +kernel)
                  · (repeat (refine gG ?_; try intro _))
                    refine g_mv rfl (mv_call_mod (φ := ntF t T1) (ψ := fun T' : NTab => ntF t T') (fun w1 hk => by exact nset_ok t T1 l id L w1 hB (by omega) hg1 hg2 hg3 (by omega) hgid hR.f (hk.rO (φ := ntF t T1) mE)) rfl rfl rfl rfl rfl (by kernel_rfl) (by intro _; first | ((repeat (first | with_reducible exact Upd.here _ | with_reducible apply Upd.there)); done) | ((repeat (first | exact Upd.here _ | apply Upd.there)); done) | fail) (fun T' hT' => ?_))
                    (repeat' (first | (refine gG ?_; try intro _) | ((first | refine g_split rfl rfl tE (fun _ => ?_) (fun _ => ?_) | refine gk_cond rfl rfl tE (fun _ => ?_) (fun _ => ?_)) <;> (try first | (exfalso; omega; done) | (rename_i hx; exact absurd rfl hx) | (rename_i hx; cases hx; done)))))
                    have hT2 := hR.add (d := ⟨id, strOfNums L⟩) hT' (by show (strOfNums L).size ≤ 1000; omega)
                    rw [show dropN l (⟨id, strOfNums L⟩ : NmD).id = l from hdn] at hT2
                    have hJ := J.out (T', v2, l ++ [⟨id, strOfNums L⟩]) hT2
                    try dsimp only at hJ
                    refine g_wk (by repeat (first | exact trivial | refine ⟨rfl, ?_⟩)) sA sS hJ
              · have hz1m := List.mem_of_getElem? hz1
                have hz1n : z1.s = strOfNums L := by simpa using hz1s
                have hj1 := (List.getElem?_eq_some_iff.1 hz1).1
                rw [e2]
                (repeat' (first | (refine gG ?_; try intro _) | (refine g_mv rfl ?_; first | refine mv_call_bel (fun w hk => hc w) rfl rfl rfl rfl rfl (by kernel_rfl) ?_) | ((first | refine g_split rfl rfl tE (fun _ => ?_) (fun _ => ?_) | refine gk_cond rfl rfl tE (fun _ => ?_) (fun _ => ?_)) <;> (try first | (exfalso; omega; done) | (rename_i hx; exact absurd rfl hx) | (rename_i hx; cases hx; done)))))
                refine gk_own0 v mE (by omega) (fun b9 c9 hv9 _ _ => ?_)
                subst hv9
                by_cases hzi : z1.id = id
                · have hgid : ∀ y, y ∈ l → y.s = strOfNums L → y.id = id := fun y hy e => by
                    have h1 := (find_uniq (f := fun y : NmD => y.s) (a := strOfNums L) (y := y) hR.f.nms).2 ⟨hy, e⟩
                    have h2 := (find_uniq (f := fun y : NmD => y.s) (a := strOfNums L) (y := z1) hR.f.nms).2 ⟨hz1m, hz1n⟩
                    rw [Option.some.inj (h1.symm.trans h2)]
                    exact hzi
                  exact absurd ⟨z1, hz1m, hzi⟩ hex
                · skip
                  refine gk_sel (f' := [(0, .slice (some ⟨g, o, none⟩) n c), (1, .string st), (5, .pointer (some ⟨t, 0, none⟩)), (6, (.slice (some ⟨b9, 0, none⟩) l.length c9)), (7, .int .i64 (i : Int)), (8, .pointer (some ⟨g8, 0, none⟩)), (9, .int .i64 (-1)), (10, .int .i64 0), (11, .int .i64 (j1 : Int))]) (O' := [ntF t T1, own 0 75 2 (.slice (some ⟨b9, 0, none⟩) l.length c9) NE l, blk g8 [.bool false, .int .i64 id, .string (strOfNums L)] 69]) (R' := [sl (some ⟨g, o, none⟩) 3 CE CS]) (by repeat (first | exact trivial | refine ⟨rfl, ?_⟩)) sA sS ?_
                  refine gk_any [0, 1, 2, 3] (Cut _ (fun _ : Unit => [(0, .slice (some ⟨g, o, none⟩) n c), (1, .string st), (5, .pointer (some ⟨t, 0, none⟩)), (6, (.slice (some ⟨b9, 0, none⟩) l.length c9)), (7, .int .i64 (i : Int)), (8, .pointer (some ⟨g8, 0, none⟩)), (9, .int .i64 (-1)), (10, .int .i64 0), (88, .bool true)]) (fun _ => [ntF t T1, own 0 75 2 (.slice (some ⟨b9, 0, none⟩) l.length c9) NE l, blk g8 [.bool false, .int .i64 id, .string (strOfNums L)] 69]) (fun _ => [sl (some ⟨g, o, none⟩) 3 CE CS])) rfl rfl (by kernel_rfl) ?_ (cut_k fun _ => ?_)
                  · skip
                    refine gb_take 0 rfl (by decide +kernel) rfl rfl (ys_ev (nw := true) hT rfl sI) sF ?_
                    refine gb_take 1 rfl (by decide +kernel) rfl rfl (ys_ev (nw := true) hT rfl sI) sF ?_
                    try (refine gb_say 90 (.bool true) rfl (congrArg Value.bool (tB_true (by omega))) ?_)
                    refine gb_take 2 rfl (by decide +kernel) rfl rfl (ys_ev (nw := true) hT rfl sI) sF ?_
                    first | refine gb_take 3 rfl (by decide +kernel) rfl rfl (ys_ev (nw := true) hT rfl sI) sF ?_ | refine gb_skip 3 rfl (by decide +kernel) rfl rfl sF ?_
                    first | refine gb_take 4 rfl (by decide +kernel) rfl rfl (ys_ev (nw := true) hT rfl sI) sF ?_ | refine gb_skip 4 rfl (by decide +kernel) rfl rfl sF ?_
                    first | refine gb_take 5 rfl (by decide +kernel) rfl rfl (ys_ev (nw := true) hT rfl sI) sF ?_ | refine gb_skip 5 rfl (by decide +kernel) rfl rfl sF ?_
                    first | refine gb_take 6 rfl (by decide +kernel) rfl rfl (ys_ev (nw := true) hT rfl sI) sF ?_ | refine gb_skip 6 rfl (by decide +kernel) rfl rfl sF ?_
                    first | refine gb_take 7 rfl (by decide +kernel) rfl rfl (ys_load_el (o0 := 0) (sz := 2) (enc := NE) (L := l) hT j1 z1 0 rfl rfl rfl (by first | rfl | omega) hz1 (at_own (base := 0) (e := 75) (n := l.length) (c := c9) mE) rfl rfl) sF ?_ | refine gb_skip 7 rfl (by decide +kernel) rfl rfl sF ?_
                    first | refine gb_take 8 rfl (by decide +kernel) rfl rfl (ys_ev (nw := true) hT rfl sI) sF ?_ | refine gb_skip 8 rfl (by decide +kernel) rfl rfl sF ?_
                    first | refine gb_take 9 rfl (by decide +kernel) rfl rfl (by first | exact ys_blk hT rfl rfl mE rfl rfl | exact ys_row hT rfl rfl mE rfl rfl | exact ys_row0 hT rfl rfl mE rfl rfl) sF ?_ | refine gb_skip 9 rfl (by decide +kernel) rfl rfl sF ?_
                    first | refine gb_take 10 rfl (by decide +kernel) rfl rfl (ys_ev (nw := true) hT rfl sI) sF ?_ | refine gb_skip 10 rfl (by decide +kernel) rfl rfl sF ?_
                    try (refine gb_say 99 (.bool true) rfl (congrArg Value.bool (tB_true hzi)) ?_)
                    refine gb_take 11 rfl (by decide +kernel) rfl rfl (ys_ev (nw := true) hT rfl sI) sF ?_
                    refine gb_take 12 rfl (by decide +kernel) rfl rfl (ys_ev (nw := true) hT rfl sI) sF ?_
                    refine gb_nil (by decide +kernel) ?_
                    exact ⟨(), (by repeat (first | exact trivial | refine ⟨rfl, ?_⟩)), sA, sS⟩
                  · (repeat (refine gG ?_; try intro _))
                    refine g_mv rfl ?_; refine mv_call_bel (fun w hk => nset_twice t T1 l id L z1 w hB (by omega) hg1 hg2 hg3 hz1m hz1n hzi hR.f (hk.rO (φ := ntF t T1) mE)) rfl rfl rfl rfl rfl (by kernel_rfl) ?_
                    (repeat' (first | (refine gG ?_; try intro _) | ((first | refine g_split rfl rfl tE (fun _ => ?_) (fun _ => ?_) | refine gk_cond rfl rfl tE (fun _ => ?_) (fun _ => ?_)) <;> (try first | (exfalso; omega; done) | (rename_i hx; exact absurd rfl hx) | (rename_i hx; cases hx; done)))))
                    have hJ := J.out (T1, (.slice (some ⟨b9, 0, none⟩) l.length c9), l) hR.same
                    try dsimp only at hJ
                    refine g_wk (by repeat (first | exact trivial | refine ⟨rfl, ?_⟩)) sA sS hJ
      · have hy1i : y1.id = id := by simpa using hy1p
        have hi1 := (List.getElem?_eq_some_iff.1 hy1).1
        have hdl := dropN_len l id
        rw [e1]
        cases d with
        | true =>
          (repeat (refine gG ?_; try intro _))
          refine g_mv rfl (mv_call_mod (φ := ntF t T1) (ψ := fun T' : NTab => ntF t T') (fun w1 hk => by exact ndrop_any t T1 l id w1 hR.f (hk.rO (φ := ntF t T1) mE)) rfl rfl rfl rfl rfl (by kernel_rfl) (by intro _; first | ((repeat (first | with_reducible exact Upd.here _ | with_reducible apply Upd.there)); done) | ((repeat (first | exact Upd.here _ | apply Upd.there)); done) | fail) (fun T' hT' => ?_))
          refine g_say 52 (.bool true) rfl (congrArg Value.bool (tB_true ⟨y1, List.mem_of_getElem? hy1, hy1i⟩)) ?_
          (repeat (refine gG ?_; try intro _))
          refine gk_cond_f rfl (congrArg some (congrArg Value.bool (tB_false (fun h => h (tB_true (by omega)).symm)))) ?_
          (repeat (refine gG ?_; try intro _))
          refine g_mv rfl ?_; refine mv_call_rt (fun w hk => without_own v l i1 w (by omega) (List.getElem?_eq_some_iff.1 hy1).1 (hk.rO (φ := own 0 75 2 v NE l) mE)) rfl rfl rfl rfl rfl (by kernel_rfl) (fun _ => rfl) (fun v1 _ => ?_)
          rw [dropN_at hR.f.ids hy1 hy1i]
          (repeat (refine gG ?_; try intro _))
          have hJ := J.out (T', v1, dropN l id) (hR.drop hT'.1)
          try dsimp only at hJ
          refine g_wk (by repeat (first | exact trivial | refine ⟨rfl, ?_⟩)) sA sS hJ
        | false =>
          by_cases hbad : id < 1 ∨ 65535 < id ∨ ¬ RightP L
          · as_aux_lemma =>
            (repeat (refine gG ?_; try intro _))
            refine g_mv rfl ?_; refine mv_call_bel (fun w hk => of_own v l (strOfNums L) w (by omega) (hk.rO (φ := own 0 75 2 v NE l) mE)) rfl rfl rfl rfl rfl (by kernel_rfl) ?_
            rcases hrr : (tB (RightP L)) with _ | _
            · have hc := fun w => lright_b hB (by omega) hrr w
              (repeat' (first | (refine gG ?_; try intro _) | (refine g_mv rfl ?_; first | refine mv_call_bel (fun w hk => hc w) rfl rfl rfl rfl rfl (by kernel_rfl) ?_ | refine mv_call_bel (fun w hk => nset_bad t id L w hB (by omega) hbad) rfl rfl rfl rfl rfl (by kernel_rfl) ?_) | ((first | refine g_split rfl rfl tE (fun _ => ?_) (fun _ => ?_) | refine gk_cond rfl rfl tE (fun _ => ?_) (fun _ => ?_)) <;> (try first | (exfalso; omega; done) | (rename_i hx; exact absurd rfl hx) | (rename_i hx; cases hx; done)))))
              all_goals
                have hJ := J.out (T1, v, l) hR.same
                try dsimp only at hJ
                refine g_wk (by repeat (first | exact trivial | refine ⟨rfl, ?_⟩)) sA sS hJ
            · have hc := fun w => lright_b hB (by omega) hrr w
              have hid : id < 1 ∨ 65535 < id := hbad.imp_right fun h => h.resolve_right fun h => h (Classical.byContradiction fun hn => by rw [tB_false hn] at hrr; cases hrr)
              (repeat' (first | (refine gG ?_; try intro _) | (refine g_mv rfl ?_; first | refine mv_call_bel (fun w hk => hc w) rfl rfl rfl rfl rfl (by kernel_rfl) ?_ | refine mv_call_bel (fun w hk => nset_bad t id L w hB (by omega) hbad) rfl rfl rfl rfl rfl (by kernel_rfl) ?_) | ((first | refine g_split rfl rfl tE (fun _ => ?_) (fun _ => ?_) | refine gk_cond rfl rfl tE (fun _ => ?_) (fun _ => ?_)) <;> (try first | (exfalso; omega; done) | (rename_i hx; exact absurd rfl hx) | (rename_i hx; cases hx; done)))))
              all_goals
                have hJ := J.out (T1, v, l) hR.same
                try dsimp only at hJ
                refine g_wk (by repeat (first | exact trivial | refine ⟨rfl, ?_⟩)) sA sS hJ
          · have hg1 : 1 ≤ id := by omega
            have hg2 : id ≤ 65535 := by omega
            have hg3 : RightP L := Classical.byContradiction fun h => hbad (.inr (.inr h))
            clear hbad
            as_aux_lemma =>
              (repeat (refine gG ?_; try intro _))
              refine g_mv rfl ?_; refine mv_call_bel (fun w hk => of_own v l (strOfNums L) w (by omega) (hk.rO (φ := own 0 75 2 v NE l) mE)) rfl rfl rfl rfl rfl (by kernel_rfl) ?_
              have hc := fun w => lright_b hB (by omega) (tB_true hg3) w
              rcases posF_cases (pS (strOfNums L)) l with ⟨e2, hall2⟩ | ⟨j1, z1, e2, hz1, hz1s, _⟩
              · have hno2 : ∀ y, y ∈ l → y.s ≠ strOfNums L := fun y hy => by have := hall2 y hy; simpa using this
                have hgid : ∀ y, y ∈ l → y.s = strOfNums L → y.id = id := fun y hy e => absurd e (hno2 y hy)
                rw [e2]
                (repeat' (first | (refine gG ?_; try intro _) | (refine g_mv rfl ?_; first | refine mv_call_bel (fun w hk => hc w) rfl rfl rfl rfl rfl (by kernel_rfl) ?_) | ((first | refine g_split rfl rfl tE (fun _ => ?_) (fun _ => ?_) | refine gk_cond rfl rfl tE (fun _ => ?_) (fun _ => ?_)) <;> (try first | (exfalso; omega; done) | (rename_i hx; exact absurd rfl hx) | (rename_i hx; cases hx; done)))))
                refine gk_sel (f' := [(0, .slice (some ⟨g, o, none⟩) n c), (1, .string st), (5, .pointer (some ⟨t, 0, none⟩)), (6, v), (7, .int .i64 (i : Int)), (8, .pointer (some ⟨g8, 0, none⟩)), (9, .int .i64 (i1 : Int)), (10, .int .i64 0), (11, .int .i64 (-1))]) (O' := [ntF t T1, own 0 75 2 v NE l, blk g8 [.bool false, .int .i64 id, .string (strOfNums L)] 69]) (R' := [sl (some ⟨g, o, none⟩) 3 CE CS]) (by repeat (first | exact trivial | refine ⟨rfl, ?_⟩)) sA sS ?_
                refine gk_any [0, 1, 2, 3] (Cut _ (fun _ : Unit => [(0, .slice (some ⟨g, o, none⟩) n c), (1, .string st), (5, .pointer (some ⟨t, 0, none⟩)), (6, v), (7, .int .i64 (i : Int)), (8, .pointer (some ⟨g8, 0, none⟩)), (9, .int .i64 (i1 : Int)), (10, .int .i64 0), (88, .bool false)]) (fun _ => [ntF t T1, own 0 75 2 v NE l, blk g8 [.bool false, .int .i64 id, .string (strOfNums L)] 69]) (fun _ => [sl (some ⟨g, o, none⟩) 3 CE CS])) rfl rfl (by kernel_rfl) ?_ (cut_k fun _ => ?_)
                · skip
                  refine gb_take 0 rfl (by decide +kernel) rfl rfl (ys_ev (nw := true) hT rfl sI) sF ?_
                  refine gb_take 1 rfl (by decide +kernel) rfl rfl (ys_ev (nw := true) hT rfl sI) sF ?_
                  try (refine gb_say 90 (.bool false) rfl (congrArg Value.bool (tB_false (by omega))) ?_)
                  refine gb_take 2 rfl (by decide +kernel) rfl rfl (ys_ev (nw := true) hT rfl sI) sF ?_
                  first | refine gb_take 3 rfl (by decide +kernel) rfl rfl (ys_ev (nw := true) hT rfl sI) sF ?_ | refine gb_skip 3 rfl (by decide +kernel) rfl rfl sF ?_
                  first | refine gb_take 4 rfl (by decide +kernel) rfl rfl (ys_ev (nw := true) hT rfl sI) sF ?_ | refine gb_skip 4 rfl (by decide +kernel) rfl rfl sF ?_
                  first | refine gb_take 5 rfl (by decide +kernel) rfl rfl (ys_ev (nw := true) hT rfl sI) sF ?_ | refine gb_skip 5 rfl (by decide +kernel) rfl rfl sF ?_
                  first | refine gb_take 6 rfl (by decide +kernel) rfl rfl (ys_ev (nw := true) hT rfl sI) sF ?_ | refine gb_skip 6 rfl (by decide +kernel) rfl rfl sF ?_
                  first | refine gb_take 7 rfl (by decide +kernel) rfl rfl (by first | exact ys_blk hT rfl rfl mE rfl rfl | exact ys_row hT rfl rfl mE rfl rfl | exact ys_row0 hT rfl rfl mE rfl rfl) sF ?_ | refine gb_skip 7 rfl (by decide +kernel) rfl rfl sF ?_
                  first | refine gb_take 8 rfl (by decide +kernel) rfl rfl (ys_ev (nw := true) hT rfl sI) sF ?_ | refine gb_skip 8 rfl (by decide +kernel) rfl rfl sF ?_
                  first | refine gb_take 9 rfl (by decide +kernel) rfl rfl (by first | exact ys_blk hT rfl rfl mE rfl rfl | exact ys_row hT rfl rfl mE rfl rfl | exact ys_row0 hT rfl rfl mE rfl rfl) sF ?_ | refine gb_skip 9 rfl (by decide +kernel) rfl rfl sF ?_
                  first | refine gb_take 10 rfl (by decide +kernel) rfl rfl (ys_ev (nw := true) hT rfl sI) sF ?_ | refine gb_skip 10 rfl (by decide +kernel) rfl rfl sF ?_
                  refine gb_take 11 rfl (by decide +kernel) rfl rfl (ys_ev (nw := true) hT rfl sI) sF ?_
                  refine gb_take 12 rfl (by decide +kernel) rfl rfl (ys_ev (nw := true) hT rfl sI) sF ?_
                  refine gb_nil (by decide +kernel) ?_
                  exact ⟨(), (by repeat (first | exact trivial | refine ⟨rfl, ?_⟩)), sA, sS⟩
                · (repeat (refine gG ?_; try intro _))
                  refine gk_sel (f' := [(0, .slice (some ⟨g, o, none⟩) n c), (1, .string st), (5, .pointer (some ⟨t, 0, none⟩)), (6, v), (7, .int .i64 (i : Int)), (8, .pointer (some ⟨g8, 0, none⟩)), (9, .int .i64 (i1 : Int)), (10, .int .i64 0)]) (O' := [ntF t T1, own 0 75 2 v NE l, blk g8 [.bool false, .int .i64 id, .string (strOfNums L)] 69]) (R' := [sl (some ⟨g, o, none⟩) 3 CE CS]) (by repeat (first | exact trivial | refine ⟨rfl, ?_⟩)) sA sS ?_
                  refine gk_any [0, 1, 2, 3] (Cut _ (fun v2 : Value => [(0, .slice (some ⟨g, o, none⟩) n c), (1, .string st), (5, .pointer (some ⟨t, 0, none⟩)), (6, v2), (7, .int .i64 (i : Int)), (8, .pointer (some ⟨g8, 0, none⟩)), (10, .int .i64 0)]) (fun v2 => [ntF t T1, own 0 75 2 v2 NE (dropN l id ++ [⟨id, strOfNums L⟩]), blk g8 [.bool false, .int .i64 id, .string (strOfNums L)] 69]) (fun _ => [sl (some ⟨g, o, none⟩) 3 CE CS])) rfl rfl (by kernel_rfl) ?_ (cut_k fun v2 => ?_)
                  · skip
                    refine gb_take 0 rfl (by decide +kernel) rfl rfl (ys_ev (nw := true) hT rfl sI) sF ?_
                    refine gb_take 1 rfl (by decide +kernel) rfl rfl (ys_ev (nw := true) hT rfl sI) sF ?_
                    refine gb_take 3 rfl (by decide +kernel) rfl rfl (ys_ev (nw := true) hT rfl sI) sF ?_
                    refine gb_take 4 rfl (by decide +kernel) rfl rfl (by first | exact ys_blk hT rfl rfl mE rfl rfl | exact ys_row hT rfl rfl mE rfl rfl | exact ys_row0 hT rfl rfl mE rfl rfl) sF ?_
                    refine gb_take 5 rfl (by decide +kernel) rfl rfl (ys_ev (nw := true) hT rfl sI) sF ?_
                    refine gb_take 6 rfl (by decide +kernel) rfl rfl (by first | exact ys_blk hT rfl rfl mE rfl rfl | exact ys_row hT rfl rfl mE rfl rfl | exact ys_row0 hT rfl rfl mE rfl rfl) sF ?_
                    refine gb_take 7 rfl (by decide +kernel) rfl rfl (ys_ev (nw := true) hT rfl sI) sF ?_
                    refine gb_all (by decide +kernel) ?_
                    refine gball_not (by decide +kernel) ?_
                    refine gball_not (by decide +kernel) ?_
                    refine gball_yes rfl rfl ?_ ?_
                    · (refine mv_call_rt (fun w hk => without_own v l i1 w (by omega) (List.getElem?_eq_some_iff.1 hy1).1 (hk.rO (φ := own 0 75 2 v NE l) mE)) rfl rfl rfl rfl rfl (by kernel_rfl) (fun _ => rfl) ?_; intro v1 _; rw [dropN_at hR.f.ids hy1 hy1i])
                      refine ⟨sF, ?_⟩
                      refine gb_only 8 (by decide +kernel) rfl rfl ?_
                      first | (refine mv_box rfl rfl rfl rfl ?_; intro _) | (refine mv_alloc rfl hT rfl rfl ?_; intro _) | refine mv_store hT rfl rfl rfl rfl rfl rfl sO rfl ?_ | (refine mv_buildSlice rfl hT rfl rfl rfl rfl rfl rfl rfl rfl ?_; intro _)
                      refine ⟨sF, ?_⟩
                      refine gb_only 9 (by decide +kernel) rfl rfl ?_
                      (refine mv_append (L := dropN l id) rfl [(⟨id, strOfNums L⟩ : NmD)] rfl rfl rfl rfl elt_N (by intro _; first | ((repeat (first | with_reducible exact Upd.here _ | with_reducible apply Upd.there)); done) | ((repeat (first | exact Upd.here _ | apply Upd.there)); done) | fail) (src_blk mE rfl) rfl oneN (by simp only [maxLen, List.length_append, List.length_cons, List.length_nil]; omega) (by simp only [List.length_append, List.length_cons, List.length_nil]; omega) (Nat.zero_le _) ?_; intro v2)
                      refine ⟨sF, ?_⟩
                      refine gb_take 10 rfl (by decide +kernel) rfl rfl (ys_ev (nw := true) hT rfl sI) sF ?_
                      refine gb_nil (by decide +kernel) ?_
                      exact ⟨v2, (by repeat (first | exact trivial | refine ⟨rfl, ?_⟩)), sA, sS⟩
                    refine gball_not (by decide +kernel) ?_
                    refine gball_not (by decide +kernel) ?_
                    refine gball_not (by decide +kernel) ?_
                    refine gball_not (by decide +kernel) ?_
                    refine gball_not (by decide +kernel) ?_
                    refine gball_yes rfl rfl ?_ ?_
                    · first | (refine mv_box rfl rfl rfl rfl ?_; intro _) | (refine mv_alloc rfl hT rfl rfl ?_; intro _) | refine mv_store hT rfl rfl rfl rfl rfl rfl sO rfl ?_ | (refine mv_buildSlice rfl hT rfl rfl rfl rfl rfl rfl rfl rfl ?_; intro _)
                      refine ⟨sF, ?_⟩
                      refine gb_only 2 (by decide +kernel) rfl rfl ?_
                      (refine mv_call_rt (fun w hk => without_own v l i1 w (by omega) (List.getElem?_eq_some_iff.1 hy1).1 (hk.rO (φ := own 0 75 2 v NE l) mE)) rfl rfl rfl rfl rfl (by kernel_rfl) (fun _ => rfl) ?_; intro v1 _; rw [dropN_at hR.f.ids hy1 hy1i])
                      refine ⟨sF, ?_⟩
                      refine gb_only 9 (by decide +kernel) rfl rfl ?_
                      (refine mv_append (L := dropN l id) rfl [(⟨id, strOfNums L⟩ : NmD)] rfl rfl rfl rfl elt_N (by intro _; first | ((repeat (first | with_reducible exact Upd.here _ | with_reducible apply Upd.there)); done) | ((repeat (first | exact Upd.here _ | apply Upd.there)); done) | fail) (src_blk mE rfl) rfl oneN (by simp only [maxLen, List.length_append, List.length_cons, List.length_nil]; omega) (by simp only [List.length_append, List.length_cons, List.length_nil]; omega) (Nat.zero_le _) ?_; intro v2)
                      refine ⟨sF, ?_⟩
                      refine gb_take 10 rfl (by decide +kernel) rfl rfl (ys_ev (nw := true) hT rfl sI) sF ?_
                      refine gb_nil (by decide +kernel) ?_
                      exact ⟨v2, (by repeat (first | exact trivial | refine ⟨rfl, ?_⟩)), sA, sS⟩
                    refine gball_not (by decide +kernel) ?_
                    refine gball_not (by decide +kernel) ?_
                    exact gball_end (by decide +kernel)
                  · (repeat (refine gG ?_; try intro _))
                    refine g_mv rfl (mv_call_mod (φ := ntF t T1) (ψ := fun T' : NTab => ntF t T') (fun w1 hk => by exact nset_ok t T1 l id L w1 hB (by omega) hg1 hg2 hg3 (by omega) hgid hR.f (hk.rO (φ := ntF t T1) mE)) rfl rfl rfl rfl rfl (by kernel_rfl) (by intro _; first | ((repeat (first | with_reducible exact Upd.here _ | with_reducible apply Upd.there)); done) | ((repeat (first | exact Upd.here _ | apply Upd.there)); done) | fail) (fun T' hT' => ?_))
                    (repeat' (first | (refine gG ?_; try intro _) | ((first | refine g_split rfl rfl tE (fun _ => ?_) (fun _ => ?_) | refine gk_cond rfl rfl tE (fun _ => ?_) (fun _ => ?_)) <;> (try first | (exfalso; omega; done) | (rename_i hx; exact absurd rfl hx) | (rename_i hx; cases hx; done)))))
                    have hJ := J.out (T', v2, dropN l id ++ [⟨id, strOfNums L⟩]) (hR.add (d := ⟨id, strOfNums L⟩) hT' (by show (strOfNums L).size ≤ 1000; omega))
                    try dsimp only at hJ
                    refine g_wk (by repeat (first | exact trivial | refine ⟨rfl, ?_⟩)) sA sS hJ
              · have hz1m := List.mem_of_getElem? hz1
                have hz1n : z1.s = strOfNums L := by simpa using hz1s
                have hj1 := (List.getElem?_eq_some_iff.1 hz1).1
                rw [e2]
                (repeat' (first | (refine gG ?_; try intro _) | (refine g_mv rfl ?_; first | refine mv_call_bel (fun w hk => hc w) rfl rfl rfl rfl rfl (by kernel_rfl) ?_) | ((first | refine g_split rfl rfl tE (fun _ => ?_) (fun _ => ?_) | refine gk_cond rfl rfl tE (fun _ => ?_) (fun _ => ?_)) <;> (try first | (exfalso; omega; done) | (rename_i hx; exact absurd rfl hx) | (rename_i hx; cases hx; done)))))
                refine gk_own0 v mE (by omega) (fun b9 c9 hv9 _ _ => ?_)
                subst hv9
                by_cases hzi : z1.id = id
                · have hgid : ∀ y, y ∈ l → y.s = strOfNums L → y.id = id := fun y hy e => by
                    have h1 := (find_uniq (f := fun y : NmD => y.s) (a := strOfNums L) (y := y) hR.f.nms).2 ⟨hy, e⟩
                    have h2 := (find_uniq (f := fun y : NmD => y.s) (a := strOfNums L) (y := z1) hR.f.nms).2 ⟨hz1m, hz1n⟩
                    rw [Option.some.inj (h1.symm.trans h2)]
                    exact hzi
                  refine gk_sel (f' := [(0, .slice (some ⟨g, o, none⟩) n c), (1, .string st), (5, .pointer (some ⟨t, 0, none⟩)), (6, (.slice (some ⟨b9, 0, none⟩) l.length c9)), (7, .int .i64 (i : Int)), (8, .pointer (some ⟨g8, 0, none⟩)), (9, .int .i64 (i1 : Int)), (10, .int .i64 0), (11, .int .i64 (j1 : Int))]) (O' := [ntF t T1, own 0 75 2 (.slice (some ⟨b9, 0, none⟩) l.length c9) NE l, blk g8 [.bool false, .int .i64 id, .string (strOfNums L)] 69]) (R' := [sl (some ⟨g, o, none⟩) 3 CE CS]) (by repeat (first | exact trivial | refine ⟨rfl, ?_⟩)) sA sS ?_
                  refine gk_any [0, 1, 2, 3] (Cut _ (fun _ : Unit => [(0, .slice (some ⟨g, o, none⟩) n c), (1, .string st), (5, .pointer (some ⟨t, 0, none⟩)), (6, (.slice (some ⟨b9, 0, none⟩) l.length c9)), (7, .int .i64 (i : Int)), (8, .pointer (some ⟨g8, 0, none⟩)), (9, .int .i64 (i1 : Int)), (10, .int .i64 0), (88, .bool false)]) (fun _ => [ntF t T1, own 0 75 2 (.slice (some ⟨b9, 0, none⟩) l.length c9) NE l, blk g8 [.bool false, .int .i64 id, .string (strOfNums L)] 69]) (fun _ => [sl (some ⟨g, o, none⟩) 3 CE CS])) rfl rfl (by kernel_rfl) ?_ (cut_k fun _ => ?_)
                  · skip
                    refine gb_take 0 rfl (by decide +kernel) rfl rfl (ys_ev (nw := true) hT rfl sI) sF ?_
                    refine gb_take 1 rfl (by decide +kernel) rfl rfl (ys_ev (nw := true) hT rfl sI) sF ?_
                    try (refine gb_say 90 (.bool true) rfl (congrArg Value.bool (tB_true (by omega))) ?_)
                    refine gb_take 2 rfl (by decide +kernel) rfl rfl (ys_ev (nw := true) hT rfl sI) sF ?_
                    first | refine gb_take 3 rfl (by decide +kernel) rfl rfl (ys_ev (nw := true) hT rfl sI) sF ?_ | refine gb_skip 3 rfl (by decide +kernel) rfl rfl sF ?_
                    first | refine gb_take 4 rfl (by decide +kernel) rfl rfl (ys_ev (nw := true) hT rfl sI) sF ?_ | refine gb_skip 4 rfl (by decide +kernel) rfl rfl sF ?_
                    first | refine gb_take 5 rfl (by decide +kernel) rfl rfl (ys_ev (nw := true) hT rfl sI) sF ?_ | refine gb_skip 5 rfl (by decide +kernel) rfl rfl sF ?_
                    first | refine gb_take 6 rfl (by decide +kernel) rfl rfl (ys_ev (nw := true) hT rfl sI) sF ?_ | refine gb_skip 6 rfl (by decide +kernel) rfl rfl sF ?_
                    first | refine gb_take 7 rfl (by decide +kernel) rfl rfl (ys_load_el (o0 := 0) (sz := 2) (enc := NE) (L := l) hT j1 z1 0 rfl rfl rfl (by first | rfl | omega) hz1 (at_own (base := 0) (e := 75) (n := l.length) (c := c9) mE) rfl rfl) sF ?_ | refine gb_skip 7 rfl (by decide +kernel) rfl rfl sF ?_
                    first | refine gb_take 8 rfl (by decide +kernel) rfl rfl (ys_ev (nw := true) hT rfl sI) sF ?_ | refine gb_skip 8 rfl (by decide +kernel) rfl rfl sF ?_
                    first | refine gb_take 9 rfl (by decide +kernel) rfl rfl (by first | exact ys_blk hT rfl rfl mE rfl rfl | exact ys_row hT rfl rfl mE rfl rfl | exact ys_row0 hT rfl rfl mE rfl rfl) sF ?_ | refine gb_skip 9 rfl (by decide +kernel) rfl rfl sF ?_
                    first | refine gb_take 10 rfl (by decide +kernel) rfl rfl (ys_ev (nw := true) hT rfl sI) sF ?_ | refine gb_skip 10 rfl (by decide +kernel) rfl rfl sF ?_
                    try (refine gb_say 99 (.bool false) rfl (congrArg Value.bool (tB_false (fun h => h hzi))) ?_)
                    refine gb_take 11 rfl (by decide +kernel) rfl rfl (ys_ev (nw := true) hT rfl sI) sF ?_
                    refine gb_take 12 rfl (by decide +kernel) rfl rfl (ys_ev (nw := true) hT rfl sI) sF ?_
                    refine gb_nil (by decide +kernel) ?_
                    exact ⟨(), (by repeat (first | exact trivial | refine ⟨rfl, ?_⟩)), sA, sS⟩
                  · obtain ⟨v, hv⟩ : ∃ v, v = Value.slice (some ⟨b9, 0, none⟩) l.length c9 := ⟨_, rfl⟩
                    rw [← hv]
                    (repeat (refine gG ?_; try intro _))
                    refine gk_sel (f' := [(0, .slice (some ⟨g, o, none⟩) n c), (1, .string st), (5, .pointer (some ⟨t, 0, none⟩)), (6, v), (7, .int .i64 (i : Int)), (8, .pointer (some ⟨g8, 0, none⟩)), (9, .int .i64 (i1 : Int)), (10, .int .i64 0)]) (O' := [ntF t T1, own 0 75 2 v NE l, blk g8 [.bool false, .int .i64 id, .string (strOfNums L)] 69]) (R' := [sl (some ⟨g, o, none⟩) 3 CE CS]) (by repeat (first | exact trivial | refine ⟨rfl, ?_⟩)) sA sS ?_
                    refine gk_any [0, 1, 2, 3] (Cut _ (fun v2 : Value => [(0, .slice (some ⟨g, o, none⟩) n c), (1, .string st), (5, .pointer (some ⟨t, 0, none⟩)), (6, v2), (7, .int .i64 (i : Int)), (8, .pointer (some ⟨g8, 0, none⟩)), (10, .int .i64 0)]) (fun v2 => [ntF t T1, own 0 75 2 v2 NE (dropN l id ++ [⟨id, strOfNums L⟩]), blk g8 [.bool false, .int .i64 id, .string (strOfNums L)] 69]) (fun _ => [sl (some ⟨g, o, none⟩) 3 CE CS])) rfl rfl (by kernel_rfl) ?_ (cut_k fun v2 => ?_)
                    · skip
                      refine gb_take 0 rfl (by decide +kernel) rfl rfl (ys_ev (nw := true) hT rfl sI) sF ?_
                      refine gb_take 1 rfl (by decide +kernel) rfl rfl (ys_ev (nw := true) hT rfl sI) sF ?_
                      refine gb_take 3 rfl (by decide +kernel) rfl rfl (ys_ev (nw := true) hT rfl sI) sF ?_
                      refine gb_take 4 rfl (by decide +kernel) rfl rfl (by first | exact ys_blk hT rfl rfl mE rfl rfl | exact ys_row hT rfl rfl mE rfl rfl | exact ys_row0 hT rfl rfl mE rfl rfl) sF ?_
                      refine gb_take 5 rfl (by decide +kernel) rfl rfl (ys_ev (nw := true) hT rfl sI) sF ?_
                      refine gb_take 6 rfl (by decide +kernel) rfl rfl (by first | exact ys_blk hT rfl rfl mE rfl rfl | exact ys_row hT rfl rfl mE rfl rfl | exact ys_row0 hT rfl rfl mE rfl rfl) sF ?_
                      refine gb_take 7 rfl (by decide +kernel) rfl rfl (ys_ev (nw := true) hT rfl sI) sF ?_
                      refine gb_all (by decide +kernel) ?_
                      refine gball_not (by decide +kernel) ?_
                      refine gball_not (by decide +kernel) ?_
                      refine gball_yes rfl rfl ?_ ?_
                      · (refine mv_call_rt (fun w hk => without_own v l i1 w (by omega) (List.getElem?_eq_some_iff.1 hy1).1 (hk.rO (φ := own 0 75 2 v NE l) mE)) rfl rfl rfl rfl rfl (by kernel_rfl) (fun _ => rfl) ?_; intro v1 _; rw [dropN_at hR.f.ids hy1 hy1i])
                        refine ⟨sF, ?_⟩
                        refine gb_only 8 (by decide +kernel) rfl rfl ?_
                        first | (refine mv_box rfl rfl rfl rfl ?_; intro _) | (refine mv_alloc rfl hT rfl rfl ?_; intro _) | refine mv_store hT rfl rfl rfl rfl rfl rfl sO rfl ?_ | (refine mv_buildSlice rfl hT rfl rfl rfl rfl rfl rfl rfl rfl ?_; intro _)
                        refine ⟨sF, ?_⟩
                        refine gb_only 9 (by decide +kernel) rfl rfl ?_
                        (refine mv_append (L := dropN l id) rfl [(⟨id, strOfNums L⟩ : NmD)] rfl rfl rfl rfl elt_N (by intro _; first | ((repeat (first | with_reducible exact Upd.here _ | with_reducible apply Upd.there)); done) | ((repeat (first | exact Upd.here _ | apply Upd.there)); done) | fail) (src_blk mE rfl) rfl oneN (by simp only [maxLen, List.length_append, List.length_cons, List.length_nil]; omega) (by simp only [List.length_append, List.length_cons, List.length_nil]; omega) (Nat.zero_le _) ?_; intro v2)
                        refine ⟨sF, ?_⟩
                        refine gb_take 10 rfl (by decide +kernel) rfl rfl (ys_ev (nw := true) hT rfl sI) sF ?_
                        refine gb_nil (by decide +kernel) ?_
                        exact ⟨v2, (by repeat (first | exact trivial | refine ⟨rfl, ?_⟩)), sA, sS⟩
                      refine gball_not (by decide +kernel) ?_
                      refine gball_not (by decide +kernel) ?_
                      refine gball_not (by decide +kernel) ?_
                      refine gball_not (by decide +kernel) ?_
                      refine gball_not (by decide +kernel) ?_
                      refine gball_yes rfl rfl ?_ ?_
                      · first | (refine mv_box rfl rfl rfl rfl ?_; intro _) | (refine mv_alloc rfl hT rfl rfl ?_; intro _) | refine mv_store hT rfl rfl rfl rfl rfl rfl sO rfl ?_ | (refine mv_buildSlice rfl hT rfl rfl rfl rfl rfl rfl rfl rfl ?_; intro _)
                        refine ⟨sF, ?_⟩
                        refine gb_only 2 (by decide +kernel) rfl rfl ?_
                        (refine mv_call_rt (fun w hk => without_own v l i1 w (by omega) (List.getElem?_eq_some_iff.1 hy1).1 (hk.rO (φ := own 0 75 2 v NE l) mE)) rfl rfl rfl rfl rfl (by kernel_rfl) (fun _ => rfl) ?_; intro v1 _; rw [dropN_at hR.f.ids hy1 hy1i])
                        refine ⟨sF, ?_⟩
                        refine gb_only 9 (by decide +kernel) rfl rfl ?_
                        (refine mv_append (L := dropN l id) rfl [(⟨id, strOfNums L⟩ : NmD)] rfl rfl rfl rfl elt_N (by intro _; first | ((repeat (first | with_reducible exact Upd.here _ | with_reducible apply Upd.there)); done) | ((repeat (first | exact Upd.here _ | apply Upd.there)); done) | fail) (src_blk mE rfl) rfl oneN (by simp only [maxLen, List.length_append, List.length_cons, List.length_nil]; omega) (by simp only [List.length_append, List.length_cons, List.length_nil]; omega) (Nat.zero_le _) ?_; intro v2)
                        refine ⟨sF, ?_⟩
                        refine gb_take 10 rfl (by decide +kernel) rfl rfl (ys_ev (nw := true) hT rfl sI) sF ?_
                        refine gb_nil (by decide +kernel) ?_
                        exact ⟨v2, (by repeat (first | exact trivial | refine ⟨rfl, ?_⟩)), sA, sS⟩
                      refine gball_not (by decide +kernel) ?_
                      refine gball_not (by decide +kernel) ?_
                      exact gball_end (by decide +kernel)
                    · (repeat (refine gG ?_; try intro _))
                      refine g_mv rfl (mv_call_mod (φ := ntF t T1) (ψ := fun T' : NTab => ntF t T') (fun w1 hk => by exact nset_ok t T1 l id L w1 hB (by omega) hg1 hg2 hg3 (by omega) hgid hR.f (hk.rO (φ := ntF t T1) mE)) rfl rfl rfl rfl rfl (by kernel_rfl) (by intro _; first | ((repeat (first | with_reducible exact Upd.here _ | with_reducible apply Upd.there)); done) | ((repeat (first | exact Upd.here _ | apply Upd.there)); done) | fail) (fun T' hT' => ?_))
                      (repeat' (first | (refine gG ?_; try intro _) | ((first | refine g_split rfl rfl tE (fun _ => ?_) (fun _ => ?_) | refine gk_cond rfl rfl tE (fun _ => ?_) (fun _ => ?_)) <;> (try first | (exfalso; omega; done) | (rename_i hx; exact absurd rfl hx) | (rename_i hx; cases hx; done)))))
                      have hJ := J.out (T', v2, dropN l id ++ [⟨id, strOfNums L⟩]) (hR.add (d := ⟨id, strOfNums L⟩) hT' (by show (strOfNums L).size ≤ 1000; omega))
                      try dsimp only at hJ
                      refine g_wk (by repeat (first | exact trivial | refine ⟨rfl, ?_⟩)) sA sS hJ
                · skip
                  refine gk_sel (f' := [(0, .slice (some ⟨g, o, none⟩) n c), (1, .string st), (5, .pointer (some ⟨t, 0, none⟩)), (6, (.slice (some ⟨b9, 0, none⟩) l.length c9)), (7, .int .i64 (i : Int)), (8, .pointer (some ⟨g8, 0, none⟩)), (9, .int .i64 (i1 : Int)), (10, .int .i64 0), (11, .int .i64 (j1 : Int))]) (O' := [ntF t T1, own 0 75 2 (.slice (some ⟨b9, 0, none⟩) l.length c9) NE l, blk g8 [.bool false, .int .i64 id, .string (strOfNums L)] 69]) (R' := [sl (some ⟨g, o, none⟩) 3 CE CS]) (by repeat (first | exact trivial | refine ⟨rfl, ?_⟩)) sA sS ?_
                  refine gk_any [0, 1, 2, 3] (Cut _ (fun _ : Unit => [(0, .slice (some ⟨g, o, none⟩) n c), (1, .string st), (5, .pointer (some ⟨t, 0, none⟩)), (6, (.slice (some ⟨b9, 0, none⟩) l.length c9)), (7, .int .i64 (i : Int)), (8, .pointer (some ⟨g8, 0, none⟩)), (9, .int .i64 (i1 : Int)), (10, .int .i64 0), (88, .bool true)]) (fun _ => [ntF t T1, own 0 75 2 (.slice (some ⟨b9, 0, none⟩) l.length c9) NE l, blk g8 [.bool false, .int .i64 id, .string (strOfNums L)] 69]) (fun _ => [sl (some ⟨g, o, none⟩) 3 CE CS])) rfl rfl (by kernel_rfl) ?_ (cut_k fun _ => ?_)
                  · skip
                    refine gb_take 0 rfl (by decide +kernel) rfl rfl (ys_ev (nw := true) hT rfl sI) sF ?_
                    refine gb_take 1 rfl (by decide +kernel) rfl rfl (ys_ev (nw := true) hT rfl sI) sF ?_
                    try (refine gb_say 90 (.bool true) rfl (congrArg Value.bool (tB_true (by omega))) ?_)
                    refine gb_take 2 rfl (by decide +kernel) rfl rfl (ys_ev (nw := true) hT rfl sI) sF ?_
                    first | refine gb_take 3 rfl (by decide +kernel) rfl rfl (ys_ev (nw := true) hT rfl sI) sF ?_ | refine gb_skip 3 rfl (by decide +kernel) rfl rfl sF ?_
                    first | refine gb_take 4 rfl (by decide +kernel) rfl rfl (ys_ev (nw := true) hT rfl sI) sF ?_ | refine gb_skip 4 rfl (by decide +kernel) rfl rfl sF ?_
                    first | refine gb_take 5 rfl (by decide +kernel) rfl rfl (ys_ev (nw := true) hT rfl sI) sF ?_ | refine gb_skip 5 rfl (by decide +kernel) rfl rfl sF ?_
                    first | refine gb_take 6 rfl (by decide +kernel) rfl rfl (ys_ev (nw := true) hT rfl sI) sF ?_ | refine gb_skip 6 rfl (by decide +kernel) rfl rfl sF ?_
                    first | refine gb_take 7 rfl (by decide +kernel) rfl rfl (ys_load_el (o0 := 0) (sz := 2) (enc := NE) (L := l) hT j1 z1 0 rfl rfl rfl (by first | rfl | omega) hz1 (at_own (base := 0) (e := 75) (n := l.length) (c := c9) mE) rfl rfl) sF ?_ | refine gb_skip 7 rfl (by decide +kernel) rfl rfl sF ?_
                    first | refine gb_take 8 rfl (by decide +kernel) rfl rfl (ys_ev (nw := true) hT rfl sI) sF ?_ | refine gb_skip 8 rfl (by decide +kernel) rfl rfl sF ?_
                    first | refine gb_take 9 rfl (by decide +kernel) rfl rfl (by first | exact ys_blk hT rfl rfl mE rfl rfl | exact ys_row hT rfl rfl mE rfl rfl | exact ys_row0 hT rfl rfl mE rfl rfl) sF ?_ | refine gb_skip 9 rfl (by decide +kernel) rfl rfl sF ?_
                    first | refine gb_take 10 rfl (by decide +kernel) rfl rfl (ys_ev (nw := true) hT rfl sI) sF ?_ | refine gb_skip 10 rfl (by decide +kernel) rfl rfl sF ?_
                    try (refine gb_say 99 (.bool true) rfl (congrArg Value.bool (tB_true hzi)) ?_)
                    refine gb_take 11 rfl (by decide +kernel) rfl rfl (ys_ev (nw := true) hT rfl sI) sF ?_
                    refine gb_take 12 rfl (by decide +kernel) rfl rfl (ys_ev (nw := true) hT rfl sI) sF ?_
                    refine gb_nil (by decide +kernel) ?_
                    exact ⟨(), (by repeat (first | exact trivial | refine ⟨rfl, ?_⟩)), sA, sS⟩
                  · (repeat (refine gG ?_; try intro _))
                    refine g_mv rfl ?_; refine mv_call_bel (fun w hk => nset_twice t T1 l id L z1 w hB (by omega) hg1 hg2 hg3 hz1m hz1n hzi hR.f (hk.rO (φ := ntF t T1) mE)) rfl rfl rfl rfl rfl (by kernel_rfl) ?_
                    (repeat' (first | (refine gG ?_; try intro _) | ((first | refine g_split rfl rfl tE (fun _ => ?_) (fun _ => ?_) | refine gk_cond rfl rfl tE (fun _ => ?_) (fun _ => ?_)) <;> (try first | (exfalso; omega; done) | (rename_i hx; exact absurd rfl hx) | (rename_i hx; cases hx; done)))))
                    have hJ := J.out (T1, (.slice (some ⟨b9, 0, none⟩) l.length c9), l) hR.same
                    try dsimp only at hJ
                    refine g_wk (by repeat (first | exact trivial | refine ⟨rfl, ?_⟩)) sA sS hJ
    case g =>
      clear hR hb
      rintro ⟨T2, v2, l2⟩ hR
      dsimp only at hR ⊢
      have hb := hR.b
      refine g_mv rfl ?_; refine mv_call_bel (fun w hk => told_own t T2 v2 l2 d id (strOfNums L) st w (by omega) (by omega) hR.z hR.f (hk.rO (φ := ntF t T2) mE) (hk.rO (φ := own 0 75 2 v2 NE l2) mE)) rfl rfl rfl rfl rfl (by kernel_rfl) ?_
      (repeat (refine gG ?_; try intro _))
      refine gk_say 7 (.int .i64 ((i + 1 : Nat) : Int)) rfl (by first | (congr 1; done) | (congr 1; omega)) ?_
      refine gk_again_sel rfl (i + 1, T2, v2, l2) ⟨by omega, hR⟩ (by dsimp only; omega) (by repeat (first | exact trivial | refine ⟨rfl, ?_⟩)) sA sS
  · (repeat' (first | (refine gG ?_; try intro _) | ((first | refine g_split rfl rfl tE (fun _ => ?_) (fun _ => ?_) | refine gk_cond rfl rfl tE (fun _ => ?_) (fun _ => ?_)) <;> (try first | (exfalso; omega; done) | (rename_i hx; exact absurd rfl hx) | (rename_i hx; cases hx; done)))))
    (repeat' (first | (refine gG ?_; try intro _) | (refine g_mv rfl ?_; first | refine mv_call_bel (fun w hk => nalive_any w) rfl rfl rfl rfl rfl (by kernel_rfl) ?_) | ((first | refine g_split rfl rfl tE (fun _ => ?_) (fun _ => ?_) | refine gk_cond rfl rfl tE (fun _ => ?_) (fun _ => ?_)) <;> (try first | (exfalso; omega; done) | (rename_i hx; exact absurd rfl hx) | (rename_i hx; cases hx; done)))))
    refine gk_ret hT rfl rfl (.tmp rfl .nil) (fun w' hk => ?_)
    exact ⟨rfl, hk.toBelow⟩
end Go.Proofs.Ytdkgmgfadpnhbaa.Nm

