/- The law WalkNodes. -/
import Derived.Test.YtahfjkibononfaaWm
import Derived.Test.YtahfjkibononfaaWe
import Derived.Test.YtahfjkibononfaaTn
namespace Go.Proofs.Ytahfjkibononfaa.Wk
open Go.RowKit Mem Nd Gx Sk Tw
open Tr hiding T row
set_option linter.unusedVariables false
set_option linter.unusedSimpArgs false
set_option maxRecDepth 100000
set_option maxHeartbeats 1000000
theorem bfs_same {a : AT} {P : List AT} {i : Nat} (h : BfsR a P i) : ∀ {P' : List AT}, BfsR a P' i → P' = P := by
  induction h with
  | start =>
    intro P' h'
    cases h' with
    | start => rfl
  | @step Q i b h hb ih =>
    intro P' h'
    cases h' with
    | @step Q' _ b' h2 hb' =>
      obtain rfl := ih h2
      rw [hb] at hb'
      injection hb' with e
      rw [e]
theorem bfs_at {a : AT} {Q : List AT} {m : Nat} (h : BfsR a Q m) : ∀ i, i < m → ∃ P b S, BfsR a P i ∧ P[i]? = some b ∧ Q = P ++ b.kids ++ S := by
  induction h with
  | start => intro i hi; omega
  | @step Q m b h hb ih =>
    intro i hi
    by_cases hm : i = m
    · subst hm
      exact ⟨Q, b, [], h, hb, by rw [List.append_nil]⟩
    · obtain ⟨P, c, S, h1, h2, h3⟩ := ih i (by omega)
      exact ⟨P, c, S ++ b.kids, h1, h2, by rw [h3]; simp only [List.append_assoc]⟩
theorem bfs_le {P : List AT} {acc L : List EntD} (h : Bfs P acc L) : acc.length ≤ L.length := by
  obtain ⟨X, Y, m, _, _, _, h1, _⟩ := h
  rw [h1]
  simp only [List.length_append]
  omega
theorem walkNodes_any (A : Option Addr) (n c : Nat) (L : List OpD) (w : World) (hs0 : (SlV.mk A n c).Ok L.length) (hL : Sl w A 5 CE L) (hbd : ∀ o ∈ L, o.e.k.Bd) :
    Calls Try.prog 4 [.slice A n c].toArray w fun e' w' => e' = .returned (.bool true) ∧ Below w.heap.size w w' := by
  have hn : n = L.length := hs0.n
  have hn9 : n ≤ 9223372036854775807 := by
    have h1 : n ≤ c := hs0.c
    have h2 : c ≤ maxLen := hs0.mx
    unfold maxLen at h2; omega
  refine g_enter0 T [] [] [sl A 5 CE L] Try.func4 rfl Try.ntmps4 rfl ((Kn.start w).argR hL (by decide) (fun _ h => by cases h)) ?_
  by_cases h150 : 150 < n
  · (repeat' (first | (refine gG ?_; try intro _) | ((first | refine g_split rfl rfl tE (fun _ => ?_) (fun _ => ?_) | refine gk_cond rfl rfl tE (fun _ => ?_) (fun _ => ?_)) <;> (try first | (exfalso; omega; done) | (rename_i hx; exact absurd rfl hx) | (rename_i hx; cases hx; done)))))
    refine gk_ret hT rfl rfl (.tmp rfl .nil) (fun w' hk => ?_)
    exact ⟨rfl, hk.toBelow⟩
  · (repeat' (first | (refine gG ?_; try intro _) | ((first | refine g_split rfl rfl tE (fun _ => ?_) (fun _ => ?_) | refine gk_cond rfl rfl tE (fun _ => ?_) (fun _ => ?_)) <;> (try first | (exfalso; omega; done) | (rename_i hx; exact absurd rfl hx) | (rename_i hx; cases hx; done)))))
    refine g_mv rfl ?_; refine mv_call_rs (fun w hk => made_any A n c L w hn (by omega) hbd (hk.rR (φ := sl A 5 CE L) mE)) rfl rfl rfl rfl rfl (by kernel_rfl) sS (fun _ => rfl) (fun r hr hnr => ?_)
    obtain ⟨tg, a, M, ⟨rA, rn, rc⟩⟩ := r
    obtain ⟨hh, hok, hle, hMb⟩ := hr
    dsimp only at hh hok hle hMb
    have hrn : rn = M.length := hok.n
    refine g_say 15 (.tuple #[.pointer (some ⟨tg, 0, none⟩), .slice rA rn rc]) rfl rfl ?_
    (repeat (refine gG ?_; try intro _))
    cases a with
    | none =>
      obtain rfl : M = [] := hh
      (repeat' (first | (refine gG ?_; try intro _) | (refine g_mv rfl ?_; first | refine mv_call_bel (fun w hk => nodes_nil tg ((([] : List EntD).length : Nat) : Int) w (hk.rR mE)) rfl rfl rfl rfl rfl (by kernel_rfl) ?_ | refine mv_call_bel (fun w hk => alive34_any w) rfl rfl rfl rfl rfl (by kernel_rfl) ?_) | ((first | refine g_split rfl rfl tE (fun _ => ?_) (fun _ => ?_) | refine gk_cond rfl rfl tE (fun _ => ?_) (fun _ => ?_)) <;> (try first | (exfalso; omega; done) | (rename_i hx; exact absurd rfl hx) | (rename_i hx; cases hx; done)))))
      all_goals first | (refine gk_ret hT rfl rfl (.tmp rfl .nil) (fun w' hk => ?_); exact ⟨ret_bool (by simp [tB_eq]), hk.toBelow⟩) | (exfalso; simp at hrn; omega)
    | some a =>
      have hH : Has a.h a.t M := hh
      have hpos := hH.pos
      have hrow : a.ents = M := hH.row
      have hcnt : a.cnt ≤ M.length / 2 + 1 := cnt_has hH
      refine g_mv rfl ?_; refine mv_call_rt (fun w hk => nodes_any a tg (M.length : Int) w hH.ok (by omega) (hk.rR mE) (hk.rR mE)) rfl rfl rfl rfl rfl (by kernel_rfl) (fun _ => rfl) (fun q hq => ?_)
      obtain ⟨v, Q⟩ := q
      dsimp only at hq
      have hQ9 : Q.length ≤ 100 := by have := hq.count; omega
      have hQp := hq.pos
      have hml : (Q.map fun q => (nd q.h q.t).g).length = Q.length := List.length_map ..
      refine g_freeze _ (by intro _; first | ((repeat (first | with_reducible exact Upd.here _ | with_reducible apply Upd.there)); done) | ((repeat (first | exact Upd.here _ | apply Upd.there)); done) | fail) (fun QA Qc hv hQc _ _ => ?_)
      rw [hml] at hv
      subst hv
      refine g_share (by repeat (first | with_reducible exact Sel.here | with_reducible apply Sel.there)) ?_
      obtain ⟨P0, b0, S0, p1, p2, p3⟩ := bfs_at hq 0 hQp
      obtain rfl := bfs_same .start p1
      obtain rfl : a = b0 := Option.some.inj p2
      have hQ0 : (Q.map fun q => (nd q.h q.t).g)[0]? = some (nd a.h a.t).g := by rw [p3]; rfl
      refine g_elem (enc := PE) (L := Q.map fun q => (nd q.h q.t).g) 0 mE (by omega) (by decide) (fun bq oq yq eQ hyq => ?_)
      subst eQ
      obtain rfl : (nd a.h a.t).g = yq := by rw [hQ0] at hyq; exact Option.some.inj hyq
      (repeat' (first | (refine gG ?_; try intro _) | ((first | refine g_split rfl rfl tE (fun _ => ?_) (fun _ => ?_) | refine gk_cond rfl rfl tE (fun _ => ?_) (fun _ => ?_)) <;> (try first | (exfalso; omega; done) | (rename_i hx; exact absurd rfl hx) | (rename_i hx; cases hx; done)))))
      refine gk_any [0] (Cut _ (fun _ : Unit => [(3, .pointer (some ⟨tg, 0, none⟩)), (4, .slice rA rn rc), (5, .slice (some ⟨bq, oq, none⟩) Q.length Qc), (39, .bool false)]) (fun _ => []) (fun _ => [sl (some ⟨bq, oq, none⟩) 1 PE (Q.map fun q => (nd q.h q.t).g), sl rA 4 EE M, blk tg [.pointer (some ⟨(nd a.h a.t).g, 0, none⟩), .int .i64 (M.length : Int)] 63, stF (some a)])) rfl rfl (by kernel_rfl) ?_ (cut_k fun _ => ?_)
      · skip
        refine gb_take 0 rfl (by decide +kernel) rfl rfl (ys_ev (nw := true) hT rfl sI) sF ?_
        refine gb_take 1 rfl (by decide +kernel) rfl rfl (ys_ev (nw := true) hT rfl sI) sF ?_
        refine gb_take 2 rfl (by decide +kernel) rfl rfl (ys_ev (nw := true) hT rfl sI) sF ?_
        try (refine gb_say 31 (.bool false) rfl (congrArg Value.bool (tB_false (by omega))) ?_)
        refine gb_take 3 rfl (by decide +kernel) rfl rfl (ys_ev (nw := true) hT rfl sI) sF ?_
        first | refine gb_take 4 rfl (by decide +kernel) rfl rfl (ys_ev (nw := true) hT rfl sI) sF ?_ | refine gb_skip 4 rfl (by decide +kernel) rfl rfl sF ?_
        first | refine gb_take 5 rfl (by decide +kernel) rfl rfl (ys_ev (nw := true) hT rfl sI) sF ?_ | refine gb_skip 5 rfl (by decide +kernel) rfl rfl sF ?_
        first | refine gb_take 6 rfl (by decide +kernel) rfl rfl (by first | exact ys_blk hT rfl rfl mE rfl rfl | exact ys_row hT rfl rfl mE rfl rfl | exact ys_row0 hT rfl rfl mE rfl rfl) sF ?_ | refine gb_skip 6 rfl (by decide +kernel) rfl rfl sF ?_
        first | refine gb_take 7 rfl (by decide +kernel) rfl rfl (ys_ev (nw := true) hT rfl sI) sF ?_ | refine gb_skip 7 rfl (by decide +kernel) rfl rfl sF ?_
        first | refine gb_skip 8 rfl (by decide +kernel) rfl rfl sF ?_ | (refine gb_only 8 (by decide +kernel) rfl rfl ?_; (refine mv_call_bel (fun w hk => troot_any tg (.pointer (some ⟨(nd a.h a.t).g, 0, none⟩)) (M.length : Int) w (hk.rR mE)) rfl rfl rfl rfl rfl (by kernel_rfl) ?_); refine ⟨sF, ?_⟩)
        first | refine gb_take 9 rfl (by decide +kernel) rfl rfl (ys_same_neq hT rfl rfl rfl rfl rfl) sF ?_ | refine gb_skip 9 rfl (by decide +kernel) rfl rfl sF ?_
        refine gb_take 10 rfl (by decide +kernel) rfl rfl (ys_ev (nw := true) hT rfl sI) sF ?_
        refine gb_nil (by decide +kernel) ?_
        exact ⟨(), (by repeat (first | exact trivial | refine ⟨rfl, ?_⟩)), sA, sS⟩
      (repeat (refine gG ?_; try intro _))
      refine gk_own 0 29 4 EE ?_
      refine gk_loop_sel (fun (q : Value × Nat × Nat × (List EntD) × (List AT)) => match q with | (v, i, nx, acc, P) => (BfsR a P i ∧ nx = P.length ∧ Bfs (P.drop i) acc M ∧ i ≤ Q.length)) (fun (q : Value × Nat × Nat × (List EntD) × (List AT)) => match q with | (v, i, nx, acc, P) => [(3, .pointer (some ⟨tg, 0, none⟩)), (4, .slice rA rn rc), (5, .slice (some ⟨bq, oq, none⟩) Q.length Qc), (6, v), (7, .int .i64 nx), (8, .int .i64 i)]) (fun (q : Value × Nat × Nat × (List EntD) × (List AT)) => match q with | (v, i, nx, acc, P) => [own 0 29 4 v EE acc]) (fun (q : Value × Nat × Nat × (List EntD) × (List AT)) => match q with | (v, i, nx, acc, P) => [sl (some ⟨bq, oq, none⟩) 1 PE (Q.map fun q => (nd q.h q.t).g), sl rA 4 EE M, blk tg [.pointer (some ⟨(nd a.h a.t).g, 0, none⟩), .int .i64 (M.length : Int)] 63, stF (some a)]) (fun (q : Value × Nat × Nat × (List EntD) × (List AT)) => match q with | (v, i, nx, acc, P) => Q.length - i) (.slice none 0 0, 0, 1, [], [a]) rfl ⟨.start, rfl, hrow ▸ bfs_start a, Nat.zero_le _⟩ (by repeat (first | exact trivial | refine ⟨rfl, ?_⟩)) sA sS ?_
      rintro ⟨v, i, nx, acc, P⟩ hI
      replace hI : (BfsR a P i ∧ nx = P.length ∧ Bfs (P.drop i) acc M ∧ i ≤ Q.length) := hI
      change GK _ _ [(3, .pointer (some ⟨tg, 0, none⟩)), (4, .slice rA rn rc), (5, .slice (some ⟨bq, oq, none⟩) Q.length Qc), (6, v), (7, .int .i64 nx), (8, .int .i64 i)] [own 0 29 4 v EE acc] [sl (some ⟨bq, oq, none⟩) 1 PE (Q.map fun q => (nd q.h q.t).g), sl rA 4 EE M, blk tg [.pointer (some ⟨(nd a.h a.t).g, 0, none⟩), .int .i64 (M.length : Int)] 63, stF (some a)]
      obtain ⟨hP, hnx, hB, hiQ⟩ := hI
      have hacc := bfs_le hB
      subst hnx
      by_cases hlt : i < Q.length
      · obtain ⟨P', b, S, q1, q2, q3⟩ := bfs_at hq i hlt
        obtain rfl := bfs_same hP q1
        have hiP := (List.getElem?_eq_some_iff.1 q2).1
        have hQb : Q[i]? = some b := by rw [q3, List.append_assoc, List.getElem?_append_left hiP]; exact q2
        have hbm := List.mem_of_getElem? hQb
        have hQl : Q.length = P'.length + b.kids.length + S.length := by rw [q3]; simp only [List.length_append]
        have hder := hq.der b hbm
        have hbo : b.Ok := hq.ok hH.ok b hbm
        have hCs : (nd b.h b.t).Cs = b.kids.map fun k => (nd k.h k.t).g := AT.Cs_eq hbo
        have hstep : Bfs ((P' ++ b.kids).drop (i + 1)) (acc ++ if b.h = 0 then b.ents else []) M := by
          have e1 : P'.drop i = b :: P'.drop (i + 1) := by
            obtain ⟨h1, h2⟩ := List.getElem?_eq_some_iff.1 q2
            rw [List.drop_eq_getElem_cons h1, h2]
          rw [e1] at hB
          rw [List.drop_append_of_le_length (by omega)]
          exact bfs_step hB
        have hPs : BfsR a (P' ++ b.kids) (i + 1) := .step hP q2
        obtain ⟨h, t⟩ := b
        have hbo' : Tr.Ok h t := hbo
        have hCl : (nd h t).Cs.length = (⟨h, t⟩ : AT).kids.length := by rw [hCs, List.length_map]
        have hCn : (nd h t).C.n = (⟨h, t⟩ : AT).kids.length := by rw [(nd_ok hbo').C.n, hCl]
        obtain ⟨CA, hCA⟩ : ∃ x, x = (nd h t).C.A := ⟨_, rfl⟩
        obtain ⟨Cc, hCc⟩ : ∃ x, x = (nd h t).C.c := ⟨_, rfl⟩
        obtain ⟨K, hK⟩ : ∃ x, x = (⟨h, t⟩ : AT).kids := ⟨_, rfl⟩
        rw [← hK] at hCs hstep hPs hCl hCn hQl q3
        have hCv : (nd h t).C.v = .slice CA K.length Cc := by rw [hCA, hCc, ← hCn]; rfl
        refine gk_elem (enc := PE) (L := Q.map fun q => (nd q.h q.t).g) i mE (by omega) (by decide) (fun b1 o1 y1 e1 hy1 => ?_)
        injection e1 with e1
        injection e1 with e2 e3
        subst e2 e3
        obtain rfl : (nd h t).g = y1 := by rw [List.getElem?_map, hQb] at hy1; exact Option.some.inj hy1
        refine gk_der [stF (some a)] hder sS ?_
        refine gk_tnd (t := t) mE ?_
        refine gk_nB (d := nd h t) mE ?_
        refine gk_nC (d := nd h t) mE ?_
        rw [hCv, ← hCA]
        (repeat' (first | (refine gG ?_; try intro _) | ((first | refine g_split rfl rfl tE (fun _ => ?_) (fun _ => ?_) | refine gk_cond rfl rfl tE (fun _ => ?_) (fun _ => ?_)) <;> (try first | (exfalso; omega; done) | (rename_i hx; exact absurd rfl hx) | (rename_i hx; cases hx; done)))))
        refine gk_loop_sel (fun (kk : Nat) => (kk ≤ K.length)) (fun (kk : Nat) => [(3, .pointer (some ⟨tg, 0, none⟩)), (4, .slice rA rn rc), (5, .slice (some ⟨bq, oq, none⟩) Q.length Qc), (6, v), (7, .int .i64 ((P'.length + kk : Nat) : Int)), (8, .int .i64 i), (9, .int .i64 kk)]) (fun (kk : Nat) => [own 0 29 4 v EE acc]) (fun (kk : Nat) => [sl CA 1 PE (nd h t).Cs, row (nd h t).g 0 [.bool (nd h t).leaf, (nd h t).K.v, (nd h t).V.v, .slice CA K.length Cc, .int .u32 (nd h t).a], row bq (oq + i * 1) (encF PE (nd h t).g 0 1), nodeF (nd h t), sl (some ⟨bq, oq, none⟩) 1 PE (Q.map fun q => (nd q.h q.t).g), sl rA 4 EE M, blk tg [.pointer (some ⟨(nd a.h a.t).g, 0, none⟩), .int .i64 (M.length : Int)] 63, stF (some a)]) (fun (kk : Nat) => K.length - kk) 0 rfl (Nat.zero_le _) (by repeat (first | exact trivial | refine ⟨rfl, ?_⟩)) sA sS ?_
        rintro kk hI
        replace hI : (kk ≤ K.length) := hI
        change GK _ _ [(3, .pointer (some ⟨tg, 0, none⟩)), (4, .slice rA rn rc), (5, .slice (some ⟨bq, oq, none⟩) Q.length Qc), (6, v), (7, .int .i64 ((P'.length + kk : Nat) : Int)), (8, .int .i64 i), (9, .int .i64 kk)] [own 0 29 4 v EE acc] [sl CA 1 PE (nd h t).Cs, row (nd h t).g 0 [.bool (nd h t).leaf, (nd h t).K.v, (nd h t).V.v, .slice CA K.length Cc, .int .u32 (nd h t).a], row bq (oq + i * 1) (encF PE (nd h t).g 0 1), nodeF (nd h t), sl (some ⟨bq, oq, none⟩) 1 PE (Q.map fun q => (nd q.h q.t).g), sl rA 4 EE M, blk tg [.pointer (some ⟨(nd a.h a.t).g, 0, none⟩), .int .i64 (M.length : Int)] 63, stF (some a)]
        by_cases hkk : kk < K.length
        · obtain ⟨kd, hkd⟩ : ∃ kd, K[kk]? = some kd := ⟨K[kk], List.getElem?_eq_getElem hkk⟩
          have hQk : Q[P'.length + kk]? = some kd := by
            rw [q3, List.append_assoc, List.getElem?_append_right (by omega), show P'.length + kk - P'.length = kk by omega, List.getElem?_append_left hkk]
            exact hkd
          refine gk_elem (enc := PE) (L := Q.map fun q => (nd q.h q.t).g) (P'.length + kk) mE (by omega) (by decide) (fun b1 o1 y1 e1 hy1 => ?_)
          injection e1 with e1
          injection e1 with e2 e3
          subst e2 e3
          obtain rfl : (nd kd.h kd.t).g = y1 := by rw [List.getElem?_map, hQk] at hy1; exact Option.some.inj hy1
          refine gk_elem (enc := PE) (L := (nd h t).Cs) kk mE (by omega) (by decide) (fun b2 o2 y2 eA hy2 => ?_)
          obtain rfl : (nd kd.h kd.t).g = y2 := by rw [hCs, List.getElem?_map, hkd] at hy2; exact Option.some.inj hy2
          rw [eA]
          (repeat' (first | (refine gG ?_; try intro _) | ((first | refine g_split rfl rfl tE (fun _ => ?_) (fun _ => ?_) | refine gk_cond rfl rfl tE (fun _ => ?_) (fun _ => ?_)) <;> (try first | (exfalso; omega; done) | (rename_i hx; exact absurd rfl hx) | (rename_i hx; cases hx; done)))))
          refine gk_drawn_at [1, 2, 4, 5] rfl rfl (by kernel_rfl) ?_
          (repeat (first | refine ga_nil (by decide +kernel) ?_ | refine ga_take (by decide +kernel) rfl rfl (ys_ev (nw := true) hT rfl sI) sF ?_ | refine ga_skip (by decide +kernel) rfl rfl sF ?_ | refine ga_take (by decide +kernel) rfl rfl (ys_blk hT rfl rfl mE rfl rfl) sF ?_ | refine ga_take (by decide +kernel) rfl rfl (ys_row hT rfl rfl mE rfl rfl) sF ?_ | refine ga_take (by decide +kernel) rfl rfl (ys_row0 hT rfl rfl mE rfl rfl) sF ?_ | (refine ga_mv (by decide +kernel) rfl ?_; (first | (refine mv_box rfl rfl rfl rfl ?_; intro _) | (refine mv_alloc rfl hT rfl rfl ?_; intro _) | refine mv_store hT rfl rfl rfl rfl rfl rfl sO rfl ?_ | (refine mv_buildSlice rfl hT rfl rfl rfl rfl rfl rfl rfl rfl ?_; intro _)); refine ⟨sF, ?_⟩) | refine ga_take (by decide +kernel) rfl rfl (ys_eql rfl rfl rfl rfl rfl (by kernel_rfl)) sF ?_ | refine ga_take (by decide +kernel) rfl rfl (ys_neq rfl rfl rfl rfl rfl (by kernel_rfl)) sF ?_))
          refine ga_take (by decide +kernel) rfl rfl (ys_same_neq hT rfl rfl rfl rfl rfl) sF ?_
          (repeat (first | refine ga_nil (by decide +kernel) ?_ | refine ga_take (by decide +kernel) rfl rfl (ys_ev (nw := true) hT rfl sI) sF ?_ | refine ga_skip (by decide +kernel) rfl rfl sF ?_ | refine ga_take (by decide +kernel) rfl rfl (ys_blk hT rfl rfl mE rfl rfl) sF ?_ | refine ga_take (by decide +kernel) rfl rfl (ys_row hT rfl rfl mE rfl rfl) sF ?_ | refine ga_take (by decide +kernel) rfl rfl (ys_row0 hT rfl rfl mE rfl rfl) sF ?_ | (refine ga_mv (by decide +kernel) rfl ?_; (first | (refine mv_box rfl rfl rfl rfl ?_; intro _) | (refine mv_alloc rfl hT rfl rfl ?_; intro _) | refine mv_store hT rfl rfl rfl rfl rfl rfl sO rfl ?_ | (refine mv_buildSlice rfl hT rfl rfl rfl rfl rfl rfl rfl rfl ?_; intro _)); refine ⟨sF, ?_⟩) | refine ga_take (by decide +kernel) rfl rfl (ys_eql rfl rfl rfl rfl rfl (by kernel_rfl)) sF ?_ | refine ga_take (by decide +kernel) rfl rfl (ys_neq rfl rfl rfl rfl rfl (by kernel_rfl)) sF ?_))
          (repeat (refine gG ?_; try intro _))
          refine gk_again_sel rfl (kk + 1) hkk (by omega) (by repeat (first | exact trivial | refine ⟨rfl, ?_⟩)) sA sS
        · have hkK : kk = K.length := by
            have : kk ≤ K.length := hI
            omega
          subst hkK
          (repeat' (first | (refine gG ?_; try intro _) | ((first | refine g_split rfl rfl tE (fun _ => ?_) (fun _ => ?_) | refine gk_cond rfl rfl tE (fun _ => ?_) (fun _ => ?_)) <;> (try first | (exfalso; omega; done) | (rename_i hx; exact absurd rfl hx) | (rename_i hx; cases hx; done)))))
          cases h with
          | zero =>
            rw [show (nd 0 t).leaf = true from hbo'.1.leaf]
            have hll : acc.length + t.2.length ≤ M.length := by
              have := bfs_le hstep
              rw [if_pos rfl, List.length_append] at this
              exact this
            (repeat (refine gG ?_; try intro _))
            refine g_mv rfl ?_; refine mv_call_rt (fun w hk => entries_leaf (nd 0 t) t.2 w hbo'.1 (by omega) (hk.rR (φ := nodeF (nd 0 t)) mE)) rfl rfl rfl rfl rfl (by kernel_rfl) (fun _ => rfl) (fun v1 _ => ?_)
            refine g_freeze v1 (by intro _; first | ((repeat (first | with_reducible exact Upd.here _ | with_reducible apply Upd.there)); done) | ((repeat (first | exact Upd.here _ | apply Upd.there)); done) | fail) (fun uA uc hv1 _ _ _ => ?_)
            subst hv1
            refine g_mv rfl (mv_append (L := acc) rfl t.2 rfl rfl rfl rfl elt_E (by intro _; first | ((repeat (first | with_reducible exact Upd.here _ | with_reducible apply Upd.there)); done) | ((repeat (first | exact Upd.here _ | apply Upd.there)); done) | fail) (src_O mE) rfl oneE (by unfold maxLen; omega) (by omega) (Nat.zero_le _) (fun v2 => ?_))
            (repeat (refine gG ?_; try intro _))
            refine gk_again_sel rfl (v2, i + 1, P'.length + K.length, acc ++ t.2, P' ++ K) ⟨hPs, by rw [List.length_append], by rw [if_pos rfl] at hstep; exact hstep, hlt⟩ (by dsimp only; omega) (by repeat (first | exact trivial | refine ⟨rfl, ?_⟩)) sA sS
          | succ h =>
            rw [show (nd (h + 1) t).leaf = false from hbo'.1.leaf]
            (repeat (refine gG ?_; try intro _))
            refine gk_again_sel rfl (v, i + 1, P'.length + K.length, acc, P' ++ K) ⟨hPs, by rw [List.length_append], by rw [if_neg (by show ¬ h + 1 = 0; omega), List.append_nil] at hstep; exact hstep, hlt⟩ (by dsimp only; omega) (by repeat (first | exact trivial | refine ⟨rfl, ?_⟩)) sA sS
      · have hiQ' : i = Q.length := by omega
        subst hiQ'
        obtain rfl := bfs_same hq hP
        rw [List.drop_length] at hB
        obtain rfl := bfs_nil hB
        refine gk_freeze _ (by intro _; first | ((repeat (first | with_reducible exact Upd.here _ | with_reducible apply Upd.there)); done) | ((repeat (first | exact Upd.here _ | apply Upd.there)); done) | fail) (fun eA ec hv _ _ _ => ?_)
        subst hv
        (repeat' (first | (refine gG ?_; try intro _) | (refine g_mv rfl ?_; first | refine mv_call_bel (fun w hk => equal_E eA rA acc.length ec rn rc acc acc w rfl hrn (by omega) (hk.pO (sl eA 4 EE acc) mE) (hk.pR (sl rA 4 EE acc) mE)) rfl rfl rfl rfl rfl (by kernel_rfl) ?_ | refine mv_call_bel (fun w hk => alive34_any w) rfl rfl rfl rfl rfl (by kernel_rfl) ?_) | ((first | refine g_split rfl rfl tE (fun _ => ?_) (fun _ => ?_) | refine gk_cond rfl rfl tE (fun _ => ?_) (fun _ => ?_)) <;> (try first | (exfalso; omega; done) | (rename_i hx; exact absurd rfl hx) | (rename_i hx; cases hx; done)))))
        all_goals (refine gk_ret hT rfl rfl (.tmp rfl .nil) (fun w' hk => ?_); exact ⟨ret_bool (by simp [tB_eq]), hk.toBelow⟩)
end Go.Proofs.Ytahfjkibononfaa.Wk

