/- law15: without, alive, told. -/
import Derived.Test.YtdkgmgfadpnhbaaRf9
namespace Go.Proofs.Ytdkgmgfadpnhbaa.Rf
open Go.RowKit Mem Gx Gm KyU Dd
set_option linter.unusedVariables false
set_option linter.unusedSimpArgs false
set_option maxRecDepth 100000
set_option maxHeartbeats 1000000
theorem erase_at {L : List Int} {i : Nat} {x : Int} (hx : L[i]? = some x) (hn : x ∉ L.take i) : L.take i ++ L.drop (i + 1) = L.erase x := by
  have hi := (List.getElem?_eq_some_iff.1 hx).1
  have e : L = L.take i ++ x :: L.drop (i + 1) := by
    rw [← (List.getElem?_eq_some_iff.1 hx).2, ← List.drop_eq_getElem_cons hi, List.take_append_drop]
  conv => rhs; rw [e]
  rw [List.erase_append_right _ hn, List.erase_cons_head]
theorem without_no (A : Option Addr) (n c : Nat) (L : List Int) (x : Int) (w : World) (hn : n = L.length) (h9 : n ≤ 10000) (hx : x ∉ L) (hs : Rd1 w (sl A 1 (IE .u32) L)) :
    Calls Try.prog 32 [.slice A n c, .int .u32 x].toArray w fun e w' => e = .returned (.slice A n c) ∧ Below w.heap.size w w' := by
  refine g_enter0 T [] [] [sl A 1 (IE .u32) L] Try.func32 rfl Try.ntmps32 rfl (Rds.cons hs .nil).kn ?_
  (repeat (refine gG ?_; try intro _))
  refine gk_loop_sel (fun (q : Nat × Unit) => match q with | (i, z) => (i ≤ n)) (fun (q : Nat × Unit) => match q with | (i, z) => [(0, .slice A n c), (1, .int .u32 x), (5, .int .i64 (i : Int))]) (fun (q : Nat × Unit) => match q with | (i, z) => []) (fun (q : Nat × Unit) => match q with | (i, z) => [sl A 1 (IE .u32) L]) (fun (q : Nat × Unit) => match q with | (i, z) => n - i) (0, ()) rfl (Nat.zero_le _) (by repeat (first | exact trivial | refine ⟨rfl, ?_⟩)) sA sS ?_
  rintro ⟨i, z⟩ hI
  replace hI : (i ≤ n) := hI
  change GK _ _ [(0, .slice A n c), (1, .int .u32 x), (5, .int .i64 (i : Int))] [] [sl A 1 (IE .u32) L]
  by_cases hlt : i < n
  · obtain ⟨y, hy⟩ : ∃ b, L[i]? = some b := ⟨L[i], List.getElem?_eq_getElem (by omega)⟩
    have hne : ¬ y = x := fun h => hx (h ▸ List.mem_of_getElem? hy)
    refine gk_elem (enc := IE .u32) (L := L) i mE (by omega) (by decide) (fun g o y' eA hy' => ?_)
    subst eA
    obtain rfl : y = y' := by rw [hy] at hy'; exact Option.some.inj hy'
    (repeat' (first | (refine gG ?_; try intro _) | ((first | refine g_split rfl rfl tE (fun _ => ?_) (fun _ => ?_) | refine gk_cond rfl rfl tE (fun _ => ?_) (fun _ => ?_)) <;> (try first | (exfalso; omega; done) | (rename_i hx; exact absurd rfl hx) | (rename_i hx; cases hx; done)))))
    refine gk_say 5 (.int .i64 ((i + 1 : Nat) : Int)) rfl (by first | (congr 1; done) | (congr 1; omega)) ?_
    refine gk_again_sel rfl (i + 1, ()) (by omega) (by dsimp only; omega) (by repeat (first | exact trivial | refine ⟨rfl, ?_⟩)) sA sS
  · (repeat' (first | (refine gG ?_; try intro _) | ((first | refine g_split rfl rfl tE (fun _ => ?_) (fun _ => ?_) | refine gk_cond rfl rfl tE (fun _ => ?_) (fun _ => ?_)) <;> (try first | (exfalso; omega; done) | (rename_i hx; exact absurd rfl hx) | (rename_i hx; cases hx; done)))))
    refine gk_ret hT rfl rfl (.tmp rfl .nil) (fun w' hk => ?_)
    exact ⟨rfl, hk.toBelow⟩
theorem without_in (A : Option Addr) (n c : Nat) (L : List Int) (x : Int) (w : World) (hn : (SlV.mk A n c).Ok L.length) (h9 : n ≤ 10000) (hx : x ∈ L) (hs : Rd1 w (sl A 1 (IE .u32) L)) :
    Calls Try.prog 32 [.slice A n c, .int .u32 x].toArray w (Ret (fun _ : Value => True) (fun v => v) (fun v => [own 0 87 1 v (IE .u32) (L.erase x)]) w) := by
  obtain ⟨h1, h2, h3, h4⟩ := hn
  dsimp only at h1 h2 h3 h4
  refine g_enter0 T [] [] [sl A 1 (IE .u32) L] Try.func32 rfl Try.ntmps32 rfl (Rds.cons hs .nil).kn ?_
  (repeat (refine gG ?_; try intro _))
  refine gk_loop_sel (fun (q : Nat × Unit) => match q with | (i, z) => (i ≤ n ∧ x ∉ L.take i)) (fun (q : Nat × Unit) => match q with | (i, z) => [(0, .slice A n c), (1, .int .u32 x), (5, .int .i64 (i : Int))]) (fun (q : Nat × Unit) => match q with | (i, z) => []) (fun (q : Nat × Unit) => match q with | (i, z) => [sl A 1 (IE .u32) L]) (fun (q : Nat × Unit) => match q with | (i, z) => n - i) (0, ()) rfl ⟨Nat.zero_le _, by simp⟩ (by repeat (first | exact trivial | refine ⟨rfl, ?_⟩)) sA sS ?_
  rintro ⟨i, z⟩ hI
  replace hI : (i ≤ n ∧ x ∉ L.take i) := hI
  change GK _ _ [(0, .slice A n c), (1, .int .u32 x), (5, .int .i64 (i : Int))] [] [sl A 1 (IE .u32) L]
  obtain ⟨hI, hno⟩ := hI
  by_cases hlt : i < n
  · obtain ⟨y, hy⟩ : ∃ b, L[i]? = some b := ⟨L[i], List.getElem?_eq_getElem (by omega)⟩
    refine gk_elem (enc := IE .u32) (L := L) i mE (by omega) (by decide) (fun g o y' eA hy' => ?_)
    subst eA
    obtain rfl : y = y' := by rw [hy] at hy'; exact Option.some.inj hy'
    by_cases hne : y = x
    · subst hne
      have he := erase_at hy hno
      (repeat' (first | (refine gG ?_; try intro _) | ((first | refine g_split rfl rfl tE (fun _ => ?_) (fun _ => ?_) | refine gk_cond rfl rfl tE (fun _ => ?_) (fun _ => ?_)) <;> (try first | (exfalso; omega; done) | (rename_i hx; exact absurd rfl hx) | (rename_i hx; cases hx; done)))))
      refine gk_takeS i c mE (by omega) ?_
      refine gk_dropS (L := L) (i + 1) c mE (by omega) ?_
      have hlT : (L.take i).length = i := by rw [List.length_take]; omega
      have hlD : (L.drop (i + 1)).length = n - (i + 1) := by rw [List.length_drop]; omega
      refine gk_any [0, 1, 2] (Cut _ (fun v : Value => [(4, v)]) (fun v => [own 0 87 1 v (IE .u32) (L.take i ++ L.drop (i + 1))]) (fun _ => [])) rfl rfl (by kernel_rfl) ?_ (cut_k fun v => ?_)
      · skip
        refine gb_take 1 rfl (by decide +kernel) rfl rfl (ys_ev (nw := true) hT rfl sI) sF ?_
        refine gb_take 2 rfl (by decide +kernel) rfl rfl (ys_ev (nw := true) hT rfl sI) sF ?_
        refine gb_take 3 rfl (by decide +kernel) rfl rfl (ys_slice_h hT i rfl rfl rfl rfl rfl (by omega)) sF ?_
        refine gb_take 5 rfl (by decide +kernel) rfl rfl (ys_ev (nw := true) hT rfl sI) sF ?_
        refine gb_take 6 rfl (by decide +kernel) rfl rfl (ys_ev (nw := true) hT rfl sI) sF ?_
        refine gb_take 7 rfl (by decide +kernel) rfl rfl (ys_ev (nw := true) hT rfl sI) sF ?_
        refine gb_take 8 rfl (by decide +kernel) rfl rfl (ys_slice_l hT (i + 1) rfl rfl rfl rfl (by push_cast; rfl) (by omega)) sF ?_
        refine gb_only 0 (by decide +kernel) rfl rfl ?_
        (refine mv_empty 1 (IE .u32) rfl hT rfl rfl rfl rfl rfl ?_; intro g1)
        refine ⟨sF, ?_⟩
        refine gb_only 4 (by decide +kernel) rfl rfl ?_
        (refine mv_append (L := []) rfl (L.take i) rfl rfl rfl rfl elt_U (by intro _; first | ((repeat (first | with_reducible exact Upd.here _ | with_reducible apply Upd.there)); done) | ((repeat (first | exact Upd.here _ | apply Upd.there)); done) | fail) (src_R mE) (by omega) oneU (by simp only [maxLen, List.length_append, List.length_nil]; omega) (by first | omega | (simp only [List.length_append, List.length_nil]; omega)) (Nat.zero_le _) ?_; intro v1)
        refine ⟨sF, ?_⟩
        refine gb_only 9 (by decide +kernel) rfl rfl ?_
        (refine mv_append (L := L.take i) rfl (L.drop (i + 1)) rfl rfl rfl rfl elt_U (by intro _; first | ((repeat (first | with_reducible exact Upd.here _ | with_reducible apply Upd.there)); done) | ((repeat (first | exact Upd.here _ | apply Upd.there)); done) | fail) (src_R mE) (by omega) oneU (by simp only [maxLen, List.length_append]; omega) (by first | omega | (simp only [List.length_append]; omega)) (Nat.zero_le _) ?_; intro v2)
        refine ⟨sF, ?_⟩
        refine gb_take 10 rfl (by decide +kernel) rfl rfl (ys_ev (nw := true) hT rfl sI) sF ?_
        refine gb_nil (by decide +kernel) ?_
        exact ⟨v2, (by repeat (first | exact trivial | refine ⟨rfl, ?_⟩)), sA, sS⟩
      · (repeat (refine gG ?_; try intro _))
        refine gk_ret hT rfl rfl (.tmp rfl .nil) (fun w' hk => ?_)
        exact Ret.mk v trivial rfl hk (by rw [← he]; exact sA)
    · have htk := takeAt hy
      (repeat' (first | (refine gG ?_; try intro _) | ((first | refine g_split rfl rfl tE (fun _ => ?_) (fun _ => ?_) | refine gk_cond rfl rfl tE (fun _ => ?_) (fun _ => ?_)) <;> (try first | (exfalso; omega; done) | (rename_i hx; exact absurd rfl hx) | (rename_i hx; cases hx; done)))))
      refine gk_say 5 (.int .i64 ((i + 1 : Nat) : Int)) rfl (by first | (congr 1; done) | (congr 1; omega)) ?_
      have hI2 : i + 1 ≤ n ∧ x ∉ L.take (i + 1) := ⟨by omega, by rw [htk, List.mem_append, List.mem_singleton]; exact fun h => h.elim hno (fun h => hne h.symm)⟩
      refine gk_again_sel rfl (i + 1, ()) hI2 (by dsimp only; omega) (by repeat (first | exact trivial | refine ⟨rfl, ?_⟩)) sA sS
  · exact absurd hx (by rwa [List.take_of_length_le (by omega)] at hno)
theorem set_own (v : Value) (L : List Int) (w : World) (h9 : L.length ≤ 10000) (h : Rd1 w (own 0 87 1 v (IE .u32) L)) :
    Calls Try.prog 35 [v].toArray w (Ret (fun _ : Value => True) (fun v => v) (fun v => [own 0 87 1 v (IE .u32) (setP L)]) w) := by
  obtain ⟨A, c, rfl, _⟩ := own_rdv h
  exact xset_any A L.length c L w rfl h9 (SoU.rd_own h)
theorem equal_own (v : Value) (A : Option Addr) (n c : Nat) (L L' : List Int) (w : World) (hn : n = L'.length) (h9 : L.length ≤ 10000) (h : Rd1 w (own 0 87 1 v (IE .u32) L)) (hs : Rd1 w (sl A 1 (IE .u32) L')) :
    Calls Try.prog 38 [v, .slice A n c].toArray w fun e w' => e = .returned (.bool (tB (L = L'))) ∧ Below w.heap.size w w' := by
  obtain ⟨A1, c1, rfl, _⟩ := own_rdv h
  exact equal_U A1 A L.length c1 n c L L' w rfl hn (by omega) (SoU.rd_own h).1 hs.1
theorem told_any (t : Nat) (T1 : TabS) (A : Option Addr) (n c : Nat) (l : List Int) (b : Int) (w : World) (hn : n = l.length) (hI : RfI T1 l) (h : Rd1 w (tbF t T1)) (hs : Rd1 w (sl A 1 (IE .u32) l)) :
    Calls Try.prog 36 [.pointer (some ⟨t, 0, none⟩), .slice A n c, .int .u32 b].toArray w fun e w' => e = .returned (.bool true) ∧ Below w.heap.size w w' := by
  have hll := hI.len
  have hsl := setP_len l
  refine g_enter0 T [] [] [tbF t T1, sl A 1 (IE .u32) l] Try.func36 rfl Try.ntmps36 rfl (Rds.cons h (.cons hs .nil)).kn ?_
  (repeat (refine gG ?_; try intro _))
  refine g_mv rfl ?_; refine mv_call_rt (fun w hk => xset_any A n c l w hn (by omega) (hk.rR (φ := sl A 1 (IE .u32) l) mE)) rfl rfl rfl rfl rfl (by kernel_rfl) (fun _ => rfl) (fun v1 _ => ?_)
  refine g_freeze _ (by intro _; first | ((repeat (first | with_reducible exact Upd.here _ | with_reducible apply Upd.there)); done) | ((repeat (first | exact Upd.here _ | apply Upd.there)); done) | fail) (fun A1 c1 hA1 hA11 hA12 hA13 => ?_); subst hA1
  (repeat' (first | (refine gG ?_; try intro _) | (refine g_mv rfl ?_; first | refine mv_call_bel (fun w hk => count_any t T1 l b w hI (hk.rR (φ := tbF t T1) mE)) rfl rfl rfl rfl rfl (by kernel_rfl) ?_ | refine mv_call_bel (fun w hk => xcnt_any A n c l b w hn (by omega) (hk.rR (φ := sl A 1 (IE .u32) l) mE)) rfl rfl rfl rfl rfl (by kernel_rfl) ?_ | refine mv_call_bel (fun w hk => len_any t T1 l w hI (hk.rR (φ := tbF t T1) mE)) rfl rfl rfl rfl rfl (by kernel_rfl) ?_ | refine mv_call_bel (fun w hk => sum_any t T1 l w hI (hk.rR (φ := tbF t T1) mE)) rfl rfl rfl rfl rfl (by kernel_rfl) ?_) | ((first | refine g_split rfl rfl tE (fun _ => ?_) (fun _ => ?_) | refine gk_cond rfl rfl tE (fun _ => ?_) (fun _ => ?_)) <;> (try first | (exfalso; omega; done) | (rename_i hx; exact absurd rfl hx) | (rename_i hx; cases hx; done)))))
  refine g_mv rfl ?_; refine mv_call_rt (fun w hk => all_any t T1 l w hI (hk.rR (φ := tbF t T1) mE)) rfl rfl rfl rfl rfl (by kernel_rfl) (fun _ => rfl) (fun v2 _ => ?_)
  (repeat' (first | (refine gG ?_; try intro _) | (refine g_mv rfl ?_; first | refine mv_call_bel (fun w hk => equal_own v2 A1 (setP l).length c1 (setP l) (setP l) w rfl (by omega) (hk.rO (φ := own 0 87 1 v2 (IE .u32) (setP l)) mE) (hk.rO (φ := sl A1 1 (IE .u32) (setP l)) mE)) rfl rfl rfl rfl rfl (by kernel_rfl) ?_) | ((first | refine g_split rfl rfl tE (fun _ => ?_) (fun _ => ?_) | refine gk_cond rfl rfl tE (fun _ => ?_) (fun _ => ?_)) <;> (try first | (exfalso; omega; done) | (rename_i hx; exact absurd rfl hx) | (rename_i hx; cases hx; done)))))
  refine gk_ret hT rfl rfl (.tmp rfl .nil) (fun w' hk => ?_)
  exact ⟨by simp [tB_eq]; rfl, hk.toBelow⟩
theorem alive_any (w : World) : Calls Try.prog 40 #[] w fun e w' => e = .returned (.bool true) ∧ Below w.heap.size w w' := by
  refine g_enter0 T [] [] [] Try.func40 rfl Try.ntmps40 rfl (Kn.start _) ?_
  (repeat (refine gG ?_; try intro _))
  rename_i t
  refine g_pack (tbL t ⟨none, [], 0⟩) [] sA ?_
  have hI0 : RfI ⟨none, [], 0⟩ [] := ⟨fun _ => rfl, rfl, MapIs.nil.congr fun k => by simp [cntV], by simp⟩
  refine g_mv rfl (mv_call_mod (φ := tbF t ⟨none, [], 0⟩) (ψ := fun T' : TabS => tbF t T') (fun w1 hk => by exact hold_any t ⟨none, [], 0⟩ [] 3 w1 (by decide) (by decide) hI0 (hk.rO (φ := tbF t ⟨none, [], 0⟩) mE)) rfl rfl rfl rfl rfl (by kernel_rfl) (by intro _; first | ((repeat (first | with_reducible exact Upd.here _ | with_reducible apply Upd.there)); done) | ((repeat (first | exact Upd.here _ | apply Upd.there)); done) | fail) (fun T1 h1 => ?_))
  refine g_say 9 (.int .i64 1) rfl rfl ?_
  (repeat (refine gG ?_; try intro _))
  refine g_mv rfl (mv_call_mod (φ := tbF t T1) (ψ := fun T' : TabS => tbF t T') (fun w1 hk => by exact hold_any t T1 ([] ++ [3]) 3 w1 (by decide) (by decide) h1 (hk.rO (φ := tbF t T1) mE)) rfl rfl rfl rfl rfl (by kernel_rfl) (by intro _; first | ((repeat (first | with_reducible exact Upd.here _ | with_reducible apply Upd.there)); done) | ((repeat (first | exact Upd.here _ | apply Upd.there)); done) | fail) (fun T2 h2 => ?_))
  refine g_say 11 (.int .i64 2) rfl rfl ?_
  (repeat (refine gG ?_; try intro _))
  refine g_mv rfl (mv_call_mod (φ := tbF t T2) (ψ := fun T' : TabS => tbF t T') (fun w1 hk => by exact drop_any t T2 ([] ++ [3] ++ [3]) 3 w1 (by decide) h2 (hk.rO (φ := tbF t T2) mE)) rfl rfl rfl rfl rfl (by kernel_rfl) (by intro _; first | ((repeat (first | with_reducible exact Upd.here _ | with_reducible apply Upd.there)); done) | ((repeat (first | exact Upd.here _ | apply Upd.there)); done) | fail) (fun T3 h3 => ?_))
  refine g_say 14 (.tuple #[.int .i64 1, .bool true]) rfl rfl ?_
  (repeat' (first | (refine gG ?_; try intro _) | ((first | refine g_split rfl rfl tE (fun _ => ?_) (fun _ => ?_) | refine gk_cond rfl rfl tE (fun _ => ?_) (fun _ => ?_)) <;> (try first | (exfalso; omega; done) | (rename_i hx; exact absurd rfl hx) | (rename_i hx; cases hx; done)))))
  refine gk_ret hT rfl rfl (.tmp rfl .nil) (fun w' hk => ?_)
  exact ⟨rfl, hk.toBelow⟩
end Go.Proofs.Ytdkgmgfadpnhbaa.Rf

