/- names.Table: All, Starting. -/
import Derived.Test.YtdkgmgfadpnhbaaNm4
import Derived.Test.YtdkgmgfadpnhbaaKyS
namespace Go.Proofs.Ytdkgmgfadpnhbaa.Nm
open Go.RowKit Mem Gx Gm KyS SoS
set_option linter.unusedVariables false
set_option linter.unusedSimpArgs false
set_option maxRecDepth 100000
set_option maxHeartbeats 1000000
theorem lbk_len {M : List (ByteArray × Value)} (q : LbK M) (hM : M.length ≤ 1000) : q.1.2.length ≤ 1000 := by
  have h1 := q.2.pm.length_eq
  have h2 : q.1.1.length ≤ M.length := by
    have h3 : q.1.1.Perm ((List.range M.length).filter fun i => decide (i ∈ q.1.1)) := (List.perm_ext_iff_of_nodup q.2.nd (List.nodup_range.filter _)).2 fun i => by
      rw [List.mem_filter, List.mem_range, decide_eq_true_eq]
      exact ⟨fun h => ⟨q.2.lt i h, h⟩, fun h => h.2⟩
    rw [h3.length_eq]
    exact Nat.le_trans (List.length_filter_le _ _) (by simp)
  have h3 := List.length_filterMap_le (fun i => (M[i]?).map (·.1)) q.1.1
  omega
/-- The names, in order. -/
def SrtN (l : List NmD) (S : List ByteArray) : Prop := S.Perm (l.map (·.s)) ∧ Pq.SortedIn ltS 0 S.length S
theorem SrtN.uniq {l : List NmD} {S S' : List ByteArray} (h : SrtN l S) (h' : SrtN l S') : S = S' := by
  have tr : ∀ {S : List ByteArray}, Pq.SortedIn ltS 0 S.length S → S.Pairwise (fun x y => ¬ ltS y x) := fun {S} hs => by
    rw [List.pairwise_iff_getElem]
    intro i j hi hj hij
    exact hs i j _ _ (Nat.zero_le _) hij hj (List.getElem?_eq_getElem hi) (List.getElem?_eq_getElem hj)
  exact List.Perm.eq_of_pairwise (le := fun x y => ¬ ltS y x) (fun a b _ _ h1 h2 => ltS_total h2 h1) (tr h.2) (tr h'.2) (h.1.trans h'.1.symm)
theorem SrtN.len {l : List NmD} {S : List ByteArray} (h : SrtN l S) : S.length = l.length := by rw [h.1.length_eq, List.length_map]
theorem nall_any (t : Nat) (T : NTab) (l : List NmD) (w : World) (hI : NtI T l) (h : Rd1 w (ntF t T)) :
    Calls Try.prog 80 [.pointer (some ⟨t, 0, none⟩)].toArray w (Ret (fun s : Value × List ByteArray => SrtN l s.2) (fun s => s.1) (fun s => [own 0 9 1 s.1 E s.2]) w) := by
  have hky := hI.keys
  have hkl : T.M1.length ≤ 1000 := by
    have h1 := hky.length_eq
    rw [List.length_map, List.length_map] at h1
    have := hI.len
    omega
  obtain ⟨r, M1, M2⟩ := T
  cases r with
  | none =>
    have hM : M1 = [] := hI.none_nil rfl
    subst hM
    have hB := Rd1.unpack h (φ := blk t [.map none, .map none] 66) (.head _)
    refine g_enter0 T [] [] [blk t [.map none, .map none] 66] Try.func80 rfl Try.ntmps80 rfl (Rds.cons hB .nil).kn ?_
    refine gk_rowR (g := t) mE ?_
    (repeat (refine gG ?_; try intro _))
    refine g_mv rfl ?_; refine mv_call_rt (fun w hk => keys_any (.map none) ⟨_, rfl⟩ w) rfl rfl rfl rfl rfl (by kernel_rfl) (fun _ => rfl) (fun bt _ => ?_)
    refine g_share (φ := blk bt [.map none] 63) (by repeat (first | with_reducible exact Sel.here | with_reducible apply Sel.there)) ?_
    refine g_mv rfl ?_; refine mv_call_rt (fun w hk => by exact sorted_any 164 [.pointer (some ⟨bt, 0, none⟩)] (StK []) ⟨([], []), good_nil []⟩ (FinK []) (fun q => q.1.2) [blk bt [.map none] 63] w (by kernel_rfl) (KyS.Kn.rds hk (by intro φ hφ; obtain rfl := List.mem_singleton.1 hφ; exact mE)) (fun w' hB => keys_iter_nil bt w' hB) rfl (fun q x q' ⟨_, _, _, _, h⟩ => by rw [h]) (fun q x q' _ => Nat.le_trans (lbk_len q (by simp)) (by decide)) (fun q _ => Nat.le_trans (lbk_len q (by simp)) (by decide))) rfl rfl rfl rfl rfl (by kernel_rfl) (fun _ => rfl) (fun r hr => ?_)
    obtain ⟨v, S⟩ := r
    obtain ⟨⟨q, hq1, hq2⟩, hso⟩ := hr
    dsimp only at hq2 hso ⊢
    have hp := hq2.trans (q.2.fin hq1)
    (repeat (refine gG ?_; try intro _))
    refine gk_ret hT rfl rfl (.tmp rfl .nil) (fun w' hk => ?_)
    exact Ret.mk (v, S) ⟨hp.trans hky, hso⟩ rfl hk sA
  | some r =>
    obtain ⟨r1, r2⟩ := r
    have hB := Rd1.unpack h (φ := blk t [.map (some r1), .map (some r2)] 66) (.head _)
    obtain ⟨B, ck, hM⟩ := (Rd1.unpack h (φ := mpk r1 Value.string M1) (.tail _ (.head _))).mpc
    refine g_enter0 T [] [] [blk t [.map (some r1), .map (some r2)] 66, mpc r1 Value.string M1 B ck] Try.func80 rfl Try.ntmps80 rfl (Rds.cons hB (.cons hM .nil)).kn ?_
    refine gk_rowR (g := t) mE ?_
    (repeat (refine gG ?_; try intro _))
    refine g_mv rfl ?_; refine mv_call_rt (fun w hk => keys_any (.map (some r1)) ⟨_, rfl⟩ w) rfl rfl rfl rfl rfl (by kernel_rfl) (fun _ => rfl) (fun bt _ => ?_)
    refine g_share (φ := blk bt [.map (some r1)] 63) (by repeat (first | with_reducible exact Sel.here | with_reducible apply Sel.there)) ?_
    refine g_mv rfl ?_; refine mv_call_rt (fun w hk => by exact sorted_any 164 [.pointer (some ⟨bt, 0, none⟩)] (StK M1) ⟨([], []), good_nil M1⟩ (FinK M1) (fun q => q.1.2) [blk bt [.map (some r1)] 63, mpc r1 Value.string M1 B ck] w (by kernel_rfl) (KyS.Kn.rds hk (by intro φ hφ; rcases List.mem_cons.1 hφ with rfl | hφ; exact mE; obtain rfl := List.mem_singleton.1 hφ; exact mE)) (fun w' hB => keys_iter M1 B ck r1 bt w' hB) rfl (fun q x q' ⟨_, _, _, _, h⟩ => by rw [h]) (fun q x q' _ => Nat.le_trans (lbk_len q hkl) (by decide)) (fun q _ => Nat.le_trans (lbk_len q hkl) (by decide))) rfl rfl rfl rfl rfl (by kernel_rfl) (fun _ => rfl) (fun r hr => ?_)
    obtain ⟨v, S⟩ := r
    obtain ⟨⟨q, hq1, hq2⟩, hso⟩ := hr
    dsimp only at hq2 hso ⊢
    have hp := hq2.trans (q.2.fin hq1)
    (repeat (refine gG ?_; try intro _))
    refine gk_ret hT rfl rfl (.tmp rfl .nil) (fun w' hk => ?_)
    exact Ret.mk (v, S) ⟨hp.trans hky, hso⟩ rfl hk sA
/-- A text that begins with another one. -/
def prB (st x : ByteArray) : Prop := st.size ≤ x.size ∧ x.extract 0 st.size = st
noncomputable def delB (st x : ByteArray) : Bool := tB (¬ prB st x)
theorem cl_any (x st : ByteArray) (cb : Nat) (w : World) (h9 : st.size ≤ 1000) (hx9 : x.size ≤ 1000) (h : Rd1 w (row cb 0 [.string st])) :
    Calls Try.prog 137 [.string x, .pointer (some ⟨cb, 0, none⟩)].toArray w fun e w' => e = .returned (.bool (delB st x)) ∧ Below w.heap.size w w' := by
  obtain ⟨Lx, hLx, _⟩ := sx_of x
  have hlx : Lx.length = x.size := by rw [hLx, sx_size]
  refine g_enter0 T [] [] [row cb 0 [.string st]] Try.func137 rfl Try.ntmps137 rfl (Rds.cons h .nil).kn ?_
  (repeat (refine gG ?_; try intro _))
  by_cases h1 : x.size < st.size
  · have hd : delB st x = true := tB_true fun h => by have := h.1; omega
    rw [hd]
    refine gk_any [0] (Cut _ (fun _ : Unit => [(3, .bool true)]) (fun _ => []) (fun _ => [])) rfl rfl (by kernel_rfl) ?_ (cut_k fun _ => ?_)
    · skip
      refine gb_take 0 rfl (by decide +kernel) rfl rfl (ys_ev (nw := true) hT rfl sI) sF ?_
      refine gb_take 1 rfl (by decide +kernel) rfl rfl (ys_ev (nw := true) hT rfl sI) sF ?_
      refine gb_take 2 rfl (by decide +kernel) rfl rfl (by first | exact ys_blk hT rfl rfl mE rfl rfl | exact ys_row hT rfl rfl mE rfl rfl | exact ys_row0 hT rfl rfl mE rfl rfl) sF ?_
      refine gb_take 3 rfl (by decide +kernel) rfl rfl (ys_ev (nw := true) hT rfl sI) sF ?_
      refine gb_take 4 rfl (by decide +kernel) rfl rfl (ys_ev (nw := true) hT rfl sI) sF ?_
      try (refine gb_say 8 (.bool true) rfl (congrArg Value.bool (tB_true (by omega))) ?_)
      refine gb_take 5 rfl (by decide +kernel) rfl rfl (ys_ev (nw := true) hT rfl sI) sF ?_
      first | refine gb_take 6 rfl (by decide +kernel) rfl rfl (ys_ev (nw := true) hT rfl sI) sF ?_ | refine gb_skip 6 rfl (by decide +kernel) rfl rfl sF ?_
      first | refine gb_take 7 rfl (by decide +kernel) rfl rfl (by first | exact ys_blk hT rfl rfl mE rfl rfl | exact ys_row hT rfl rfl mE rfl rfl | exact ys_row0 hT rfl rfl mE rfl rfl) sF ?_ | refine gb_skip 7 rfl (by decide +kernel) rfl rfl sF ?_
      first | refine gb_take 8 rfl (by decide +kernel) rfl rfl (ys_ev (nw := true) hT rfl sI) sF ?_ | refine gb_skip 8 rfl (by decide +kernel) rfl rfl sF ?_
      first | refine gb_take 9 rfl (by decide +kernel) rfl rfl (ys_ev (nw := true) hT rfl sI) sF ?_ | refine gb_skip 9 rfl (by decide +kernel) rfl rfl sF ?_
      first | refine gb_take 10 rfl (by decide +kernel) rfl rfl (by first | exact ys_blk hT rfl rfl mE rfl rfl | exact ys_row hT rfl rfl mE rfl rfl | exact ys_row0 hT rfl rfl mE rfl rfl) sF ?_ | refine gb_skip 10 rfl (by decide +kernel) rfl rfl sF ?_
      first | refine gb_take 11 rfl (by decide +kernel) rfl rfl (ys_ev (nw := true) hT rfl sI) sF ?_ | refine gb_skip 11 rfl (by decide +kernel) rfl rfl sF ?_
      refine gb_take 12 rfl (by decide +kernel) rfl rfl (ys_ev (nw := true) hT rfl sI) sF ?_
      refine gb_take 13 rfl (by decide +kernel) rfl rfl (ys_ev (nw := true) hT rfl sI) sF ?_
      refine gb_nil (by decide +kernel) ?_
      exact ⟨(), (by repeat (first | exact trivial | refine ⟨rfl, ?_⟩)), sA, sS⟩
    · (repeat (refine gG ?_; try intro _))
      refine gk_ret hT rfl rfl (.tmp rfl .nil) (fun w' hk => ?_)
      exact ⟨rfl, hk.toBelow⟩
  · have hd : delB st x = tB (¬ x.extract 0 st.size = st) := tB_congr ⟨fun h e => h ⟨by omega, e⟩, fun h e => h e.2⟩
    rw [hd]
    refine gk_any [0] (Cut _ (fun _ : Unit => [(3, .bool (tB (¬ x.extract 0 st.size = st)))]) (fun _ => []) (fun _ => [])) rfl rfl (by kernel_rfl) ?_ (cut_k fun _ => ?_)
    · skip
      refine gb_take 0 rfl (by decide +kernel) rfl rfl (ys_ev (nw := true) hT rfl sI) sF ?_
      refine gb_take 1 rfl (by decide +kernel) rfl rfl (ys_ev (nw := true) hT rfl sI) sF ?_
      refine gb_take 2 rfl (by decide +kernel) rfl rfl (by first | exact ys_blk hT rfl rfl mE rfl rfl | exact ys_row hT rfl rfl mE rfl rfl | exact ys_row0 hT rfl rfl mE rfl rfl) sF ?_
      refine gb_take 3 rfl (by decide +kernel) rfl rfl (ys_ev (nw := true) hT rfl sI) sF ?_
      refine gb_take 4 rfl (by decide +kernel) rfl rfl (ys_ev (nw := true) hT rfl sI) sF ?_
      try (refine gb_say 8 (.bool false) rfl (congrArg Value.bool (tB_false (by omega))) ?_)
      refine gb_take 5 rfl (by decide +kernel) rfl rfl (ys_ev (nw := true) hT rfl sI) sF ?_
      first | refine gb_take 6 rfl (by decide +kernel) rfl rfl (ys_ev (nw := true) hT rfl sI) sF ?_ | refine gb_skip 6 rfl (by decide +kernel) rfl rfl sF ?_
      first | refine gb_take 7 rfl (by decide +kernel) rfl rfl (by first | exact ys_blk hT rfl rfl mE rfl rfl | exact ys_row hT rfl rfl mE rfl rfl | exact ys_row0 hT rfl rfl mE rfl rfl) sF ?_ | refine gb_skip 7 rfl (by decide +kernel) rfl rfl sF ?_
      first | refine gb_take 8 rfl (by decide +kernel) rfl rfl (ys_ev (nw := true) hT rfl sI) sF ?_ | refine gb_skip 8 rfl (by decide +kernel) rfl rfl sF ?_
      first | refine gb_take 9 rfl (by decide +kernel) rfl rfl (ys_sx_h hT st.size rfl rfl rfl rfl hLx rfl (by omega)) sF ?_ | refine gb_skip 9 rfl (by decide +kernel) rfl rfl sF ?_
      try (refine gb_say 13 (.string (x.extract 0 st.size)) rfl (by rw [hLx, sx_ext, List.drop_zero]) ?_)
      first | refine gb_take 10 rfl (by decide +kernel) rfl rfl (by first | exact ys_blk hT rfl rfl mE rfl rfl | exact ys_row hT rfl rfl mE rfl rfl | exact ys_row0 hT rfl rfl mE rfl rfl) sF ?_ | refine gb_skip 10 rfl (by decide +kernel) rfl rfl sF ?_
      first | refine gb_take 11 rfl (by decide +kernel) rfl rfl (ys_str_neq hT rfl rfl rfl rfl) sF ?_ | refine gb_skip 11 rfl (by decide +kernel) rfl rfl sF ?_
      refine gb_take 12 rfl (by decide +kernel) rfl rfl (ys_ev (nw := true) hT rfl sI) sF ?_
      refine gb_take 13 rfl (by decide +kernel) rfl rfl (ys_ev (nw := true) hT rfl sI) sF ?_
      refine gb_nil (by decide +kernel) ?_
      exact ⟨(), (by repeat (first | exact trivial | refine ⟨rfl, ?_⟩)), sA, sS⟩
    · (repeat (refine gG ?_; try intro _))
      refine gk_ret hT rfl rfl (.tmp rfl .nil) (fun w' hk => ?_)
      exact ⟨rfl, hk.toBelow⟩
theorem idx_any (A : Option Addr) (n c cb : Nat) (L : List ByteArray) (st : ByteArray) (w : World) (hn : n = L.length) (h9 : n ≤ 100000) (hst : st.size ≤ 1000) (hL9 : ∀ x, x ∈ L → x.size ≤ 1000) (hs : Rd1 w (sl A 1 E L)) (hc : Rd1 w (row cb 0 [.string st])) :
    Calls Try.prog 165 [.slice A n c, .func (.func 137) #[] #[.pointer (some ⟨cb, 0, none⟩)]].toArray w fun e w' => e = .returned (.int .i64 (posF (delB st) L)) ∧ Below w.heap.size w w' := by
  refine g_enter0 T [] [] [sl A 1 E L, row cb 0 [.string st]] Try.func165 rfl Try.ntmps165 rfl (Rds.cons hs (.cons hc .nil)).kn ?_
  (repeat (refine gG ?_; try intro _))
  refine gk_loop_sel (fun (q : Nat × Nat) => match q with | (k, u) => (k ≤ n ∧ ∀ j z, j < k → L[j]? = some z → delB st z = false)) (fun (q : Nat × Nat) => match q with | (k, u) => [(0, .slice A n c), (1, .func (.func 137) #[] #[.pointer (some ⟨cb, 0, none⟩)]), (7, .int .i64 n), (8, .int .i64 k)]) (fun (q : Nat × Nat) => match q with | (k, u) => []) (fun (q : Nat × Nat) => match q with | (k, u) => [sl A 1 E L, row cb 0 [.string st]]) (fun (q : Nat × Nat) => match q with | (k, u) => n - k) (0, 0) rfl ⟨Nat.zero_le _, fun j z h => absurd h (Nat.not_lt_zero _)⟩ (by repeat (first | exact trivial | refine ⟨rfl, ?_⟩)) sA sS ?_
  rintro ⟨k, u⟩ hI
  replace hI : (k ≤ n ∧ ∀ j z, j < k → L[j]? = some z → delB st z = false) := hI
  change GK _ _ [(0, .slice A n c), (1, .func (.func 137) #[] #[.pointer (some ⟨cb, 0, none⟩)]), (7, .int .i64 n), (8, .int .i64 k)] [] [sl A 1 E L, row cb 0 [.string st]]
  obtain ⟨hk1, hno⟩ := hI
  by_cases hlt : k < n
  · obtain ⟨x, hx⟩ : ∃ x, L[k]? = some x := ⟨L[k], List.getElem?_eq_getElem (by omega)⟩
    refine gk_elem (enc := E) (L := L) k mE (by omega) (by decide) (fun b o y eA hy => ?_)
    subst eA
    obtain rfl : x = y := by rw [hx] at hy; exact Option.some.inj hy
    (repeat' (first | (refine gG ?_; try intro _) | ((first | refine g_split rfl rfl tE (fun _ => ?_) (fun _ => ?_) | refine gk_cond rfl rfl tE (fun _ => ?_) (fun _ => ?_)) <;> (try first | (exfalso; omega; done) | (rename_i hx; exact absurd rfl hx) | (rename_i hx; cases hx; done)))))
    refine g_mv rfl ?_
    refine mv_callc_bel (args := [.string x]) (fun w hk => cl_any x st cb w hst (hL9 x (List.mem_of_getElem? hx)) (hk.rR (φ := row cb 0 [.string st]) mE)) rfl rfl rfl rfl rfl (by kernel_rfl) ?_
    cases hb : delB st x with
    | true =>
      have hp := posF_some (p := delB st) hx hb hno
      (repeat (refine gG ?_; try intro _))
      refine gk_ret hT rfl rfl (.tmp rfl .nil) (fun w' hk => ?_)
      exact ⟨by rw [hp]; rfl, hk.toBelow⟩
    | false =>
      have hI2 : k + 1 ≤ n ∧ ∀ j z, j < k + 1 → L[j]? = some z → delB st z = false := ⟨hlt, fun j z hj hz => by
        by_cases e : j = k
        · subst e; rw [hx] at hz; obtain rfl := Option.some.inj hz; exact hb
        · exact hno j z (by omega) hz⟩
      (repeat (refine gG ?_; try intro _))
      refine gk_say 8 (.int .i64 ((k + 1 : Nat) : Int)) rfl (by first | (congr 1; done) | (congr 1; omega)) ?_
      refine gk_again_sel rfl (k + 1, u) hI2 (by dsimp only; omega) (by repeat (first | exact trivial | refine ⟨rfl, ?_⟩)) sA sS
  · have hp := posF_none (p := delB st) (l := L) fun y hy => by
      obtain ⟨j, hj⟩ := List.getElem?_of_mem hy
      exact hno j y (by have := (List.getElem?_eq_some_iff.1 hj).1; omega) hj
    (repeat' (first | (refine gG ?_; try intro _) | ((first | refine g_split rfl rfl tE (fun _ => ?_) (fun _ => ?_) | refine gk_cond rfl rfl tE (fun _ => ?_) (fun _ => ?_)) <;> (try first | (exfalso; omega; done) | (rename_i hx; exact absurd rfl hx) | (rename_i hx; cases hx; done)))))
    refine gk_ret hT rfl rfl (.tmp rfl .nil) (fun w' hk => ?_)
    exact ⟨by rw [hp]; rfl, hk.toBelow⟩
/-- What DeleteFunc leaves. -/
noncomputable def keepF (st : ByteArray) (L : List ByteArray) : List ByteArray := L.filter fun x => !delB st x
theorem keepF_snoc (st : ByteArray) (L : List ByteArray) (x : ByteArray) : keepF st (L ++ [x]) = keepF st L ++ (if delB st x = true then [] else [x]) := by
  unfold keepF
  rw [List.filter_append]
  congr 1
  by_cases h : delB st x = true <;> simp [h]
theorem keepF_all {st : ByteArray} {L : List ByteArray} (h : ∀ x, x ∈ L → delB st x = false) : keepF st L = L := List.filter_eq_self.2 fun x hx => by rw [h x hx]; rfl
theorem take_succ' {α : Type} {L : List α} {i : Nat} {x : α} (h : L[i]? = some x) : L.take (i + 1) = L.take i ++ [x] := by
  rw [List.take_add_one, h]
  rfl
theorem zero_S : ∃ u, (∀ w, (zeroValue 9).run Try.prog w = .ok u w) ∧ u.cells.size = 1 ∧ ∀ v ∈ u.cells, v.oneCell' = true := ⟨.string noS, fun w => rfl, rfl, fun v h => by simp [Value.cells] at h; subst h; rfl⟩
theorem del_any (g n c cb : Nat) (L : List ByteArray) (st : ByteArray) (w : World) (hn : L.length = n) (h9 : n ≤ 100000) (hst : st.size ≤ 1000) (hL9 : ∀ x, x ∈ L → x.size ≤ 1000) (h : Rd1 w (rF g n c L)) (hr : Rd1 w (row cb 0 [.string st])) (hd : ∀ b, (rF g n c L).S b → (row cb 0 [.string st]).S b → False) :
    Calls Try.prog 136 [.slice (some ⟨g, 0, none⟩) n c, .func (.func 137) #[] #[.pointer (some ⟨cb, 0, none⟩)]].toArray w (RetM (rF g n c L) (fun _ : Unit => True) (fun _ => .slice (some ⟨g, 0, none⟩) (keepF st L).length c) (fun _ => rF g (keepF st L).length c (keepF st L)) w) := by
  have hnc : n ≤ c := by
    obtain ⟨A', c', hv, h1, _⟩ := own_rdv h
    injection hv with e1 e2 e3
    omega
  refine g_enter0 T (finE (rF g n c L) w) [rF g n c L] [row cb 0 [.string st]] Try.func136 rfl Try.ntmps136 rfl (Kn.startM h (fun b hb => (finE_mem h.2 b).2 hb) (fun ψ hψ => by obtain rfl := List.mem_singleton.1 hψ; exact ⟨hr, fun b hb hb2 => hd b hb hb2⟩)) ?_
  (repeat (refine gG ?_; try intro _))
  refine g_mv rfl ?_; refine mv_call_bel (fun w hk => idx_any (some ⟨g, 0, none⟩) n c cb L st w hn.symm h9 hst hL9 (rd_own (hk.rO (φ := rF g n c L) mE)) (hk.rR (φ := row cb 0 [.string st]) mE)) rfl rfl rfl rfl rfl (by kernel_rfl) ?_
  rcases posF_cases (delB st) L with ⟨e, hall⟩ | ⟨i0, y0, e, hy0, hp0, hno⟩
  · have ek := keepF_all hall
    rw [e, ek]
    (repeat' (first | (refine gG ?_; try intro _) | ((first | refine g_split rfl rfl tE (fun _ => ?_) (fun _ => ?_) | refine gk_cond rfl rfl tE (fun _ => ?_) (fun _ => ?_)) <;> (try first | (exfalso; omega; done) | (rename_i hx; exact absurd rfl hx) | (rename_i hx; cases hx; done)))))
    refine gk_ret hT rfl rfl (.tmp rfl .nil) (fun w' hk => ?_)
    exact RetM.mk () trivial (by rw [hn]; rfl) hk (fun b hb => (finE_mem h.2 b).1 hb) (by rw [hn]; exact mE)
  · rw [e]
    have hi0 := (List.getElem?_eq_some_iff.1 hy0).1
    have hst0 : L.take i0 = keepF st (L.take (i0 + 1)) := by
      rw [take_succ' hy0, keepF_snoc, if_pos hp0, List.append_nil, keepF_all]
      intro x hx
      obtain ⟨j, hj⟩ := List.getElem?_of_mem hx
      have hji := (List.getElem?_eq_some_iff.1 hj).1
      rw [List.length_take] at hji
      rw [List.getElem?_take_of_lt (by omega)] at hj
      exact hno j x (by omega) hj
    (repeat' (first | (refine gG ?_; try intro _) | ((first | refine g_split rfl rfl tE (fun _ => ?_) (fun _ => ?_) | refine gk_cond rfl rfl tE (fun _ => ?_) (fun _ => ?_)) <;> (try first | (exfalso; omega; done) | (rename_i hx; exact absurd rfl hx) | (rename_i hx; cases hx; done)))))
    refine gk_say 6 (.int .i64 ((i0 + 1 : Nat) : Int)) rfl (by first | (congr 1; done) | (congr 1; omega)) ?_
    refine gk_loop_sel (fun (q : Nat × Nat × (List ByteArray)) => match q with | (i, j, N) => (i < j ∧ j ≤ n ∧ N.length = n ∧ N.take i = keepF st (L.take j) ∧ N.drop j = L.drop j)) (fun (q : Nat × Nat × (List ByteArray)) => match q with | (i, j, N) => [(0, .slice (some ⟨g, 0, none⟩) n c), (1, .func (.func 137) #[] #[.pointer (some ⟨cb, 0, none⟩)]), (5, .int .i64 (i : Int)), (6, .int .i64 (j : Int))]) (fun (q : Nat × Nat × (List ByteArray)) => match q with | (i, j, N) => [rF g n c N]) (fun (q : Nat × Nat × (List ByteArray)) => match q with | (i, j, N) => [row cb 0 [.string st]]) (fun (q : Nat × Nat × (List ByteArray)) => match q with | (i, j, N) => n - j) (i0, i0 + 1, L) rfl ⟨Nat.lt_succ_self _, by omega, hn, hst0, rfl⟩ (by repeat (first | exact trivial | refine ⟨rfl, ?_⟩)) sA sS ?_
    rintro ⟨i, j, N⟩ hI
    replace hI : (i < j ∧ j ≤ n ∧ N.length = n ∧ N.take i = keepF st (L.take j) ∧ N.drop j = L.drop j) := hI
    change GK _ _ [(0, .slice (some ⟨g, 0, none⟩) n c), (1, .func (.func 137) #[] #[.pointer (some ⟨cb, 0, none⟩)]), (5, .int .i64 (i : Int)), (6, .int .i64 (j : Int))] [rF g n c N] [row cb 0 [.string st]]
    obtain ⟨hij, hjn, hNn, hN1, hN2⟩ := hI
    by_cases hlt : j < n
    · obtain ⟨x, hx⟩ : ∃ x, N[j]? = some x := ⟨N[j], List.getElem?_eq_getElem (by omega)⟩
      have hxL : L[j]? = some x := by
        have := congrArg (fun l => l[0]?) hN2
        simp only [List.getElem?_drop, Nat.add_zero] at this
        rw [← this]; exact hx
      have hks := keepF_snoc st (L.take j) x
      rw [← take_succ' hxL] at hks
      have hdr : N.drop (j + 1) = L.drop (j + 1) := by
        have h3 := congrArg (List.drop 1) hN2
        rwa [List.drop_drop, List.drop_drop] at h3
      (repeat' (first | (refine gG ?_; try intro _) | ((first | refine g_split rfl rfl tE (fun _ => ?_) (fun _ => ?_) | refine gk_cond rfl rfl tE (fun _ => ?_) (fun _ => ?_)) <;> (try first | (exfalso; omega; done) | (rename_i hx; exact absurd rfl hx) | (rename_i hx; cases hx; done)))))
      refine g_yd rfl rfl ((ys_load_el (S := [rF g n c (N)]) (o0 := 0) (sz := 1) (enc := E) (L := N) hT (j) x 0 rfl rfl rfl (by first | rfl | omega) hx (at_own mE) rfl rfl).ydS sF) ?_
      (repeat (refine gG ?_; try intro _))
      refine g_mv rfl ?_
      refine mv_callc_bel (args := [.string x]) (fun w hk => cl_any x st cb w hst (hL9 x (List.mem_of_getElem? hxL)) (hk.rR (φ := row cb 0 [.string st]) mE)) rfl rfl rfl rfl rfl (by kernel_rfl) ?_
      cases hb : delB st x with
      | true =>
        rw [if_pos hb, List.append_nil] at hks
        (repeat (refine gG ?_; try intro _))
        refine gk_say 6 (.int .i64 ((j + 1 : Nat) : Int)) rfl (by first | (congr 1; done) | (congr 1; omega)) ?_
        refine gk_again_sel rfl (i, j + 1, N) ⟨by omega, by omega, hNn, by rw [hks]; exact hN1, hdr⟩ (by dsimp only; omega) (by repeat (first | exact trivial | refine ⟨rfl, ?_⟩)) sA sS
      | false =>
        rw [if_neg (by rw [hb]; decide)] at hks
        obtain ⟨u, hu⟩ : ∃ x, N[i]? = some x := ⟨N[i], List.getElem?_eq_getElem (by omega)⟩
        (repeat (refine gG ?_; try intro _))
        refine g_mv rfl (mv_store_own (α := ByteArray) (g := g) (n := n) (c := c) (base := 0) (e := 9) (sz := 1) (enc := E) (L := N) hT i 0 u x rfl rfl (by first | rfl | omega) rfl rfl rfl rfl hu (by decide) (fun b h1 h2 => absurd h1 (by omega)) rfl (by first | ((repeat (first | with_reducible exact Upd.here _ | with_reducible apply Upd.there)); done) | ((repeat (first | exact Upd.here _ | apply Upd.there)); done) | fail) rfl ?_)
        (repeat (refine gG ?_; try intro _))
        refine gk_say 5 (.int .i64 ((i + 1 : Nat) : Int)) rfl (by first | (congr 1; done) | (congr 1; omega)) ?_
        refine gk_say 6 (.int .i64 ((j + 1 : Nat) : Int)) rfl (by first | (congr 1; done) | (congr 1; omega)) ?_
        refine gk_again_sel rfl (i + 1, j + 1, N.set i x) ⟨by omega, by omega, by rw [List.length_set]; exact hNn, by rw [hks, ← hN1, List.take_set, List.take_succ_eq_append_getElem (by omega), List.set_append_right _ _ (by rw [List.length_take]; omega), List.length_take, Nat.min_eq_left (by omega), Nat.sub_self]; rfl, by rw [List.drop_set_of_lt (by omega)]; exact hdr⟩ (by dsimp only; omega) (by repeat (first | exact trivial | refine ⟨rfl, ?_⟩)) sA sS
    · have hjn' : j = n := by omega
      have hkk : N.take i = keepF st L := by rw [hN1, hjn', List.take_of_length_le (by omega)]
      have hki : (keepF st L).length = i := by rw [← hkk, List.length_take]; omega
      (repeat' (first | (refine gG ?_; try intro _) | ((first | refine g_split rfl rfl tE (fun _ => ?_) (fun _ => ?_) | refine gk_cond rfl rfl tE (fun _ => ?_) (fun _ => ?_)) <;> (try first | (exfalso; omega; done) | (rename_i hx; exact absurd rfl hx) | (rename_i hx; cases hx; done)))))
      refine g_yd rfl rfl (Ys.yd (ys_slice_l hT i rfl rfl rfl rfl rfl (by omega))) ?_
      refine g_say 38 (.slice (some ⟨g, i * 1, none⟩) (n - i) (c - i)) rfl (by rw [shA_at (by omega)]) ?_
      refine g_own_blk (g := g) (base := 0) (e := 9) (sz := 1) (n := n) (c := c) (enc := E) (L := N) (by decide) (by intro _; first | ((repeat (first | with_reducible exact Upd.here _ | with_reducible apply Upd.there)); done) | ((repeat (first | exact Upd.here _ | apply Upd.there)); done) | fail) (fun rest hr1 hr2 hr3 hr4 hr5 => ?_)
      have e4 : flatF 1 E N = flatF 1 E (N.take i) ++ flatF 1 E (N.drop i) := by rw [← flatF_append, List.take_append_drop]
      have lT : (flatF 1 E (N.take i)).length = i * 1 := by rw [flatF_length, List.length_take, Nat.min_eq_left (by omega)]
      have lM : (flatF 1 E N).length = N.length * 1 := flatF_length _ _ N
      refine g_mv rfl (mv_clear rfl hT rfl rfl rfl rfl rfl zero_S (by intro _; first | ((repeat (first | with_reducible exact Upd.here _ | with_reducible apply Upd.there)); done) | ((repeat (first | exact Upd.here _ | apply Upd.there)); done) | fail) (by rw [hr1]; omega) (fun vs hvs => ?_))
      (repeat (refine gG ?_; try intro _))
      refine g_yd rfl rfl (Ys.yd (ys_slice_h hT i rfl rfl rfl rfl rfl (by omega))) ?_
      refine g_say 41 (.slice (some ⟨g, 0, none⟩) i c) rfl (by rw [shA_0]) ?_
      refine g_blk_own (g := g) (e := 9) (base := 0) (sz := 1) (enc := E) (n := i) (c := c) (keepF st L) (by decide) (by first | ((repeat (first | with_reducible exact Upd.here _ | with_reducible apply Upd.there)); done) | ((repeat (first | exact Upd.here _ | apply Upd.there)); done) | fail) (by rw [lay_len (by rw [hvs, hr1]; omega), hr1]) (by rw [hki]) (by omega) hr4 hr5 ?_ ?_
      · rw [e4, List.append_assoc, lay_app _ _ _ lT.symm, List.append_assoc, ← hkk]
        exact List.take_left' (by rw [lT])
      · (repeat (refine gG ?_; try intro _))
        refine gk_ret hT rfl rfl (.tmp rfl .nil) (fun w' hk => ?_)
        exact RetM.mk () trivial (by rw [hki]; rfl) hk (fun b hb => (finE_mem h.2 b).1 hb) (by rw [hki]; exact mE)
theorem del_nil (A : Option Addr) (c cb : Nat) (st : ByteArray) (w : World) (hst : st.size ≤ 1000) (hr : Rd1 w (row cb 0 [.string st])) :
    Calls Try.prog 136 [.slice A 0 c, .func (.func 137) #[] #[.pointer (some ⟨cb, 0, none⟩)]].toArray w fun e w' => e = .returned (.slice A 0 c) ∧ Below w.heap.size w w' := by
  refine g_enter0 T [] [] [row cb 0 [.string st]] Try.func136 rfl Try.ntmps136 rfl (Rds.cons hr .nil).kn ?_
  (repeat (refine gG ?_; try intro _))
  refine g_mv rfl ?_; refine mv_call_bel (fun w hk => idx_any A 0 c cb [] st w rfl (Nat.zero_le _) hst (fun x hx => by cases hx) ⟨fun h => absurd h (Nat.lt_irrefl _), fun b hb => absurd hb.1 (Nat.lt_irrefl _)⟩ (hk.rR (φ := row cb 0 [.string st]) mE)) rfl rfl rfl rfl rfl (by kernel_rfl) ?_
  have e1 : posF (delB st) ([] : List ByteArray) = -1 := rfl
  rw [e1]
  (repeat' (first | (refine gG ?_; try intro _) | ((first | refine g_split rfl rfl tE (fun _ => ?_) (fun _ => ?_) | refine gk_cond rfl rfl tE (fun _ => ?_) (fun _ => ?_)) <;> (try first | (exfalso; omega; done) | (rename_i hx; exact absurd rfl hx) | (rename_i hx; cases hx; done)))))
  refine gk_ret hT rfl rfl (.tmp rfl .nil) (fun w' hk => ?_)
  exact ⟨rfl, hk.toBelow⟩
theorem del_own (v : Value) (cb : Nat) (L : List ByteArray) (st : ByteArray) (w : World) (h9 : L.length ≤ 100000) (hst : st.size ≤ 1000) (hL9 : ∀ x, x ∈ L → x.size ≤ 1000) (h : Rd1 w (own 0 9 1 v E L)) (hr : Rd1 w (row cb 0 [.string st])) (hd : ∀ b, (own 0 9 1 v E L).S b → (row cb 0 [.string st]).S b → False) :
    Calls Try.prog 136 [v, .func (.func 137) #[] #[.pointer (some ⟨cb, 0, none⟩)]].toArray w (RetM (own 0 9 1 v E L) (fun s : Value => True) (fun s => s) (fun s => own 0 9 1 s E (keepF st L)) w) := by
  rcases L with _ | ⟨x, L⟩
  · obtain ⟨A, c, rfl, _⟩ := own_rdv h
    exact (del_nil A c cb st w hst hr).mono fun e w' ⟨he, hb⟩ => ⟨_, trivial, he, .of_below h hb⟩
  · obtain ⟨b, c, hv, hc, hm⟩ := own_at0 (h.1) (by simp)
    subst hv
    exact (del_any b _ c cb (x :: L) st w rfl h9 hst hL9 h hr hd).mono fun e w' ⟨_, _, he, hb⟩ => ⟨_, trivial, he, hb⟩
theorem starting_any (t : Nat) (T1 : NTab) (l : List NmD) (st : ByteArray) (w : World) (hst : st.size ≤ 1000) (hl9 : ∀ y, y ∈ l → y.s.size ≤ 1000) (hI : NtI T1 l) (h : Rd1 w (ntF t T1)) :
    Calls Try.prog 81 [.pointer (some ⟨t, 0, none⟩), .string st].toArray w (Ret (fun s : Value × List ByteArray => ∃ S, SrtN l S ∧ s.2 = keepF st S) (fun s => s.1) (fun s => [own 0 9 1 s.1 E s.2]) w) := by
  refine g_enter0 T [] [] [ntF t T1] Try.func81 rfl Try.ntmps81 rfl (Rds.cons h .nil).kn ?_
  (repeat (refine gG ?_; try intro _))
  rename_i g3
  refine g_mv rfl ?_; refine mv_call_rt (fun w hk => nall_any t T1 l w hI (hk.rR (φ := ntF t T1) mE)) rfl rfl rfl rfl rfl (by kernel_rfl) (fun _ => rfl) (fun r hS => ?_)
  obtain ⟨v, S⟩ := r
  dsimp only at hS ⊢
  have hSl := hS.len
  have hll := hI.len
  have hS9 : ∀ x, x ∈ S → x.size ≤ 1000 := fun x hx => by
    obtain ⟨y, hy, rfl⟩ := List.mem_map.1 (hS.1.subset hx)
    exact hl9 y hy
  refine g_share (φ := blk g3 [.string st] 9) (by repeat (first | with_reducible exact Sel.here | with_reducible apply Sel.there)) ?_
  refine g_rowR (g := g3) (cs := [.string st]) (T := 9) mE ?_
  refine g_yd rfl rfl (Ys.yd (ys_makeFunc rfl rfl)) ?_
  refine g_mv rfl (mv_call_mod (φ := own 0 9 1 v E S) (ψ := fun s : Value => own 0 9 1 s E (keepF st S)) (fun w1 hk => by exact del_own v g3 S st w1 (by omega) hst hS9 (hk.rO (φ := own 0 9 1 v E S) mE) (hk.rR (φ := row g3 0 [.string st]) mE) (fun b h1 h2 => hk.disR (own 0 9 1 v E S) mE (row g3 0 [.string st]) mE b h1 h2)) rfl rfl rfl rfl rfl (by kernel_rfl) (by intro _; first | ((repeat (first | with_reducible exact Upd.here _ | with_reducible apply Upd.there)); done) | ((repeat (first | exact Upd.here _ | apply Upd.there)); done) | fail) (fun v2 _ => ?_))
  (repeat (refine gG ?_; try intro _))
  refine gk_ret hT rfl rfl (.tmp rfl .nil) (fun w' hk => ?_)
  exact Ret.mk (v2, keepF st S) ⟨S, hS, rfl⟩ rfl hk sA
end Go.Proofs.Ytdkgmgfadpnhbaa.Nm

