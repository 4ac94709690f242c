/- Law 55: told, alive. -/
import Derived.Test.YtdkgmgfadpnhbaaNm5
import Derived.Test.YtdkgmgfadpnhbaaNm6
namespace Go.Proofs.Ytdkgmgfadpnhbaa.Nm
open Go.RowKit Mem Gx Gm KyS SoS
set_option linter.unusedVariables false
set_option linter.unusedSimpArgs false
set_option maxRecDepth 100000
set_option maxHeartbeats 2000000
theorem eqS_same (A A' : Option Addr) (n c n' c' : Nat) (L : List ByteArray) (w : World) (hn : n = L.length) (hn' : n' = L.length) (h9 : n ≤ 100000) (hs : Rd1 w (sl A 1 E L)) (hs' : Rd1 w (sl A' 1 E L)) :
    Calls Try.prog 79 [.slice A n c, .slice A' n' c'].toArray w fun e w' => e = .returned (.bool true) ∧ Below w.heap.size w w' := by
  refine g_enter0 T [] [] [sl A 1 E L, sl A' 1 E L] Try.func79 rfl Try.ntmps79 rfl (Rds.cons hs (.cons hs' .nil)).kn ?_
  (repeat' (first | (refine gG ?_; try intro _) | ((first | refine g_split rfl rfl tE (fun _ => ?_) (fun _ => ?_) | refine gk_cond rfl rfl tE (fun _ => ?_) (fun _ => ?_)) <;> (try first | (exfalso; omega; done) | (rename_i hx; exact absurd rfl hx) | (rename_i hx; cases hx; done)))))
  refine gk_loop_sel (fun (q : Nat × Unit) => match q with | (k, z) => (k ≤ n)) (fun (q : Nat × Unit) => match q with | (k, z) => [(0, .slice A n c), (1, .slice A' n' c'), (12, .int .i64 (n : Int)), (13, .int .i64 (k : Int))]) (fun (q : Nat × Unit) => match q with | (k, z) => []) (fun (q : Nat × Unit) => match q with | (k, z) => [sl A 1 E L, sl A' 1 E L]) (fun (q : Nat × Unit) => match q with | (k, z) => n - k) (0, ()) rfl (Nat.zero_le _) (by repeat (first | exact trivial | refine ⟨rfl, ?_⟩)) sA sS ?_
  rintro ⟨k, z⟩ hI
  replace hI : (k ≤ n) := hI
  change GK _ _ [(0, .slice A n c), (1, .slice A' n' c'), (12, .int .i64 (n : Int)), (13, .int .i64 (k : Int))] [] [sl A 1 E L, sl A' 1 E L]
  by_cases hlt : k < n
  · obtain ⟨x, hx⟩ : ∃ x, L[k]? = some x := ⟨L[k], List.getElem?_eq_getElem (by omega)⟩
    refine gk_elem (A := A) (enc := E) (L := L) k mE (by omega) (by decide) (fun b o y eA hy => ?_)
    refine gk_elem (A := A') (enc := E) (L := L) k mE (by omega) (by decide) (fun b' o' y' eA' hy' => ?_)
    subst eA
    subst eA'
    obtain rfl : x = y := by rw [hx] at hy; exact Option.some.inj hy
    obtain rfl : x = y' := by rw [hx] at hy'; exact Option.some.inj hy'
    (repeat' (first | (refine gG ?_; try intro _) | ((first | refine g_split rfl rfl tE (fun _ => ?_) (fun _ => ?_) | refine gk_cond rfl rfl tE (fun _ => ?_) (fun _ => ?_)) <;> (try first | (exfalso; omega; done) | (rename_i hx; exact absurd rfl hx) | (rename_i hx; cases hx; done)))))
    refine gk_any [0, 1, 2, 3] (Cut _ (fun _ : Unit => [(0, .slice (some ⟨b, o, none⟩) n c), (1, .slice (some ⟨b', o', none⟩) n' c'), (12, .int .i64 (n : Int)), (13, .int .i64 (k : Int)), (24, .bool false)]) (fun _ => []) (fun _ => [sl (some ⟨b, o, none⟩) 1 E L, sl (some ⟨b', o', none⟩) 1 E L])) rfl rfl (by kernel_rfl) ?_ (cut_k fun _ => ?_)
    · skip
      refine gb_take 0 rfl (by decide +kernel) rfl rfl (ys_ev (nw := true) hT rfl sI) sF ?_
      refine gb_take 1 rfl (by decide +kernel) rfl rfl (ys_ev (nw := true) hT rfl sI) sF ?_
      refine gb_take 2 rfl (by decide +kernel) rfl rfl (ys_ev (nw := true) hT rfl sI) sF ?_
      refine gb_take 3 rfl (by decide +kernel) rfl rfl (by first | exact ys_blk hT rfl rfl mE rfl rfl | exact ys_row hT rfl rfl mE rfl rfl | exact ys_row0 hT rfl rfl mE rfl rfl) sF ?_
      refine gb_take 4 rfl (by decide +kernel) rfl rfl (ys_ev (nw := true) hT rfl sI) sF ?_
      refine gb_take 5 rfl (by decide +kernel) rfl rfl (ys_ev (nw := true) hT rfl sI) sF ?_
      refine gb_take 6 rfl (by decide +kernel) rfl rfl (ys_ev (nw := true) hT rfl sI) sF ?_
      refine gb_take 7 rfl (by decide +kernel) rfl rfl (by first | exact ys_blk hT rfl rfl mE rfl rfl | exact ys_row hT rfl rfl mE rfl rfl | exact ys_row0 hT rfl rfl mE rfl rfl) sF ?_
      refine gb_take 8 rfl (by decide +kernel) rfl rfl (ys_str_neq hT rfl rfl rfl rfl) sF ?_
      try (refine gb_say 24 (.bool false) rfl (congrArg Value.bool (tB_false (fun h => h rfl))) ?_)
      refine gb_nil (by decide +kernel) ?_
      exact ⟨(), (by repeat (first | exact trivial | refine ⟨rfl, ?_⟩)), sA, sS⟩
    · (repeat (refine gG ?_; try intro _))
      refine gk_say 13 (.int .i64 ((k + 1 : Nat) : Int)) rfl (by first | (congr 1; done) | (congr 1; omega)) ?_
      refine gk_again_sel rfl (k + 1, ()) (by omega) (by dsimp only; omega) (by repeat (first | exact trivial | refine ⟨rfl, ?_⟩)) sA sS
  · (repeat' (first | (refine gG ?_; try intro _) | ((first | refine g_split rfl rfl tE (fun _ => ?_) (fun _ => ?_) | refine gk_cond rfl rfl tE (fun _ => ?_) (fun _ => ?_)) <;> (try first | (exfalso; omega; done) | (rename_i hx; exact absurd rfl hx) | (rename_i hx; cases hx; done)))))
    refine gk_ret hT rfl rfl (.tmp rfl .nil) (fun w' hk => ?_)
    exact ⟨rfl, hk.toBelow⟩
theorem eqS_own (v : Value) (A' : Option Addr) (n' c' : Nat) (L : List ByteArray) (w : World) (hn' : n' = L.length) (h9 : L.length ≤ 100000) (h : Rd1 w (own 0 9 1 v E L)) (hs' : Rd1 w (sl A' 1 E L)) :
    Calls Try.prog 79 [v, .slice A' n' c'].toArray w fun e w' => e = .returned (.bool true) ∧ Below w.heap.size w w' := by
  obtain ⟨A, c, rfl, _⟩ := own_rdv h
  exact eqS_same A A' L.length c n' c' L w rfl hn' h9 (rd_own h) hs'
/-- Where a name stands in a row, whose it is. -/
def HitS (l : List NmD) (vid p1 : Int) (b1 : Bool) : Prop := (b1 = true ∧ ∃ (i : Nat) (y : NmD), p1 = (i : Int) ∧ l[i]? = some y ∧ vid = y.id) ∨ (b1 = false ∧ p1 = -1 ∧ vid = 0)
def HitI (l : List NmD) (vs : ByteArray) (p2 : Int) (b2 : Bool) : Prop := (b2 = true ∧ ∃ (i : Nat) (y : NmD), p2 = (i : Int) ∧ l[i]? = some y ∧ vs = y.s) ∨ (b2 = false ∧ p2 = -1 ∧ vs = noS)
theorem hitS_of {l : List NmD} (hn : (l.map (·.s)).Nodup) (s : ByteArray) : HitS l (((l.find? (fun y => decide (y.s = s))).map (·.id)).getD 0) (posF (pS s) l) (tB (∃ y, y ∈ l ∧ y.s = s)) := by
  rcases posF_cases (pS s) l with ⟨e, hall⟩ | ⟨i, y, e, hy, hp, _⟩
  · have hno : ∀ y, y ∈ l → y.s ≠ s := fun y hy => by have := hall y hy; simpa using this
    refine .inr ⟨tB_false fun ⟨y, hy, h⟩ => hno y hy h, e, ?_⟩
    rw [(find_none (f := fun y : NmD => y.s)).2 hno]
    rfl
  · have hys : y.s = s := by simpa using hp
    have hm := List.mem_of_getElem? hy
    refine .inl ⟨tB_true ⟨y, hm, hys⟩, i, y, e, hy, ?_⟩
    rw [(find_uniq (f := fun y : NmD => y.s) hn).2 ⟨hm, hys⟩]
    rfl
theorem hitI_of {l : List NmD} (hn : (l.map (·.id)).Nodup) (id : Int) : HitI l (((l.find? (fun y => decide (y.id = id))).map (·.s)).getD noS) (posF (pI id) l) (tB (∃ y, y ∈ l ∧ y.id = id)) := by
  rcases posF_cases (pI id) l with ⟨e, hall⟩ | ⟨i, y, e, hy, hp, _⟩
  · have hno : ∀ y, y ∈ l → y.id ≠ id := fun y hy => by have := hall y hy; simpa using this
    refine .inr ⟨tB_false fun ⟨y, hy, h⟩ => hno y hy h, e, ?_⟩
    rw [(find_none (f := fun y : NmD => y.id)).2 hno]
    rfl
  · have hys : y.id = id := by simpa using hp
    have hm := List.mem_of_getElem? hy
    refine .inl ⟨tB_true ⟨y, hm, hys⟩, i, y, e, hy, ?_⟩
    rw [(find_uniq (f := fun y : NmD => y.id) hn).2 ⟨hm, hys⟩]
    rfl
theorem told_any (t : Nat) (T1 : NTab) (A : Option Addr) (n c : Nat) (l : List NmD) (d : Bool) (id : Int) (nm st : ByteArray) (w : World) (hn : n = l.length) (hl9 : l.length ≤ 100) (hst : st.size ≤ 1000) (hs9 : ∀ y, y ∈ l → y.s.size ≤ 1000) (hNI : NtI T1 l) (h : Rd1 w (ntF t T1)) (hs : Rd1 w (sl A 2 NE l)) :
    Calls Try.prog 28 [.pointer (some ⟨t, 0, none⟩), .slice A n c, .agg #[.bool d, .int .i64 id, .string nm], .string st].toArray w fun e w' => e = .returned (.bool true) ∧ Below w.heap.size w w' := by
  refine g_enter0 T [] [] [ntF t T1, sl A 2 NE l] Try.func28 rfl Try.ntmps28 rfl (Rds.cons h (.cons hs .nil)).kn ?_
  (repeat (refine gG ?_; try intro _))
  rename_i g6
  refine gk_own 0 9 1 E ?_
  refine gk_loop_sel (fun (q : Nat × Value) => match q with | (i, v) => (i ≤ n)) (fun (q : Nat × Value) => match q with | (i, v) => [(0, .pointer (some ⟨t, 0, none⟩)), (1, .slice A n c), (3, .string st), (6, .pointer (some ⟨g6, 0, none⟩)), (9, v), (10, .slice none 0 0), (11, .int .i64 (i : Int))]) (fun (q : Nat × Value) => match q with | (i, v) => [own 0 9 1 v E (((l.take i).map (·.s))), blk g6 [.bool d, .int .i64 id, .string nm] 69]) (fun (q : Nat × Value) => match q with | (i, v) => [ntF t T1, sl A 2 NE l]) (fun (q : Nat × Value) => match q with | (i, v) => n - i) (0, .slice none 0 0) rfl (Nat.zero_le _) (by repeat (first | exact trivial | refine ⟨rfl, ?_⟩)) sA sS ?_
  rintro ⟨i, v⟩ hI
  replace hI : (i ≤ n) := hI
  change GK _ _ [(0, .pointer (some ⟨t, 0, none⟩)), (1, .slice A n c), (3, .string st), (6, .pointer (some ⟨g6, 0, none⟩)), (9, v), (10, .slice none 0 0), (11, .int .i64 (i : Int))] [own 0 9 1 v E (((l.take i).map (·.s))), blk g6 [.bool d, .int .i64 id, .string nm] 69] [ntF t T1, sl A 2 NE l]
  by_cases hlt : i < n
  · obtain ⟨y, hy⟩ : ∃ b, l[i]? = some b := ⟨l[i], List.getElem?_eq_getElem (by omega)⟩
    have hms : (l.take (i + 1)).map (·.s) = ((l.take i).map (·.s)) ++ [y.s] := by rw [take_succ' hy, List.map_append]; rfl
    have hml : ((l.take i).map (·.s)).length ≤ 100 := by rw [List.length_map, List.length_take]; omega
    refine gk_elem (enc := NE) (L := l) i mE (by omega) (by decide) (fun g o y' eA hy' => ?_)
    subst eA
    obtain rfl : y = y' := by rw [hy] at hy'; exact Option.some.inj hy'
    (repeat' (first | (refine gG ?_; try intro _) | ((first | refine g_split rfl rfl tE (fun _ => ?_) (fun _ => ?_) | refine gk_cond rfl rfl tE (fun _ => ?_) (fun _ => ?_)) <;> (try first | (exfalso; omega; done) | (rename_i hx; exact absurd rfl hx) | (rename_i hx; cases hx; done)))))
    refine g_mv rfl (mv_append (L := ((l.take i).map (·.s))) rfl [y.s] rfl rfl rfl rfl elt_K (by intro _; first | ((repeat (first | with_reducible exact Upd.here _ | with_reducible apply Upd.there)); done) | ((repeat (first | exact Upd.here _ | apply Upd.there)); done) | fail) (src_blk mE rfl) rfl oneK (by simp only [maxLen, List.length_cons, List.length_nil]; omega) (by simp only [List.length_cons, List.length_nil]; omega) (Nat.zero_le _) (fun v1 => ?_))
    (repeat (refine gG ?_; try intro _))
    refine gk_say 11 (.int .i64 ((i + 1 : Nat) : Int)) rfl (by first | (congr 1; done) | (congr 1; omega)) ?_
    rw [← hms]
    refine gk_again_sel rfl (i + 1, v1) (by omega) (by dsimp only; omega) (by repeat (first | exact trivial | refine ⟨rfl, ?_⟩)) sA sS
  · rw [List.take_of_length_le (by omega)]
    (repeat' (first | (refine gG ?_; try intro _) | ((first | refine g_split rfl rfl tE (fun _ => ?_) (fun _ => ?_) | refine gk_cond rfl rfl tE (fun _ => ?_) (fun _ => ?_)) <;> (try first | (exfalso; omega; done) | (rename_i hx; exact absurd rfl hx) | (rename_i hx; cases hx; done)))))
    refine g_mv rfl (mv_call_mod (φ := own 0 9 1 v E (l.map (·.s))) (ψ := fun L' : List ByteArray => own 0 9 1 v E L') (fun w1 hk => by exact SoS.sort_any v (l.map (·.s)) w1 (by rw [List.length_map]; omega) (hk.rO (φ := own 0 9 1 v E (l.map (·.s))) mE)) rfl rfl rfl rfl rfl (by kernel_rfl) (by intro _; first | ((repeat (first | with_reducible exact Upd.here _ | with_reducible apply Upd.there)); done) | ((repeat (first | exact Upd.here _ | apply Upd.there)); done) | fail) (fun S hS => ?_))
    have hSN : SrtN l S := ⟨hS.1, by rw [hS.1.length_eq]; exact hS.2⟩
    have hSl := hSN.len
    have hS9 : ∀ x, x ∈ S → x.size ≤ 1000 := fun x hx => by
      obtain ⟨y, hy, rfl⟩ := List.mem_map.1 (hS.1.subset hx)
      exact hs9 y hy
    clear hS
    (repeat (refine gG ?_; try intro _))
    refine gk_freeze _ (by intro _; first | ((repeat (first | with_reducible exact Upd.here _ | with_reducible apply Upd.there)); done) | ((repeat (first | exact Upd.here _ | apply Upd.there)); done) | fail) (fun SA sc hSA hSA1 hSA2 hSA3 => ?_); subst hSA
    refine gk_share (φ := sl SA 1 E S) (by repeat (first | with_reducible exact Sel.here | with_reducible apply Sel.there)) ?_
    refine gk_own 0 9 1 E ?_
    (repeat (refine gG ?_; try intro _))
    refine gk_loop_sel (fun (q : Nat × Value) => match q with | (i, v) => (i ≤ S.length)) (fun (q : Nat × Value) => match q with | (i, v) => [(0, .pointer (some ⟨t, 0, none⟩)), (1, .slice A n c), (3, .string st), (6, .pointer (some ⟨g6, 0, none⟩)), (9, .slice SA S.length sc), (10, v), (12, .int .i64 (i : Int))]) (fun (q : Nat × Value) => match q with | (i, v) => [own 0 9 1 v E (keepF st (S.take i)), blk g6 [.bool d, .int .i64 id, .string nm] 69]) (fun (q : Nat × Value) => match q with | (i, v) => [ntF t T1, sl A 2 NE l, sl SA 1 E S]) (fun (q : Nat × Value) => match q with | (i, v) => S.length - i) (0, .slice none 0 0) rfl (Nat.zero_le _) (by repeat (first | exact trivial | refine ⟨rfl, ?_⟩)) sA sS ?_
    rintro ⟨i, v⟩ hI
    replace hI : (i ≤ S.length) := hI
    change GK _ _ [(0, .pointer (some ⟨t, 0, none⟩)), (1, .slice A n c), (3, .string st), (6, .pointer (some ⟨g6, 0, none⟩)), (9, .slice SA S.length sc), (10, v), (12, .int .i64 (i : Int))] [own 0 9 1 v E (keepF st (S.take i)), blk g6 [.bool d, .int .i64 id, .string nm] 69] [ntF t T1, sl A 2 NE l, sl SA 1 E S]
    by_cases hlt2 : i < S.length
    · obtain ⟨x, hx⟩ : ∃ b, S[i]? = some b := ⟨S[i], List.getElem?_eq_getElem (by omega)⟩
      have hx9 := hS9 x (List.mem_of_getElem? hx)
      have hks := keepF_snoc st (S.take i) x
      rw [← take_succ' hx] at hks
      have hkl : (keepF st (S.take i)).length ≤ 100 := Nat.le_trans (List.length_filter_le _ _) (by rw [List.length_take]; omega)
      obtain ⟨Lx, hLx, _⟩ := sx_of x
      have hlx : Lx.length = x.size := by rw [hLx, sx_size]
      refine gk_elem (enc := E) (L := S) i mE (by omega) (by decide) (fun g o x' eA hx' => ?_)
      subst eA
      obtain rfl : x = x' := by rw [hx] at hx'; exact Option.some.inj hx'
      by_cases h1 : x.size < st.size
      · have hd : delB st x = true := tB_true fun h => by have := h.1; omega
        rw [if_pos hd, List.append_nil] at hks
        (repeat' (first | (refine gG ?_; try intro _) | ((first | refine g_split rfl rfl tE (fun _ => ?_) (fun _ => ?_) | refine gk_cond rfl rfl tE (fun _ => ?_) (fun _ => ?_)) <;> (try first | (exfalso; omega; done) | (rename_i hx; exact absurd rfl hx) | (rename_i hx; cases hx; done)))))
        refine gk_say 12 (.int .i64 ((i + 1 : Nat) : Int)) rfl (by first | (congr 1; done) | (congr 1; omega)) ?_
        rw [← hks]
        refine gk_again_sel rfl (i + 1, v) (by omega) (by dsimp only; omega) (by repeat (first | exact trivial | refine ⟨rfl, ?_⟩)) sA sS
      · have hdB : delB st x = tB (¬ x.extract 0 st.size = st) := tB_congr ⟨fun h e => h ⟨by omega, e⟩, fun h e => h e.2⟩
        (repeat' (first | (refine gG ?_; try intro _) | ((first | refine g_split rfl rfl tE (fun _ => ?_) (fun _ => ?_) | refine gk_cond rfl rfl tE (fun _ => ?_) (fun _ => ?_)) <;> (try first | (exfalso; omega; done) | (rename_i hx; exact absurd rfl hx) | (rename_i hx; cases hx; done)))))
        refine g_yd rfl rfl (Ys.yd (ys_sx_h hT st.size rfl rfl rfl rfl hLx rfl (by omega))) ?_
        refine g_say 56 (.string (x.extract 0 st.size)) rfl (by rw [hLx, sx_ext, List.drop_zero]) ?_
        (repeat (refine gG ?_; try intro _))
        by_cases h2 : x.extract 0 st.size = st
        · rw [hdB, if_neg (by rw [tB_false (fun h => h h2)]; decide)] at hks
          refine gk_cond_t rfl (congrArg some (congrArg Value.bool (tB_true h2))) ?_
          (repeat (refine gG ?_; try intro _))
          refine g_mv rfl (mv_append (L := keepF st (S.take i)) rfl [x] rfl rfl rfl rfl elt_K (by intro _; first | ((repeat (first | with_reducible exact Upd.here _ | with_reducible apply Upd.there)); done) | ((repeat (first | exact Upd.here _ | apply Upd.there)); done) | fail) (src_blk mE rfl) rfl oneK (by simp only [maxLen, List.length_cons, List.length_nil]; omega) (by simp only [List.length_cons, List.length_nil]; omega) (Nat.zero_le _) (fun v1 => ?_))
          (repeat (refine gG ?_; try intro _))
          refine gk_say 12 (.int .i64 ((i + 1 : Nat) : Int)) rfl (by first | (congr 1; done) | (congr 1; omega)) ?_
          rw [← hks]
          refine gk_again_sel rfl (i + 1, v1) (by omega) (by dsimp only; omega) (by repeat (first | exact trivial | refine ⟨rfl, ?_⟩)) sA sS
        · rw [hdB, if_pos (tB_true h2), List.append_nil] at hks
          refine gk_cond_f rfl (congrArg some (congrArg Value.bool (tB_false h2))) ?_
          (repeat (refine gG ?_; try intro _))
          refine gk_say 12 (.int .i64 ((i + 1 : Nat) : Int)) rfl (by first | (congr 1; done) | (congr 1; omega)) ?_
          rw [← hks]
          refine gk_again_sel rfl (i + 1, v) (by omega) (by dsimp only; omega) (by repeat (first | exact trivial | refine ⟨rfl, ?_⟩)) sA sS
    · rw [List.take_of_length_le (by omega)]
      have hkl : (keepF st S).length ≤ 100 := Nat.le_trans (List.length_filter_le _ _) (by omega)
      refine gk_freeze _ (by intro _; first | ((repeat (first | with_reducible exact Upd.here _ | with_reducible apply Upd.there)); done) | ((repeat (first | exact Upd.here _ | apply Upd.there)); done) | fail) (fun KA kc hKA hKA1 hKA2 hKA3 => ?_); subst hKA
      refine gk_share (φ := sl KA 1 E (keepF st S)) (by repeat (first | with_reducible exact Sel.here | with_reducible apply Sel.there)) ?_
      have e1 := hitS_of hNI.nms nm
      have e2 := hitI_of hNI.ids id
      have c1 := fun w h => nid_any t T1 l nm w hNI h
      have c2 := fun w h => nname_any t T1 l id w hNI h
      have c3 := fun w h => of_any A n c l nm w hn (by omega) h
      have c4 := fun w h => by_any A n c l id w hn (by omega) h
      generalize ((l.find? (fun y => decide (y.s = nm))).map (·.id)).getD 0 = vid at e1 c1
      generalize posF (pS nm) l = p1 at e1 c3
      generalize tB (∃ y, y ∈ l ∧ y.s = nm) = b1 at e1 c1
      generalize ((l.find? (fun y => decide (y.id = id))).map (·.s)).getD noS = vs at e2 c2
      generalize posF (pI id) l = p2 at e2 c4
      generalize tB (∃ y, y ∈ l ∧ y.id = id) = b2 at e2 c2
      (repeat' (first | (refine gG ?_; try intro _) | ((first | refine g_split rfl rfl tE (fun _ => ?_) (fun _ => ?_) | refine gk_cond rfl rfl tE (fun _ => ?_) (fun _ => ?_)) <;> (try first | (exfalso; omega; done) | (rename_i hx; exact absurd rfl hx) | (rename_i hx; cases hx; done)))))
      refine g_mv rfl ?_; refine mv_call_bel (fun w hk => c1 w (hk.rR (φ := ntF t T1) mE)) rfl rfl rfl rfl rfl (by kernel_rfl) ?_
      (repeat (refine gG ?_; try intro _))
      refine g_mv rfl ?_; refine mv_call_bel (fun w hk => c2 w (hk.rR (φ := ntF t T1) mE)) rfl rfl rfl rfl rfl (by kernel_rfl) ?_
      (repeat (refine gG ?_; try intro _))
      refine gk_any [0, 1, 2, 3, 4] (Cut _ (fun _ : Unit => [(0, .pointer (some ⟨t, 0, none⟩)), (1, .slice A n c), (3, .string st), (6, .pointer (some ⟨g6, 0, none⟩)), (9, .slice SA S.length sc), (10, .slice KA (keepF st S).length kc), (13, .int .i64 vid), (14, .bool b1), (15, .string vs), (16, .bool b2), (17, .int .i64 p1), (18, .int .i64 p2)]) (fun _ => [blk g6 [.bool d, .int .i64 id, .string nm] 69]) (fun _ => [ntF t T1, sl A 2 NE l, sl SA 1 E S, sl KA 1 E (keepF st S)])) rfl rfl (by kernel_rfl) ?_ (cut_k fun _ => ?_)
      · skip
        refine gb_take 0 rfl (by decide +kernel) rfl rfl (ys_ev (nw := true) hT rfl sI) sF ?_
        refine gb_take 1 rfl (by decide +kernel) rfl rfl (ys_ev (nw := true) hT rfl sI) sF ?_
        refine gb_take 2 rfl (by decide +kernel) rfl rfl (by first | exact ys_blk hT rfl rfl mE rfl rfl | exact ys_row hT rfl rfl mE rfl rfl | exact ys_row0 hT rfl rfl mE rfl rfl) sF ?_
        refine gb_take 4 rfl (by decide +kernel) rfl rfl (ys_ev (nw := true) hT rfl sI) sF ?_
        refine gb_take 5 rfl (by decide +kernel) rfl rfl (ys_ev (nw := true) hT rfl sI) sF ?_
        refine gb_take 6 rfl (by decide +kernel) rfl rfl (by first | exact ys_blk hT rfl rfl mE rfl rfl | exact ys_row hT rfl rfl mE rfl rfl | exact ys_row0 hT rfl rfl mE rfl rfl) sF ?_
        refine gb_only 3 (by decide +kernel) rfl rfl ?_
        refine mv_call_bel (fun w hk => c3 w (hk.rR (φ := sl A 2 NE l) mE)) rfl rfl rfl rfl rfl (by kernel_rfl) ?_
        refine ⟨sF, ?_⟩
        refine gb_only 7 (by decide +kernel) rfl rfl ?_
        refine mv_call_bel (fun w hk => c4 w (hk.rR (φ := sl A 2 NE l) mE)) rfl rfl rfl rfl rfl (by kernel_rfl) ?_
        refine ⟨sF, ?_⟩
        refine gb_take 8 rfl (by decide +kernel) rfl rfl (ys_ev (nw := true) hT rfl sI) sF ?_
        refine gb_take 9 rfl (by decide +kernel) rfl rfl (ys_ev (nw := true) hT rfl sI) sF ?_
        refine gb_nil (by decide +kernel) ?_
        exact ⟨(), (by repeat (first | exact trivial | refine ⟨rfl, ?_⟩)), sA, sS⟩
      · have fin : ∀ (P : Prop), P → P := fun _ h => h
        rcases e1 with ⟨rfl, i1, y1, rfl, hy1, rfl⟩ | ⟨rfl, rfl, rfl⟩
        · rcases e2 with ⟨rfl, i2, y2, rfl, hy2, rfl⟩ | ⟨rfl, rfl, rfl⟩
          · as_aux_lemma =>
            have hi1 : i1 < n := by have := (List.getElem?_eq_some_iff.1 hy1).1; omega
            refine gk_elem (enc := NE) (L := l) i1 mE (by have := (List.getElem?_eq_some_iff.1 hy1).1; omega) (by decide) (fun g1 o1 z1 eA1 hz1 => ?_)
            subst eA1
            obtain rfl : y1 = z1 := by rw [hy1] at hz1; exact Option.some.inj hz1
            have hi2 : i2 < n := by have := (List.getElem?_eq_some_iff.1 hy2).1; omega
            refine gk_elem (enc := NE) (L := l) i2 mE (by have := (List.getElem?_eq_some_iff.1 hy2).1; omega) (by decide) (fun g2 o2 z2 eA2 hz2 => ?_)
            cases eA2
            obtain rfl : y2 = z2 := by rw [hy2] at hz2; exact Option.some.inj hz2
            (repeat (refine gG ?_; try intro _))
            (first | refine g_say 93 (.bool false) rfl (by first | rfl | exact congrArg Value.bool (tB_false (fun h => h rfl)) | exact congrArg Value.bool (tB_false (by omega)) | exact congrArg Value.bool (tB_false (fun h => h (tB_true (by omega)).symm)) | exact congrArg Value.bool (tB_false (fun h => h (tB_false (by omega)).symm))) ?_ | refine gk_say 93 (.bool false) rfl (by first | rfl | exact congrArg Value.bool (tB_false (fun h => h rfl)) | exact congrArg Value.bool (tB_false (by omega)) | exact congrArg Value.bool (tB_false (fun h => h (tB_true (by omega)).symm)) | exact congrArg Value.bool (tB_false (fun h => h (tB_false (by omega)).symm))) ?_ | skip)
            (repeat (refine gG ?_; try intro _))
            (first | refine g_say 105 (.bool false) rfl (by first | rfl | exact congrArg Value.bool (tB_false (fun h => h rfl)) | exact congrArg Value.bool (tB_false (by omega)) | exact congrArg Value.bool (tB_false (fun h => h (tB_true (by omega)).symm)) | exact congrArg Value.bool (tB_false (fun h => h (tB_false (by omega)).symm))) ?_ | refine gk_say 105 (.bool false) rfl (by first | rfl | exact congrArg Value.bool (tB_false (fun h => h rfl)) | exact congrArg Value.bool (tB_false (by omega)) | exact congrArg Value.bool (tB_false (fun h => h (tB_true (by omega)).symm)) | exact congrArg Value.bool (tB_false (fun h => h (tB_false (by omega)).symm))) ?_ | skip)
            (repeat (refine gG ?_; try intro _))
            (first | refine g_say 113 (.bool false) rfl (by first | rfl | exact congrArg Value.bool (tB_false (fun h => h rfl)) | exact congrArg Value.bool (tB_false (by omega)) | exact congrArg Value.bool (tB_false (fun h => h (tB_true (by omega)).symm)) | exact congrArg Value.bool (tB_false (fun h => h (tB_false (by omega)).symm))) ?_ | refine gk_say 113 (.bool false) rfl (by first | rfl | exact congrArg Value.bool (tB_false (fun h => h rfl)) | exact congrArg Value.bool (tB_false (by omega)) | exact congrArg Value.bool (tB_false (fun h => h (tB_true (by omega)).symm)) | exact congrArg Value.bool (tB_false (fun h => h (tB_false (by omega)).symm))) ?_ | skip)
            (repeat (refine gG ?_; try intro _))
            (first | refine g_say 119 (.bool false) rfl (by first | rfl | exact congrArg Value.bool (tB_false (fun h => h rfl)) | exact congrArg Value.bool (tB_false (by omega)) | exact congrArg Value.bool (tB_false (fun h => h (tB_true (by omega)).symm)) | exact congrArg Value.bool (tB_false (fun h => h (tB_false (by omega)).symm))) ?_ | refine gk_say 119 (.bool false) rfl (by first | rfl | exact congrArg Value.bool (tB_false (fun h => h rfl)) | exact congrArg Value.bool (tB_false (by omega)) | exact congrArg Value.bool (tB_false (fun h => h (tB_true (by omega)).symm)) | exact congrArg Value.bool (tB_false (fun h => h (tB_false (by omega)).symm))) ?_ | skip)
            (repeat (refine gG ?_; try intro _))
            (first | refine g_say 131 (.bool false) rfl (by first | rfl | exact congrArg Value.bool (tB_false (fun h => h rfl)) | exact congrArg Value.bool (tB_false (by omega)) | exact congrArg Value.bool (tB_false (fun h => h (tB_true (by omega)).symm)) | exact congrArg Value.bool (tB_false (fun h => h (tB_false (by omega)).symm))) ?_ | refine gk_say 131 (.bool false) rfl (by first | rfl | exact congrArg Value.bool (tB_false (fun h => h rfl)) | exact congrArg Value.bool (tB_false (by omega)) | exact congrArg Value.bool (tB_false (fun h => h (tB_true (by omega)).symm)) | exact congrArg Value.bool (tB_false (fun h => h (tB_false (by omega)).symm))) ?_ | skip)
            (repeat (refine gG ?_; try intro _))
            (first | refine g_say 138 (.bool false) rfl (by first | rfl | exact congrArg Value.bool (tB_false (fun h => h rfl)) | exact congrArg Value.bool (tB_false (by omega)) | exact congrArg Value.bool (tB_false (fun h => h (tB_true (by omega)).symm)) | exact congrArg Value.bool (tB_false (fun h => h (tB_false (by omega)).symm))) ?_ | refine gk_say 138 (.bool false) rfl (by first | rfl | exact congrArg Value.bool (tB_false (fun h => h rfl)) | exact congrArg Value.bool (tB_false (by omega)) | exact congrArg Value.bool (tB_false (fun h => h (tB_true (by omega)).symm)) | exact congrArg Value.bool (tB_false (fun h => h (tB_false (by omega)).symm))) ?_ | skip)
            (repeat (refine gG ?_; try intro _))
            (repeat' (first | (refine gG ?_; try intro _) | (refine g_mv rfl ?_; first | refine mv_call_bel (fun w hk => nlen_any t T1 l w hNI (hk.rR (φ := ntF t T1) mE)) rfl rfl rfl rfl rfl (by kernel_rfl) ?_) | ((first | refine g_split rfl rfl tE (fun _ => ?_) (fun _ => ?_) | refine gk_cond rfl rfl tE (fun _ => ?_) (fun _ => ?_)) <;> (try first | (exfalso; omega; done) | (rename_i hx; exact absurd rfl hx) | (rename_i hx; cases hx; done)))))
            refine g_mv rfl ?_; refine mv_call_rt (fun w hk => nall_any t T1 l w hNI (hk.rR (φ := ntF t T1) mE)) rfl rfl rfl rfl rfl (by kernel_rfl) (fun _ => rfl) (fun r hr => ?_)
            obtain ⟨v1, S1⟩ := r
            obtain rfl : S1 = S := SrtN.uniq hr hSN
            dsimp only
            (repeat' (first | (refine gG ?_; try intro _) | (refine g_mv rfl ?_; first | refine mv_call_bel (fun w hk => eqS_own v1 _ _ _ S1 w rfl (by omega) (hk.rO (φ := own 0 9 1 v1 E (S1)) mE) (hk.rR (φ := sl SA 1 E S1) mE)) rfl rfl rfl rfl rfl (by kernel_rfl) ?_) | ((first | refine g_split rfl rfl tE (fun _ => ?_) (fun _ => ?_) | refine gk_cond rfl rfl tE (fun _ => ?_) (fun _ => ?_)) <;> (try first | (exfalso; omega; done) | (rename_i hx; exact absurd rfl hx) | (rename_i hx; cases hx; done)))))
            refine g_mv rfl ?_; refine mv_call_rt (fun w hk => starting_any t T1 l st w hst hs9 hNI (hk.rR (φ := ntF t T1) mE)) rfl rfl rfl rfl rfl (by kernel_rfl) (fun _ => rfl) (fun r2 hr2 => ?_)
            obtain ⟨v2, K2⟩ := r2
            obtain ⟨S2, hS2, hK2⟩ := hr2
            obtain rfl : S2 = S1 := SrtN.uniq hS2 hSN
            dsimp only at hK2 ⊢
            subst hK2
            (repeat' (first | (refine gG ?_; try intro _) | (refine g_mv rfl ?_; first | refine mv_call_bel (fun w hk => eqS_own v2 _ _ _ (keepF st S2) w rfl (by omega) (hk.rO (φ := own 0 9 1 v2 E (keepF st S2)) mE) (hk.rR (φ := sl KA 1 E (keepF st S2)) mE)) rfl rfl rfl rfl rfl (by kernel_rfl) ?_) | ((first | refine g_split rfl rfl tE (fun _ => ?_) (fun _ => ?_) | refine gk_cond rfl rfl tE (fun _ => ?_) (fun _ => ?_)) <;> (try first | (exfalso; omega; done) | (rename_i hx; exact absurd rfl hx) | (rename_i hx; cases hx; done)))))
            refine gk_ret hT rfl rfl (.tmp rfl .nil) (fun w' hk => ?_)
            exact ⟨rfl, hk.toBelow⟩
          · as_aux_lemma =>
            have hi1 : i1 < n := by have := (List.getElem?_eq_some_iff.1 hy1).1; omega
            refine gk_elem (enc := NE) (L := l) i1 mE (by have := (List.getElem?_eq_some_iff.1 hy1).1; omega) (by decide) (fun g1 o1 z1 eA1 hz1 => ?_)
            subst eA1
            obtain rfl : y1 = z1 := by rw [hy1] at hz1; exact Option.some.inj hz1
            (repeat (refine gG ?_; try intro _))
            (first | refine g_say 93 (.bool false) rfl (by first | rfl | exact congrArg Value.bool (tB_false (fun h => h rfl)) | exact congrArg Value.bool (tB_false (by omega)) | exact congrArg Value.bool (tB_false (fun h => h (tB_true (by omega)).symm)) | exact congrArg Value.bool (tB_false (fun h => h (tB_false (by omega)).symm))) ?_ | refine gk_say 93 (.bool false) rfl (by first | rfl | exact congrArg Value.bool (tB_false (fun h => h rfl)) | exact congrArg Value.bool (tB_false (by omega)) | exact congrArg Value.bool (tB_false (fun h => h (tB_true (by omega)).symm)) | exact congrArg Value.bool (tB_false (fun h => h (tB_false (by omega)).symm))) ?_ | skip)
            (repeat (refine gG ?_; try intro _))
            (first | refine g_say 105 (.bool false) rfl (by first | rfl | exact congrArg Value.bool (tB_false (fun h => h rfl)) | exact congrArg Value.bool (tB_false (by omega)) | exact congrArg Value.bool (tB_false (fun h => h (tB_true (by omega)).symm)) | exact congrArg Value.bool (tB_false (fun h => h (tB_false (by omega)).symm))) ?_ | refine gk_say 105 (.bool false) rfl (by first | rfl | exact congrArg Value.bool (tB_false (fun h => h rfl)) | exact congrArg Value.bool (tB_false (by omega)) | exact congrArg Value.bool (tB_false (fun h => h (tB_true (by omega)).symm)) | exact congrArg Value.bool (tB_false (fun h => h (tB_false (by omega)).symm))) ?_ | skip)
            (repeat (refine gG ?_; try intro _))
            (first | refine g_say 113 (.bool false) rfl (by first | rfl | exact congrArg Value.bool (tB_false (fun h => h rfl)) | exact congrArg Value.bool (tB_false (by omega)) | exact congrArg Value.bool (tB_false (fun h => h (tB_true (by omega)).symm)) | exact congrArg Value.bool (tB_false (fun h => h (tB_false (by omega)).symm))) ?_ | refine gk_say 113 (.bool false) rfl (by first | rfl | exact congrArg Value.bool (tB_false (fun h => h rfl)) | exact congrArg Value.bool (tB_false (by omega)) | exact congrArg Value.bool (tB_false (fun h => h (tB_true (by omega)).symm)) | exact congrArg Value.bool (tB_false (fun h => h (tB_false (by omega)).symm))) ?_ | skip)
            (repeat (refine gG ?_; try intro _))
            (first | refine g_say 119 (.bool false) rfl (by first | rfl | exact congrArg Value.bool (tB_false (fun h => h rfl)) | exact congrArg Value.bool (tB_false (by omega)) | exact congrArg Value.bool (tB_false (fun h => h (tB_true (by omega)).symm)) | exact congrArg Value.bool (tB_false (fun h => h (tB_false (by omega)).symm))) ?_ | refine gk_say 119 (.bool false) rfl (by first | rfl | exact congrArg Value.bool (tB_false (fun h => h rfl)) | exact congrArg Value.bool (tB_false (by omega)) | exact congrArg Value.bool (tB_false (fun h => h (tB_true (by omega)).symm)) | exact congrArg Value.bool (tB_false (fun h => h (tB_false (by omega)).symm))) ?_ | skip)
            (repeat (refine gG ?_; try intro _))
            (first | refine g_say 131 (.bool false) rfl (by first | rfl | exact congrArg Value.bool (tB_false (fun h => h rfl)) | exact congrArg Value.bool (tB_false (by omega)) | exact congrArg Value.bool (tB_false (fun h => h (tB_true (by omega)).symm)) | exact congrArg Value.bool (tB_false (fun h => h (tB_false (by omega)).symm))) ?_ | refine gk_say 131 (.bool false) rfl (by first | rfl | exact congrArg Value.bool (tB_false (fun h => h rfl)) | exact congrArg Value.bool (tB_false (by omega)) | exact congrArg Value.bool (tB_false (fun h => h (tB_true (by omega)).symm)) | exact congrArg Value.bool (tB_false (fun h => h (tB_false (by omega)).symm))) ?_ | skip)
            (repeat (refine gG ?_; try intro _))
            (first | refine g_say 138 (.bool false) rfl (by first | rfl | exact congrArg Value.bool (tB_false (fun h => h rfl)) | exact congrArg Value.bool (tB_false (by omega)) | exact congrArg Value.bool (tB_false (fun h => h (tB_true (by omega)).symm)) | exact congrArg Value.bool (tB_false (fun h => h (tB_false (by omega)).symm))) ?_ | refine gk_say 138 (.bool false) rfl (by first | rfl | exact congrArg Value.bool (tB_false (fun h => h rfl)) | exact congrArg Value.bool (tB_false (by omega)) | exact congrArg Value.bool (tB_false (fun h => h (tB_true (by omega)).symm)) | exact congrArg Value.bool (tB_false (fun h => h (tB_false (by omega)).symm))) ?_ | skip)
            (repeat (refine gG ?_; try intro _))
            (repeat' (first | (refine gG ?_; try intro _) | (refine g_mv rfl ?_; first | refine mv_call_bel (fun w hk => nlen_any t T1 l w hNI (hk.rR (φ := ntF t T1) mE)) rfl rfl rfl rfl rfl (by kernel_rfl) ?_) | ((first | refine g_split rfl rfl tE (fun _ => ?_) (fun _ => ?_) | refine gk_cond rfl rfl tE (fun _ => ?_) (fun _ => ?_)) <;> (try first | (exfalso; omega; done) | (rename_i hx; exact absurd rfl hx) | (rename_i hx; cases hx; done)))))
            refine g_mv rfl ?_; refine mv_call_rt (fun w hk => nall_any t T1 l w hNI (hk.rR (φ := ntF t T1) mE)) rfl rfl rfl rfl rfl (by kernel_rfl) (fun _ => rfl) (fun r hr => ?_)
            obtain ⟨v1, S1⟩ := r
            obtain rfl : S1 = S := SrtN.uniq hr hSN
            dsimp only
            (repeat' (first | (refine gG ?_; try intro _) | (refine g_mv rfl ?_; first | refine mv_call_bel (fun w hk => eqS_own v1 _ _ _ S1 w rfl (by omega) (hk.rO (φ := own 0 9 1 v1 E (S1)) mE) (hk.rR (φ := sl SA 1 E S1) mE)) rfl rfl rfl rfl rfl (by kernel_rfl) ?_) | ((first | refine g_split rfl rfl tE (fun _ => ?_) (fun _ => ?_) | refine gk_cond rfl rfl tE (fun _ => ?_) (fun _ => ?_)) <;> (try first | (exfalso; omega; done) | (rename_i hx; exact absurd rfl hx) | (rename_i hx; cases hx; done)))))
            refine g_mv rfl ?_; refine mv_call_rt (fun w hk => starting_any t T1 l st w hst hs9 hNI (hk.rR (φ := ntF t T1) mE)) rfl rfl rfl rfl rfl (by kernel_rfl) (fun _ => rfl) (fun r2 hr2 => ?_)
            obtain ⟨v2, K2⟩ := r2
            obtain ⟨S2, hS2, hK2⟩ := hr2
            obtain rfl : S2 = S1 := SrtN.uniq hS2 hSN
            dsimp only at hK2 ⊢
            subst hK2
            (repeat' (first | (refine gG ?_; try intro _) | (refine g_mv rfl ?_; first | refine mv_call_bel (fun w hk => eqS_own v2 _ _ _ (keepF st S2) w rfl (by omega) (hk.rO (φ := own 0 9 1 v2 E (keepF st S2)) mE) (hk.rR (φ := sl KA 1 E (keepF st S2)) mE)) rfl rfl rfl rfl rfl (by kernel_rfl) ?_) | ((first | refine g_split rfl rfl tE (fun _ => ?_) (fun _ => ?_) | refine gk_cond rfl rfl tE (fun _ => ?_) (fun _ => ?_)) <;> (try first | (exfalso; omega; done) | (rename_i hx; exact absurd rfl hx) | (rename_i hx; cases hx; done)))))
            refine gk_ret hT rfl rfl (.tmp rfl .nil) (fun w' hk => ?_)
            exact ⟨rfl, hk.toBelow⟩
        · rcases e2 with ⟨rfl, i2, y2, rfl, hy2, rfl⟩ | ⟨rfl, rfl, rfl⟩
          · as_aux_lemma =>
            have hi2 : i2 < n := by have := (List.getElem?_eq_some_iff.1 hy2).1; omega
            refine gk_elem (enc := NE) (L := l) i2 mE (by have := (List.getElem?_eq_some_iff.1 hy2).1; omega) (by decide) (fun g2 o2 z2 eA2 hz2 => ?_)
            subst eA2
            obtain rfl : y2 = z2 := by rw [hy2] at hz2; exact Option.some.inj hz2
            (repeat (refine gG ?_; try intro _))
            (first | refine g_say 93 (.bool false) rfl (by first | rfl | exact congrArg Value.bool (tB_false (fun h => h rfl)) | exact congrArg Value.bool (tB_false (by omega)) | exact congrArg Value.bool (tB_false (fun h => h (tB_true (by omega)).symm)) | exact congrArg Value.bool (tB_false (fun h => h (tB_false (by omega)).symm))) ?_ | refine gk_say 93 (.bool false) rfl (by first | rfl | exact congrArg Value.bool (tB_false (fun h => h rfl)) | exact congrArg Value.bool (tB_false (by omega)) | exact congrArg Value.bool (tB_false (fun h => h (tB_true (by omega)).symm)) | exact congrArg Value.bool (tB_false (fun h => h (tB_false (by omega)).symm))) ?_ | skip)
            (repeat (refine gG ?_; try intro _))
            (first | refine g_say 105 (.bool false) rfl (by first | rfl | exact congrArg Value.bool (tB_false (fun h => h rfl)) | exact congrArg Value.bool (tB_false (by omega)) | exact congrArg Value.bool (tB_false (fun h => h (tB_true (by omega)).symm)) | exact congrArg Value.bool (tB_false (fun h => h (tB_false (by omega)).symm))) ?_ | refine gk_say 105 (.bool false) rfl (by first | rfl | exact congrArg Value.bool (tB_false (fun h => h rfl)) | exact congrArg Value.bool (tB_false (by omega)) | exact congrArg Value.bool (tB_false (fun h => h (tB_true (by omega)).symm)) | exact congrArg Value.bool (tB_false (fun h => h (tB_false (by omega)).symm))) ?_ | skip)
            (repeat (refine gG ?_; try intro _))
            (first | refine g_say 113 (.bool false) rfl (by first | rfl | exact congrArg Value.bool (tB_false (fun h => h rfl)) | exact congrArg Value.bool (tB_false (by omega)) | exact congrArg Value.bool (tB_false (fun h => h (tB_true (by omega)).symm)) | exact congrArg Value.bool (tB_false (fun h => h (tB_false (by omega)).symm))) ?_ | refine gk_say 113 (.bool false) rfl (by first | rfl | exact congrArg Value.bool (tB_false (fun h => h rfl)) | exact congrArg Value.bool (tB_false (by omega)) | exact congrArg Value.bool (tB_false (fun h => h (tB_true (by omega)).symm)) | exact congrArg Value.bool (tB_false (fun h => h (tB_false (by omega)).symm))) ?_ | skip)
            (repeat (refine gG ?_; try intro _))
            (first | refine g_say 119 (.bool false) rfl (by first | rfl | exact congrArg Value.bool (tB_false (fun h => h rfl)) | exact congrArg Value.bool (tB_false (by omega)) | exact congrArg Value.bool (tB_false (fun h => h (tB_true (by omega)).symm)) | exact congrArg Value.bool (tB_false (fun h => h (tB_false (by omega)).symm))) ?_ | refine gk_say 119 (.bool false) rfl (by first | rfl | exact congrArg Value.bool (tB_false (fun h => h rfl)) | exact congrArg Value.bool (tB_false (by omega)) | exact congrArg Value.bool (tB_false (fun h => h (tB_true (by omega)).symm)) | exact congrArg Value.bool (tB_false (fun h => h (tB_false (by omega)).symm))) ?_ | skip)
            (repeat (refine gG ?_; try intro _))
            (first | refine g_say 131 (.bool false) rfl (by first | rfl | exact congrArg Value.bool (tB_false (fun h => h rfl)) | exact congrArg Value.bool (tB_false (by omega)) | exact congrArg Value.bool (tB_false (fun h => h (tB_true (by omega)).symm)) | exact congrArg Value.bool (tB_false (fun h => h (tB_false (by omega)).symm))) ?_ | refine gk_say 131 (.bool false) rfl (by first | rfl | exact congrArg Value.bool (tB_false (fun h => h rfl)) | exact congrArg Value.bool (tB_false (by omega)) | exact congrArg Value.bool (tB_false (fun h => h (tB_true (by omega)).symm)) | exact congrArg Value.bool (tB_false (fun h => h (tB_false (by omega)).symm))) ?_ | skip)
            (repeat (refine gG ?_; try intro _))
            (first | refine g_say 138 (.bool false) rfl (by first | rfl | exact congrArg Value.bool (tB_false (fun h => h rfl)) | exact congrArg Value.bool (tB_false (by omega)) | exact congrArg Value.bool (tB_false (fun h => h (tB_true (by omega)).symm)) | exact congrArg Value.bool (tB_false (fun h => h (tB_false (by omega)).symm))) ?_ | refine gk_say 138 (.bool false) rfl (by first | rfl | exact congrArg Value.bool (tB_false (fun h => h rfl)) | exact congrArg Value.bool (tB_false (by omega)) | exact congrArg Value.bool (tB_false (fun h => h (tB_true (by omega)).symm)) | exact congrArg Value.bool (tB_false (fun h => h (tB_false (by omega)).symm))) ?_ | skip)
            (repeat (refine gG ?_; try intro _))
            (repeat' (first | (refine gG ?_; try intro _) | (refine g_mv rfl ?_; first | refine mv_call_bel (fun w hk => nlen_any t T1 l w hNI (hk.rR (φ := ntF t T1) mE)) rfl rfl rfl rfl rfl (by kernel_rfl) ?_) | ((first | refine g_split rfl rfl tE (fun _ => ?_) (fun _ => ?_) | refine gk_cond rfl rfl tE (fun _ => ?_) (fun _ => ?_)) <;> (try first | (exfalso; omega; done) | (rename_i hx; exact absurd rfl hx) | (rename_i hx; cases hx; done)))))
            refine g_mv rfl ?_; refine mv_call_rt (fun w hk => nall_any t T1 l w hNI (hk.rR (φ := ntF t T1) mE)) rfl rfl rfl rfl rfl (by kernel_rfl) (fun _ => rfl) (fun r hr => ?_)
            obtain ⟨v1, S1⟩ := r
            obtain rfl : S1 = S := SrtN.uniq hr hSN
            dsimp only
            (repeat' (first | (refine gG ?_; try intro _) | (refine g_mv rfl ?_; first | refine mv_call_bel (fun w hk => eqS_own v1 _ _ _ S1 w rfl (by omega) (hk.rO (φ := own 0 9 1 v1 E (S1)) mE) (hk.rR (φ := sl SA 1 E S1) mE)) rfl rfl rfl rfl rfl (by kernel_rfl) ?_) | ((first | refine g_split rfl rfl tE (fun _ => ?_) (fun _ => ?_) | refine gk_cond rfl rfl tE (fun _ => ?_) (fun _ => ?_)) <;> (try first | (exfalso; omega; done) | (rename_i hx; exact absurd rfl hx) | (rename_i hx; cases hx; done)))))
            refine g_mv rfl ?_; refine mv_call_rt (fun w hk => starting_any t T1 l st w hst hs9 hNI (hk.rR (φ := ntF t T1) mE)) rfl rfl rfl rfl rfl (by kernel_rfl) (fun _ => rfl) (fun r2 hr2 => ?_)
            obtain ⟨v2, K2⟩ := r2
            obtain ⟨S2, hS2, hK2⟩ := hr2
            obtain rfl : S2 = S1 := SrtN.uniq hS2 hSN
            dsimp only at hK2 ⊢
            subst hK2
            (repeat' (first | (refine gG ?_; try intro _) | (refine g_mv rfl ?_; first | refine mv_call_bel (fun w hk => eqS_own v2 _ _ _ (keepF st S2) w rfl (by omega) (hk.rO (φ := own 0 9 1 v2 E (keepF st S2)) mE) (hk.rR (φ := sl KA 1 E (keepF st S2)) mE)) rfl rfl rfl rfl rfl (by kernel_rfl) ?_) | ((first | refine g_split rfl rfl tE (fun _ => ?_) (fun _ => ?_) | refine gk_cond rfl rfl tE (fun _ => ?_) (fun _ => ?_)) <;> (try first | (exfalso; omega; done) | (rename_i hx; exact absurd rfl hx) | (rename_i hx; cases hx; done)))))
            refine gk_ret hT rfl rfl (.tmp rfl .nil) (fun w' hk => ?_)
            exact ⟨rfl, hk.toBelow⟩
          · as_aux_lemma =>
            (repeat (refine gG ?_; try intro _))
            (first | refine g_say 93 (.bool false) rfl (by first | rfl | exact congrArg Value.bool (tB_false (fun h => h rfl)) | exact congrArg Value.bool (tB_false (by omega)) | exact congrArg Value.bool (tB_false (fun h => h (tB_true (by omega)).symm)) | exact congrArg Value.bool (tB_false (fun h => h (tB_false (by omega)).symm))) ?_ | refine gk_say 93 (.bool false) rfl (by first | rfl | exact congrArg Value.bool (tB_false (fun h => h rfl)) | exact congrArg Value.bool (tB_false (by omega)) | exact congrArg Value.bool (tB_false (fun h => h (tB_true (by omega)).symm)) | exact congrArg Value.bool (tB_false (fun h => h (tB_false (by omega)).symm))) ?_ | skip)
            (repeat (refine gG ?_; try intro _))
            (first | refine g_say 105 (.bool false) rfl (by first | rfl | exact congrArg Value.bool (tB_false (fun h => h rfl)) | exact congrArg Value.bool (tB_false (by omega)) | exact congrArg Value.bool (tB_false (fun h => h (tB_true (by omega)).symm)) | exact congrArg Value.bool (tB_false (fun h => h (tB_false (by omega)).symm))) ?_ | refine gk_say 105 (.bool false) rfl (by first | rfl | exact congrArg Value.bool (tB_false (fun h => h rfl)) | exact congrArg Value.bool (tB_false (by omega)) | exact congrArg Value.bool (tB_false (fun h => h (tB_true (by omega)).symm)) | exact congrArg Value.bool (tB_false (fun h => h (tB_false (by omega)).symm))) ?_ | skip)
            (repeat (refine gG ?_; try intro _))
            (first | refine g_say 113 (.bool false) rfl (by first | rfl | exact congrArg Value.bool (tB_false (fun h => h rfl)) | exact congrArg Value.bool (tB_false (by omega)) | exact congrArg Value.bool (tB_false (fun h => h (tB_true (by omega)).symm)) | exact congrArg Value.bool (tB_false (fun h => h (tB_false (by omega)).symm))) ?_ | refine gk_say 113 (.bool false) rfl (by first | rfl | exact congrArg Value.bool (tB_false (fun h => h rfl)) | exact congrArg Value.bool (tB_false (by omega)) | exact congrArg Value.bool (tB_false (fun h => h (tB_true (by omega)).symm)) | exact congrArg Value.bool (tB_false (fun h => h (tB_false (by omega)).symm))) ?_ | skip)
            (repeat (refine gG ?_; try intro _))
            (first | refine g_say 119 (.bool false) rfl (by first | rfl | exact congrArg Value.bool (tB_false (fun h => h rfl)) | exact congrArg Value.bool (tB_false (by omega)) | exact congrArg Value.bool (tB_false (fun h => h (tB_true (by omega)).symm)) | exact congrArg Value.bool (tB_false (fun h => h (tB_false (by omega)).symm))) ?_ | refine gk_say 119 (.bool false) rfl (by first | rfl | exact congrArg Value.bool (tB_false (fun h => h rfl)) | exact congrArg Value.bool (tB_false (by omega)) | exact congrArg Value.bool (tB_false (fun h => h (tB_true (by omega)).symm)) | exact congrArg Value.bool (tB_false (fun h => h (tB_false (by omega)).symm))) ?_ | skip)
            (repeat (refine gG ?_; try intro _))
            (first | refine g_say 131 (.bool false) rfl (by first | rfl | exact congrArg Value.bool (tB_false (fun h => h rfl)) | exact congrArg Value.bool (tB_false (by omega)) | exact congrArg Value.bool (tB_false (fun h => h (tB_true (by omega)).symm)) | exact congrArg Value.bool (tB_false (fun h => h (tB_false (by omega)).symm))) ?_ | refine gk_say 131 (.bool false) rfl (by first | rfl | exact congrArg Value.bool (tB_false (fun h => h rfl)) | exact congrArg Value.bool (tB_false (by omega)) | exact congrArg Value.bool (tB_false (fun h => h (tB_true (by omega)).symm)) | exact congrArg Value.bool (tB_false (fun h => h (tB_false (by omega)).symm))) ?_ | skip)
            (repeat (refine gG ?_; try intro _))
            (first | refine g_say 138 (.bool false) rfl (by first | rfl | exact congrArg Value.bool (tB_false (fun h => h rfl)) | exact congrArg Value.bool (tB_false (by omega)) | exact congrArg Value.bool (tB_false (fun h => h (tB_true (by omega)).symm)) | exact congrArg Value.bool (tB_false (fun h => h (tB_false (by omega)).symm))) ?_ | refine gk_say 138 (.bool false) rfl (by first | rfl | exact congrArg Value.bool (tB_false (fun h => h rfl)) | exact congrArg Value.bool (tB_false (by omega)) | exact congrArg Value.bool (tB_false (fun h => h (tB_true (by omega)).symm)) | exact congrArg Value.bool (tB_false (fun h => h (tB_false (by omega)).symm))) ?_ | skip)
            (repeat (refine gG ?_; try intro _))
            (repeat' (first | (refine gG ?_; try intro _) | (refine g_mv rfl ?_; first | refine mv_call_bel (fun w hk => nlen_any t T1 l w hNI (hk.rR (φ := ntF t T1) mE)) rfl rfl rfl rfl rfl (by kernel_rfl) ?_) | ((first | refine g_split rfl rfl tE (fun _ => ?_) (fun _ => ?_) | refine gk_cond rfl rfl tE (fun _ => ?_) (fun _ => ?_)) <;> (try first | (exfalso; omega; done) | (rename_i hx; exact absurd rfl hx) | (rename_i hx; cases hx; done)))))
            refine g_mv rfl ?_; refine mv_call_rt (fun w hk => nall_any t T1 l w hNI (hk.rR (φ := ntF t T1) mE)) rfl rfl rfl rfl rfl (by kernel_rfl) (fun _ => rfl) (fun r hr => ?_)
            obtain ⟨v1, S1⟩ := r
            obtain rfl : S1 = S := SrtN.uniq hr hSN
            dsimp only
            (repeat' (first | (refine gG ?_; try intro _) | (refine g_mv rfl ?_; first | refine mv_call_bel (fun w hk => eqS_own v1 _ _ _ S1 w rfl (by omega) (hk.rO (φ := own 0 9 1 v1 E (S1)) mE) (hk.rR (φ := sl SA 1 E S1) mE)) rfl rfl rfl rfl rfl (by kernel_rfl) ?_) | ((first | refine g_split rfl rfl tE (fun _ => ?_) (fun _ => ?_) | refine gk_cond rfl rfl tE (fun _ => ?_) (fun _ => ?_)) <;> (try first | (exfalso; omega; done) | (rename_i hx; exact absurd rfl hx) | (rename_i hx; cases hx; done)))))
            refine g_mv rfl ?_; refine mv_call_rt (fun w hk => starting_any t T1 l st w hst hs9 hNI (hk.rR (φ := ntF t T1) mE)) rfl rfl rfl rfl rfl (by kernel_rfl) (fun _ => rfl) (fun r2 hr2 => ?_)
            obtain ⟨v2, K2⟩ := r2
            obtain ⟨S2, hS2, hK2⟩ := hr2
            obtain rfl : S2 = S1 := SrtN.uniq hS2 hSN
            dsimp only at hK2 ⊢
            subst hK2
            (repeat' (first | (refine gG ?_; try intro _) | (refine g_mv rfl ?_; first | refine mv_call_bel (fun w hk => eqS_own v2 _ _ _ (keepF st S2) w rfl (by omega) (hk.rO (φ := own 0 9 1 v2 E (keepF st S2)) mE) (hk.rR (φ := sl KA 1 E (keepF st S2)) mE)) rfl rfl rfl rfl rfl (by kernel_rfl) ?_) | ((first | refine g_split rfl rfl tE (fun _ => ?_) (fun _ => ?_) | refine gk_cond rfl rfl tE (fun _ => ?_) (fun _ => ?_)) <;> (try first | (exfalso; omega; done) | (rename_i hx; exact absurd rfl hx) | (rename_i hx; cases hx; done)))))
            refine gk_ret hT rfl rfl (.tmp rfl .nil) (fun w' hk => ?_)
            exact ⟨rfl, hk.toBelow⟩
end Go.Proofs.Ytdkgmgfadpnhbaa.Nm

