/- Law 30: what a crash leaves. -/
import Derived.Test.YteajefmnbalofaaTx4
import Derived.Test.YteajefmnbalofaaDk4
namespace Go.Proofs.Yteajefmnbalofaa.TxC
open Go.RowKit Mem Gx Dk OpA Rec Bytes Tx
set_option linter.unusedVariables false
set_option linter.unusedSimpArgs false
set_option maxRecDepth 100000
set_option maxHeartbeats 8000000
theorem joinR {X : Cx} {ops rest : List Oper} {k : List KI} {ι : Type} (P : ι → Prop) (F : ι → Fr) (OO RR : ι → List Fact) {q : Prop} (r : Later (∀ i, P i → G X ops rest k (F i) (OO i) (RR i)) → q) (g : ∀ i, P i → G X ops rest k (F i) (OO i) (RR i)) : q := r ⟨g⟩
/-- What the law appends. -/
def opCr (j : Nat) : OpD := ⟨1, 0, 0, 0, 1 + (j : Int), 0, ⟨none, 0, 0⟩, [], ⟨none, 0, 0⟩, []⟩
def rcs (gn fs j : Nat) : RecD := ⟨(gn : Int), ((fs + j : Nat) : Int), 5, opCr j⟩
noncomputable def PGc (gn fs j : Nat) : Sec := pgOf (rcs gn fs j)
theorem cr_ok (j : Nat) : (opCr j).Ok := ⟨⟨rfl, Nat.le_refl _, Nat.zero_le _, fun _ => rfl⟩, ⟨rfl, Nat.le_refl _, Nat.zero_le _, fun _ => rfl⟩⟩
theorem cr_looks (j : Nat) : looks (opCr j).k = [110] := by unfold looks opCr; simp
theorem cr_h {j : Nat} (hj : j ≤ 20) : 1 ≤ (opCr j).k ∧ (opCr j).k ≤ 14 ∧ rrightB (opCr j) = true := by
  refine ⟨(by show (1 : Int) ≤ 1; decide), (by show (1 : Int) ≤ 14; decide), ?_⟩
  unfold rrightB
  rw [cr_looks]
  simp [opCr, mayB, tB_eq, countB]
  omega
theorem cr_plain (j : Nat) : PlainAt (opCr j) (looks (opCr j).k) (opCr j) := by
  rw [cr_looks]
  exact ⟨rfl, rfl, rfl, rfl, rfl, rfl, rfl, rfl, cr_ok j⟩
theorem cr_bd {gn fs j : Nat} (h1 : gn ≤ 18446744073709551615) (h2 : fs + j ≤ 18446744073709551615) (hj : j ≤ 20) : (rcs gn fs j).Bd := by
  refine ⟨⟨?_, ?_⟩, ⟨?_, ?_⟩, ⟨?_, ?_⟩, ⟨⟨?_, ?_⟩, ⟨?_, ?_⟩, ⟨?_, ?_⟩, ⟨?_, ?_⟩, ⟨?_, ?_⟩, ⟨?_, ?_⟩, IsB.nil⟩⟩ <;> (unfold rcs; try unfold opCr) <;> dsimp only <;> omega
theorem cr_r {gn fs j : Nat} (h1 : gn ≤ 18446744073709551615) (h2 : fs + j ≤ 18446744073709551615) (hj : j ≤ 20) : RcI (rcs gn fs j) (PGc gn fs j) ∧ (rcs gn fs j).g = (gn : Int) ∧ (rcs gn fs j).l = ((fs + j : Nat) : Int) :=
  ⟨rcI_any (rcs gn fs j) (cr_bd h1 h2 hj) (cr_h hj) (Nat.zero_le _) (Nat.zero_le _) (cr_plain j), rfl, rfl⟩
/-- What is known behind i events, of which so many may be sure. -/
structure CrI (S : List SecD) (W : List WrD) (z gn fs s i : Nat) : Prop where
  d : DkOk S W
  l : S.length = 30
  m : ∃ m, (i ≤ s ∧ m = 0 ∨ s < i ∧ m = s) ∧ (∀ j, j < z → (S.map SecD.L)[plc fs z j]? = some (if j < m then PGc gn fs j else zeroS)) ∧ W.map WrD.c = wrs (plc fs z) (PGc gn fs) m (i - m)
theorem CrI.w {S : List SecD} {W : List WrD} {z gn fs s i : Nat} (h : CrI S W z gn fs s i) : W.length ≤ i := by
  obtain ⟨m, _, _, h3⟩ := h.m
  have := congrArg List.length h3
  rw [wrs_len, List.length_map] at this
  omega
/-- Flushed: all that was appended is sure. -/
structure CrF (S : List SecD) (z gn fs s : Nat) : Prop where
  d : DkOk S []
  l : S.length = 30
  t : ∀ j, j < z → (S.map SecD.L)[plc fs z j]? = some (if j < s then PGc gn fs j else zeroS)
theorem plc_lt {fs z j : Nat} (hz : 0 < z) (hz9 : z ≤ 20) : plc fs z j < 30 := by have := Nat.mod_lt (fs + j) hz; unfold plc; omega
theorem each_map {p : Nat → Bool} {S S' : List SecD} {W : List WrD} (h : S'.map SecD.L = eachC p 0 (W.map WrD.c) (S.map SecD.L)) : True := trivial
theorem CrI.flush {S S' : List SecD} {W : List WrD} {z gn fs s : Nat} (hz : 0 < z) (hz9 : z ≤ 20) (hs : s ≤ z) (h : CrI S W z gn fs s s) (h1 : ∀ d ∈ S', d.Ok) (h2 : S'.length = S.length) (h3 : S'.map SecD.L = eachC (fun _ => true) 0 (W.map WrD.c) (S.map SecD.L)) : CrF S' z gn fs s := by
  obtain ⟨m, hm, ht, hw⟩ := h.m
  obtain rfl : m = 0 := by omega
  have hl := h.l
  refine ⟨⟨h1, (fun x h => by cases h), by omega⟩, by omega, fun j hj => ?_⟩
  rw [h3, hw, wrs_each (fun _ => true) (z := z) (fun i j hi hj h => plc_ne hz hi hj h) (fun j hj => by rw [List.length_map, hl]; exact plc_lt hz hz9) (s - 0) (by omega) j hj, ht j hj]
  by_cases c : j < s
  · rw [if_pos ⟨Nat.zero_le _, by omega, rfl⟩, if_pos c]
  · rw [if_neg (fun h => by have := h.2.1; omega), if_neg (Nat.not_lt_zero _), if_neg c]
theorem CrF.i {S : List SecD} {z gn fs s : Nat} (h : CrF S z gn fs s) : ∃ m, (m = s) ∧ (∀ j, j < z → (S.map SecD.L)[plc fs z j]? = some (if j < m then PGc gn fs j else zeroS)) ∧ ([] : List WrD).map WrD.c = wrs (plc fs z) (PGc gn fs) m (s - m) := ⟨s, rfl, h.t, by rw [Nat.sub_self]; rfl⟩
/-- Ahead of an append. -/
structure CrJ (S : List SecD) (W : List WrD) (z gn fs s i : Nat) : Prop where
  d : DkOk S W
  l : S.length = 30
  m : ∃ m, (i < s ∧ m = 0 ∨ s ≤ i ∧ m = s) ∧ (∀ j, j < z → (S.map SecD.L)[plc fs z j]? = some (if j < m then PGc gn fs j else zeroS)) ∧ W.map WrD.c = wrs (plc fs z) (PGc gn fs) m (i - m)
theorem CrJ.w {S : List SecD} {W : List WrD} {z gn fs s i : Nat} (h : CrJ S W z gn fs s i) : W.length ≤ i := by
  obtain ⟨m, _, _, h3⟩ := h.m
  have := congrArg List.length h3
  rw [wrs_len, List.length_map] at this
  omega
theorem CrI.j {S : List SecD} {W : List WrD} {z gn fs s i : Nat} (h : CrI S W z gn fs s i) (hi : i ≠ s) : CrJ S W z gn fs s i := by
  obtain ⟨m, hm, ht, hw⟩ := h.m
  exact ⟨h.d, h.l, m, by omega, ht, hw⟩
theorem CrF.j {S : List SecD} {z gn fs s : Nat} (h : CrF S z gn fs s) : CrJ S [] z gn fs s s := by
  obtain ⟨m, hm, ht, hw⟩ := h.i
  exact ⟨h.d, h.l, m, .inr ⟨Nat.le_refl _, hm⟩, ht, hw⟩
theorem CrJ.snoc {S : List SecD} {W : List WrD} {z gn fs s i : Nat} {d : SecD} (hz : 0 < z) (hz9 : z ≤ 20) (h : CrJ S W z gn fs s i) (hd : d.Ok) (hL : d.L = PGc gn fs i) : CrI S (W ++ [(⟨plc fs z i, d⟩ : WrD)]) z gn fs s (i + 1) := by
  obtain ⟨m, hm, ht, hw⟩ := h.m
  refine ⟨dk_snoc h.d (by rw [h.l]; exact plc_lt hz hz9) hd, h.l, m, by omega, ht, ?_⟩
  rw [List.map_append, hw, show i + 1 - m = (i - m) + 1 by omega, wrs, show m + (i - m) = i by omega, ← hL]
  rfl
/-- What a crash leaves. -/
def HasC (K : List Bool) (s m j : Nat) : Prop := j < s ∨ (s ≤ j ∧ j < m ∧ K.getD (j - s) false = true)
theorem CrJ.crash {S S' : List SecD} {W : List WrD} {K : List Bool} {z gn fs s m : Nat} (hz : 0 < z) (hz9 : z ≤ 20) (hs : s ≤ m) (hm9 : m ≤ z) (hgn : gn ≤ 18446744073709551615) (hfs : fs + z ≤ 18446744073709551615) (h : CrJ S W z gn fs s m) (h1 : ∀ d ∈ S', d.Ok) (h2 : S'.length = S.length) (h3 : S'.map SecD.L = eachC (fun i => K.getD i false) 0 (W.map WrD.c) (S.map SecD.L)) :
    DkOk S' [] ∧ S'.length = 30 ∧ TabI (dread (S'.map SecD.L) []) z gn fs (PGc gn fs) (rcs gn fs) (HasC K s m) := by
  obtain ⟨n, hn, ht, hw⟩ := h.m
  obtain rfl : n = s := by omega
  have hl := h.l
  have key : ∀ j, j < z → dread (S'.map SecD.L) [] (plc fs z j) = if n ≤ j ∧ j < n + (m - n) ∧ K.getD (j - n) false = true then PGc gn fs j else if j < n then PGc gn fs j else zeroS := fun j hj => by
    show ((S'.map SecD.L)[plc fs z j]?).getD [] = _
    rw [h3, hw, wrs_each (fun i => K.getD i false) (z := z) (fun i j hi hj h => plc_ne hz hi hj h) (fun j hj => by rw [List.length_map, hl]; exact plc_lt hz hz9) (m - n) (by omega) j hj, ht j hj]
    split <;> rfl
  refine ⟨⟨h1, (fun x h => by cases h), by omega⟩, by omega, fun j hj => cr_r hgn (by omega) (by omega), fun j hj hh => ?_, fun j hj hh => ?_⟩
  · rw [key j hj]
    rcases hh with hh | hh
    · rw [if_neg (by omega), if_pos hh]
    · rw [if_pos ⟨hh.1, by omega, hh.2.2⟩]
  · rw [key j hj, if_neg (fun c => hh (.inr ⟨c.1, by omega, c.2.2⟩)), if_neg (fun c => hh (.inl c))]
structure StS where
  sv : Value
  lv : Value
  S : List SecD
  W : List WrD
theorem crash_any (sz : Int) (gn fs : Nat) (a1 a2 : Int) (kA : Option Addr) (kn kc : Nat) (K : List Bool) (w : World) (hgn : gn ≤ 18446744073709551615) (hkn : kn = K.length) (hs : Rd1 w ((sl kA 1 BoE K))) :
    Calls Try.prog 4 [.agg #[.int .i64 sz, .int .u64 (gn : Nat), .int .u64 (fs : Nat)], .agg #[.int .i64 a1, .int .i64 a2], .slice kA kn kc].toArray w fun e w' => e = .returned (.bool true) ∧ Below w.heap.size w w' := by
  refine g_enter0 T [] [] [(sl kA 1 BoE K)] Try.func4 rfl Try.ntmps4 rfl (Rds.cons hs .nil).kn ?_
  (repeat (refine gG ?_; try intro _))
  rename_i g3 g4
  refine gk_drawn_at [0, 1, 2] rfl rfl (by kernel_rfl) ?_
  (repeat (first | refine ga_nil (by decide +kernel) ?_ | refine ga_take (by decide +kernel) rfl rfl (ys_ev (nw := true) hT rfl sI) sF ?_ | refine ga_skip (by decide +kernel) rfl rfl sF ?_ | refine ga_take (by decide +kernel) rfl rfl (ys_blk hT rfl rfl mE rfl rfl) sF ?_ | refine ga_take (by decide +kernel) rfl rfl (ys_row hT rfl rfl mE rfl rfl) sF ?_ | refine ga_take (by decide +kernel) rfl rfl (ys_row0 hT rfl rfl mE rfl rfl) sF ?_ | (refine ga_mv (by decide +kernel) rfl ?_; (first | (refine mv_box rfl rfl rfl rfl ?_; intro _) | (refine mv_alloc rfl hT rfl rfl ?_; intro _) | refine mv_store hT rfl rfl rfl rfl rfl rfl sO rfl ?_ | (refine mv_buildSlice rfl hT rfl rfl rfl rfl rfl rfl rfl rfl ?_; intro _)); refine ⟨sF, ?_⟩) | refine ga_take (by decide +kernel) rfl rfl (ys_eql rfl rfl rfl rfl rfl (by kernel_rfl)) sF ?_ | refine ga_take (by decide +kernel) rfl rfl (ys_neq rfl rfl rfl rfl rfl (by kernel_rfl)) sF ?_))
  by_cases hbad : sz < 1 ∨ 20 < sz ∨ a1 < 0 ∨ sz < a1 ∨ a2 < 0 ∨ a1 < a2 ∨ 4611686018427387904 ≤ (fs : Int) ∨ 4611686018427387904 ≤ (gn : Int)
  ·
    --<bad
    as_aux_lemma =>
      (repeat' (first | (refine gG ?_; try intro _) | ((first | refine g_split rfl rfl tE (fun _ => ?_) (fun _ => ?_) | refine gk_cond rfl rfl tE (fun _ => ?_) (fun _ => ?_)) <;> (try first | (exfalso; omega; done) | (rename_i hx; exact absurd rfl hx) | (rename_i hx; cases hx; done)))))
      all_goals first | (exfalso; omega) | (refine gk_ret hT rfl rfl (.tmp rfl .nil) (fun w' hk => ?_); exact ⟨rfl, hk.toBelow⟩)
    -->bad
  obtain ⟨z, rfl⟩ := Int.eq_ofNat_of_zero_le (a := sz) (by omega)
  obtain ⟨m, rfl⟩ := Int.eq_ofNat_of_zero_le (a := a1) (by omega)
  obtain ⟨s, rfl⟩ := Int.eq_ofNat_of_zero_le (a := a2) (by omega)
  (repeat' (first | (refine gG ?_; try intro _) | ((first | refine g_split rfl rfl tE (fun _ => ?_) (fun _ => ?_) | refine gk_cond rfl rfl tE (fun _ => ?_) (fun _ => ?_)) <;> (try first | (exfalso; omega; done) | (rename_i hx; exact absurd rfl hx) | (rename_i hx; cases hx; done)))))
  refine g_mv rfl ?_; refine mv_call_rt (fun w hk => dnew_any 30 (by decide) (by decide) w) rfl rfl rfl rfl rfl (by kernel_rfl) (fun _ => rfl) (fun q hq => ?_)
  obtain ⟨g, sv0, S0⟩ := q
  obtain ⟨hS, hSm⟩ := hq
  obtain ⟨hSl, hdk⟩ := dk_new hS hSm (by decide)
  dsimp only at *
  have hz : 0 < z := by omega
  (repeat' (first | (refine gG ?_; try intro _) | ((first | refine g_split rfl rfl tE (fun _ => ?_) (fun _ => ?_) | refine gk_cond rfl rfl tE (fun _ => ?_) (fun _ => ?_)) <;> (try first | (exfalso; omega; done) | (rename_i hx; exact absurd rfl hx) | (rename_i hx; cases hx; done)))))
  refine g_mv rfl ?_; refine mv_call_rt (fun w hk => txnew_any g sv0 (.slice none 0 0) S0 [] z gn fs w (by omega) (by omega) (hk.rO (φ := dkF g ⟨sv0, .slice none 0 0, S0, []⟩) mE)) rfl rfl rfl rfl rfl (by kernel_rfl) (fun _ => rfl) (fun t ht => ?_)
  (repeat' (first | (refine gG ?_; try intro _) | ((first | refine g_split rfl rfl tE (fun _ => ?_) (fun _ => ?_) | refine gk_cond rfl rfl tE (fun _ => ?_) (fun _ => ?_)) <;> (try first | (exfalso; omega; done) | (rename_i hx; exact absurd rfl hx) | (rename_i hx; cases hx; done)))))
  refine gk_der [] (φ := (sl none 1 (IE .i64) ([] : List Int))) Dk.der_nil sS ?_
  refine gk_der [] (φ := (sl none 1 (IE .u8) ([] : List Int))) Dk.der_nil sS ?_
  have hI0 : CrI S0 [] z gn fs s 0 := ⟨hdk, hSl, 0, .inl ⟨Nat.zero_le _, rfl⟩, fun j hj => by rw [hSm, if_neg (Nat.not_lt_zero _), List.getElem?_replicate_of_lt (plc_lt hz (by omega))], rfl⟩
  refine gk_loop_sel (fun (q : Nat × StS) => match q with | (i, q) => (i ≤ m ∧ CrI q.S q.W z gn fs s i)) (fun (q : Nat × StS) => match q with | (i, q) => [(2, .slice kA kn kc), (3, .pointer (some ⟨g3, 0, none⟩)), (7, .int .i64 (m : Nat)), (8, .int .i64 (s : Nat)), (9, .pointer (some ⟨g, 0, none⟩)), (11, .pointer (some ⟨t, 0, none⟩)), (13, .int .i64 (i : Nat))]) (fun (q : Nat × StS) => match q with | (i, q) => [blk g3 [.int .i64 (z : Nat), .int .u64 (gn : Nat), .int .u64 (fs : Nat)] 24, blk t [.pointer (some ⟨g, 0, none⟩), .int .i64 (z : Nat), .int .u64 (gn : Nat), .int .u64 (fs : Nat), .int .u64 ((fs + i : Nat) : Int)] 78, dkF g ⟨q.sv, q.lv, q.S, q.W⟩]) (fun (q : Nat × StS) => match q with | (i, q) => [(sl kA 1 BoE K), (sl none 1 (IE .u8) ([] : List Int)), (sl none 1 (IE .i64) ([] : List Int))]) (fun (q : Nat × StS) => match q with | (i, q) => m - i) (0, ⟨sv0, .slice none 0 0, S0, []⟩) rfl ⟨Nat.zero_le _, hI0⟩ (by repeat (first | exact trivial | refine ⟨rfl, ?_⟩)) sA sS ?_
  rintro ⟨i, q⟩ hI
  replace hI : (i ≤ m ∧ CrI q.S q.W z gn fs s i) := hI
  change GK _ _ [(2, .slice kA kn kc), (3, .pointer (some ⟨g3, 0, none⟩)), (7, .int .i64 (m : Nat)), (8, .int .i64 (s : Nat)), (9, .pointer (some ⟨g, 0, none⟩)), (11, .pointer (some ⟨t, 0, none⟩)), (13, .int .i64 (i : Nat))] [blk g3 [.int .i64 (z : Nat), .int .u64 (gn : Nat), .int .u64 (fs : Nat)] 24, blk t [.pointer (some ⟨g, 0, none⟩), .int .i64 (z : Nat), .int .u64 (gn : Nat), .int .u64 (fs : Nat), .int .u64 ((fs + i : Nat) : Int)] 78, dkF g ⟨q.sv, q.lv, q.S, q.W⟩] [(sl kA 1 BoE K), (sl none 1 (IE .u8) ([] : List Int)), (sl none 1 (IE .i64) ([] : List Int))]
  obtain ⟨hi, hI⟩ := hI
  obtain ⟨sv, lv, S, W⟩ := q
  dsimp only at hI ⊢
  have hW := hI.w
  have hSl := hI.l
  have hD := hI.d
  by_cases hlt : i < m
  ·
    --<body
    as_aux_lemma =>
      apply joinR (fun q : StS => CrJ q.S q.W z gn fs s i) (fun q => [(2, .slice kA kn kc), (3, .pointer (some ⟨g3, 0, none⟩)), (7, .int .i64 (m : Nat)), (8, .int .i64 (s : Nat)), (9, .pointer (some ⟨g, 0, none⟩)), (11, .pointer (some ⟨t, 0, none⟩)), (13, .int .i64 (i : Nat)), (98, .pointer (some ⟨t, 0, none⟩)), (101, .agg #[.int .i64 1, .int .i64 0, .int .i64 0, .int .i64 0, .int .i64 (1 + (i : Int)), .int .u64 0, .slice none 0 0, .slice none 0 0])]) (fun q => [blk g3 [.int .i64 (z : Nat), .int .u64 (gn : Nat), .int .u64 (fs : Nat)] 24, blk t [.pointer (some ⟨g, 0, none⟩), .int .i64 (z : Nat), .int .u64 (gn : Nat), .int .u64 (fs : Nat), .int .u64 ((fs + i : Nat) : Int)] 78, dkF g ⟨q.sv, q.lv, q.S, q.W⟩]) (fun q => [(sl kA 1 BoE K), (sl none 1 (IE .u8) ([] : List Int)), (sl none 1 (IE .i64) ([] : List Int))])
      case r =>
        intro J
        by_cases his : i ≠ s
        · (repeat' (first | (refine gG ?_; try intro _) | ((first | refine g_split rfl rfl tE (fun _ => ?_) (fun _ => ?_) | refine gk_cond rfl rfl tE (fun _ => ?_) (fun _ => ?_)) <;> (try first | (exfalso; omega; done) | (rename_i hx; exact absurd rfl hx) | (rename_i hx; cases hx; done)))))
          have hJ := J.out ⟨sv, lv, S, W⟩ (hI.j his)
          dsimp only at hJ
          refine g_wk (by repeat (first | exact trivial | refine ⟨rfl, ?_⟩)) sA sS hJ
        · obtain rfl : i = s := Decidable.not_not.1 his
          (repeat' (first | (refine gG ?_; try intro _) | ((first | refine g_split rfl rfl tE (fun _ => ?_) (fun _ => ?_) | refine gk_cond rfl rfl tE (fun _ => ?_) (fun _ => ?_)) <;> (try first | (exfalso; omega; done) | (rename_i hx; exact absurd rfl hx) | (rename_i hx; cases hx; done)))))
          refine g_mv rfl (mv_call_mod (φ := dkF g ⟨sv, lv, S, W⟩) (ψ := fun q : Value × List SecD => dkF g ⟨q.1, .slice none 0 0, q.2, []⟩) (fun w hk => by exact dflush_any g sv lv S W w hD (by omega) (hk.rO (φ := dkF g ⟨sv, lv, S, W⟩) mE)) rfl rfl rfl rfl rfl (by kernel_rfl) (by intro _; first | ((repeat (first | with_reducible exact Upd.here _ | with_reducible apply Upd.there)); done) | ((repeat (first | exact Upd.here _ | apply Upd.there)); done) | fail) (fun q hq => ?_))
          obtain ⟨sv1, S1⟩ := q
          obtain ⟨q1, q2, q3⟩ := hq
          dsimp only at q1 q2 q3 ⊢
          have hF := hI.flush hz (by omega) (by omega) q1 q2 q3
          (repeat (refine gG ?_; try intro _))
          have hJ := J.out ⟨sv1, .slice none 0 0, S1, []⟩ hF.j
          dsimp only at hJ
          refine g_wk (by repeat (first | exact trivial | refine ⟨rfl, ?_⟩)) sA sS hJ
      case g =>
        clear hI hW hSl hD
        rintro ⟨sv, lv, S, W⟩ hJ
        dsimp only at hJ ⊢
        have hW := hJ.w
        have hSl := hJ.l
        have hD := hJ.d
        refine g_pack [blk t [.pointer (some ⟨g, 0, none⟩), .int .i64 (z : Nat), .int .u64 (gn : Nat), .int .u64 (fs : Nat), .int .u64 ((fs + i : Nat) : Int)] 78, dkF g ⟨sv, lv, S, W⟩] [blk g3 [.int .i64 (z : Nat), .int .u64 (gn : Nat), .int .u64 (fs : Nat)] 24] sA ?_
        refine g_mv rfl (mv_call_mod (φ := packF [blk t [.pointer (some ⟨g, 0, none⟩), .int .i64 (z : Nat), .int .u64 (gn : Nat), .int .u64 (fs : Nat), .int .u64 ((fs + i : Nat) : Int)] 78, dkF g ⟨sv, lv, S, W⟩]) (ψ := fun q : Value × SecD => packF [blk t [.pointer (some ⟨g, 0, none⟩), .int .i64 (z : Nat), .int .u64 (gn : Nat), .int .u64 (fs : Nat), .int .u64 ((fs + i + 1 : Nat) : Int)] 78, dkF g ⟨sv, q.1, S, W ++ [(⟨plc fs z i, q.2⟩ : WrD)]⟩]) (fun w hk => by exact txapp_put t g z gn fs (fs + i) 5 (opCr i) sv lv S W w (cr_ok i) (cr_bd (gn := gn) (fs := fs) (j := i) (by omega) (by omega) (by omega)) (Nat.zero_le _) (Nat.zero_le _) (cr_h (by omega)) (by omega) hz (by omega) (by omega) (by omega) hD (by omega) (by omega) (hk.rR (φ := (sl none 1 (IE .u8) ([] : List Int))) mE) (hk.rR (φ := (sl none 1 (IE .i64) ([] : List Int))) mE) (fun b hb => ⟨hk.disR _ mE (sl none 1 (IE .u8) ([] : List Int)) mE b hb, hk.disR _ mE (sl none 1 (IE .i64) ([] : List Int)) mE b hb⟩) (hk.rO (φ := packF [blk t [.pointer (some ⟨g, 0, none⟩), .int .i64 (z : Nat), .int .u64 (gn : Nat), .int .u64 (fs : Nat), .int .u64 ((fs + i : Nat) : Int)] 78, dkF g ⟨sv, lv, S, W⟩]) mE)) rfl rfl rfl rfl rfl (by kernel_rfl) (by intro _; first | ((repeat (first | with_reducible exact Upd.here _ | with_reducible apply Upd.there)); done) | ((repeat (first | exact Upd.here _ | apply Upd.there)); done) | fail) (fun q hq => ?_))
        obtain ⟨qv, qd⟩ := q
        obtain ⟨hd, hdL⟩ := hq
        dsimp only at hd hdL ⊢
        have hI2 := hJ.snoc hz (by omega) hd hdL
        refine g_unpack (l := [blk t [.pointer (some ⟨g, 0, none⟩), .int .i64 (z : Nat), .int .u64 (gn : Nat), .int .u64 (fs : Nat), .int .u64 ((fs + i + 1 : Nat) : Int)] 78, dkF g ⟨sv, qv, S, W ++ [(⟨plc fs z i, qd⟩ : WrD)]⟩]) (by repeat (first | with_reducible exact Sel.here | with_reducible apply Sel.there)) ?_
        (repeat (refine gG ?_; try intro _))
        rw [show fs + i + 1 = fs + (i + 1) from rfl]
        refine gk_again_sel rfl (i + 1, ⟨sv, qv, S, W ++ [(⟨plc fs z i, qd⟩ : WrD)]⟩) ⟨hlt, hI2⟩ (by dsimp only; omega) (by repeat (first | exact trivial | refine ⟨rfl, ?_⟩)) sA sS
    -->body
  obtain rfl : i = m := by omega
  --<rest
  apply joinR (fun q : StS => CrJ q.S q.W z gn fs s i) (fun q => [(2, .slice kA kn kc), (3, .pointer (some ⟨g3, 0, none⟩)), (7, .int .i64 (i : Nat)), (8, .int .i64 (s : Nat)), (9, .pointer (some ⟨g, 0, none⟩)), (108, .pointer (some ⟨g, 0, none⟩)), (109, .slice kA kn kc)]) (fun q => [blk g3 [.int .i64 (z : Nat), .int .u64 (gn : Nat), .int .u64 (fs : Nat)] 24, dkF g ⟨q.sv, q.lv, q.S, q.W⟩]) (fun q => [(sl kA 1 BoE K), (sl none 1 (IE .u8) ([] : List Int)), (sl none 1 (IE .i64) ([] : List Int))])
  case r =>
    intro J
    by_cases his : i ≠ s
    · (repeat' (first | (refine gG ?_; try intro _) | ((first | refine g_split rfl rfl tE (fun _ => ?_) (fun _ => ?_) | refine gk_cond rfl rfl tE (fun _ => ?_) (fun _ => ?_)) <;> (try first | (exfalso; omega; done) | (rename_i hx; exact absurd rfl hx) | (rename_i hx; cases hx; done)))))
      have hJ := J.out ⟨sv, lv, S, W⟩ (hI.j his)
      dsimp only at hJ
      refine g_wk (by repeat (first | exact trivial | refine ⟨rfl, ?_⟩)) sA sS hJ
    · obtain rfl : i = s := Decidable.not_not.1 his
      (repeat' (first | (refine gG ?_; try intro _) | ((first | refine g_split rfl rfl tE (fun _ => ?_) (fun _ => ?_) | refine gk_cond rfl rfl tE (fun _ => ?_) (fun _ => ?_)) <;> (try first | (exfalso; omega; done) | (rename_i hx; exact absurd rfl hx) | (rename_i hx; cases hx; done)))))
      refine g_mv rfl (mv_call_mod (φ := dkF g ⟨sv, lv, S, W⟩) (ψ := fun q : Value × List SecD => dkF g ⟨q.1, .slice none 0 0, q.2, []⟩) (fun w hk => by exact dflush_any g sv lv S W w hD (by omega) (hk.rO (φ := dkF g ⟨sv, lv, S, W⟩) mE)) rfl rfl rfl rfl rfl (by kernel_rfl) (by intro _; first | ((repeat (first | with_reducible exact Upd.here _ | with_reducible apply Upd.there)); done) | ((repeat (first | exact Upd.here _ | apply Upd.there)); done) | fail) (fun q hq => ?_))
      obtain ⟨sv1, S1⟩ := q
      obtain ⟨q1, q2, q3⟩ := hq
      dsimp only at q1 q2 q3 ⊢
      have hF := hI.flush hz (by omega) (by omega) q1 q2 q3
      (repeat (refine gG ?_; try intro _))
      have hJ := J.out ⟨sv1, .slice none 0 0, S1, []⟩ hF.j
      dsimp only at hJ
      refine g_wk (by repeat (first | exact trivial | refine ⟨rfl, ?_⟩)) sA sS hJ
  case g =>
    clear hI hW hSl hD
    rintro ⟨sv, lv, S, W⟩ hJ
    dsimp only at hJ ⊢
    have hW := hJ.w
    have hSl := hJ.l
    have hD := hJ.d
    refine g_mv rfl (mv_call_mod (φ := dkF g ⟨sv, lv, S, W⟩) (ψ := fun q : Value × List SecD => dkF g ⟨q.1, .slice none 0 0, q.2, []⟩) (fun w hk => by exact dcrash_any g sv lv S W kA kn kc K w hD (by omega) hkn (hk.rO (φ := dkF g ⟨sv, lv, S, W⟩) mE) (hk.rR (φ := (sl kA 1 BoE K)) mE) (fun b hb => hk.disR _ mE (sl kA 1 BoE K) mE b hb)) rfl rfl rfl rfl rfl (by kernel_rfl) (by intro _; first | ((repeat (first | with_reducible exact Upd.here _ | with_reducible apply Upd.there)); done) | ((repeat (first | exact Upd.here _ | apply Upd.there)); done) | fail) (fun q hq => ?_))
    obtain ⟨sv2, S2⟩ := q
    obtain ⟨q1, q2, q3⟩ := hq
    dsimp only at q1 q2 q3 ⊢
    obtain ⟨hD2, hl2, hTb⟩ := hJ.crash (K := K) hz (by omega) (by omega) (by omega) hgn (by omega) q1 q2 q3
    clear hJ hW hSl hD
    (repeat (refine gG ?_; try intro _))
    refine gk_loop_sel (fun (u : Nat) => (s ≤ u ∧ u ≤ i ∧ ∀ j, s ≤ j → j < u → K.getD (j - s) false = true)) (fun (u : Nat) => [(2, .slice kA kn kc), (3, .pointer (some ⟨g3, 0, none⟩)), (7, .int .i64 (i : Nat)), (8, .int .i64 (s : Nat)), (9, .pointer (some ⟨g, 0, none⟩)), (14, .int .i64 (u : Nat))]) (fun (u : Nat) => [blk g3 [.int .i64 (z : Nat), .int .u64 (gn : Nat), .int .u64 (fs : Nat)] 24, dkF g ⟨sv2, .slice none 0 0, S2, []⟩]) (fun (u : Nat) => [(sl kA 1 BoE K), (sl none 1 (IE .u8) ([] : List Int)), (sl none 1 (IE .i64) ([] : List Int))]) (fun (u : Nat) => i - u) s rfl ⟨Nat.le_refl _, by omega, fun j h1 h2 => by omega⟩ (by repeat (first | exact trivial | refine ⟨rfl, ?_⟩)) sA sS ?_
    rintro u hI
    replace hI : (s ≤ u ∧ u ≤ i ∧ ∀ j, s ≤ j → j < u → K.getD (j - s) false = true) := hI
    change GK _ _ [(2, .slice kA kn kc), (3, .pointer (some ⟨g3, 0, none⟩)), (7, .int .i64 (i : Nat)), (8, .int .i64 (s : Nat)), (9, .pointer (some ⟨g, 0, none⟩)), (14, .int .i64 (u : Nat))] [blk g3 [.int .i64 (z : Nat), .int .u64 (gn : Nat), .int .u64 (fs : Nat)] 24, dkF g ⟨sv2, .slice none 0 0, S2, []⟩] [(sl kA 1 BoE K), (sl none 1 (IE .u8) ([] : List Int)), (sl none 1 (IE .i64) ([] : List Int))]
    obtain ⟨hu1, hu2, hu3⟩ := hI
    apply joinR (fun _ : Unit => u < i → K.getD (u - s) false = false) (fun _ => [(2, .slice kA kn kc), (3, .pointer (some ⟨g3, 0, none⟩)), (7, .int .i64 (i : Nat)), (8, .int .i64 (s : Nat)), (9, .pointer (some ⟨g, 0, none⟩)), (14, .int .i64 (u : Nat)), (134, .pointer (some ⟨g, 0, none⟩)), (136, .int .i64 (z : Nat)), (138, .int .u64 (gn : Nat)), (140, .int .u64 (fs : Nat))]) (fun _ => [blk g3 [.int .i64 (z : Nat), .int .u64 (gn : Nat), .int .u64 (fs : Nat)] 24, dkF g ⟨sv2, .slice none 0 0, S2, []⟩]) (fun _ => [(sl kA 1 BoE K), (sl none 1 (IE .u8) ([] : List Int)), (sl none 1 (IE .i64) ([] : List Int))])
    case r =>
      intro J
      by_cases hui : ¬ u < i
      · (repeat' (first | (refine gG ?_; try intro _) | ((first | refine g_split rfl rfl tE (fun _ => ?_) (fun _ => ?_) | refine gk_cond rfl rfl tE (fun _ => ?_) (fun _ => ?_)) <;> (try first | (exfalso; omega; done) | (rename_i hx; exact absurd rfl hx) | (rename_i hx; cases hx; done)))))
        have hJ := J.out () (fun h => absurd h hui)
        refine g_wk (by repeat (first | exact trivial | refine ⟨rfl, ?_⟩)) sA sS hJ
      have hui := Decidable.not_not.1 hui
      by_cases hkl : ¬ u - s < kn
      · (repeat' (first | (refine gG ?_; try intro _) | ((first | refine g_split rfl rfl tE (fun _ => ?_) (fun _ => ?_) | refine gk_cond rfl rfl tE (fun _ => ?_) (fun _ => ?_)) <;> (try first | (exfalso; omega; done) | (rename_i hx; exact absurd rfl hx) | (rename_i hx; cases hx; done)))))
        have hJ := J.out () (fun _ => by rw [List.getD_eq_getElem?_getD, List.getElem?_eq_none (by omega)]; rfl)
        refine g_wk (by repeat (first | exact trivial | refine ⟨rfl, ?_⟩)) sA sS hJ
      have hkl := Decidable.not_not.1 hkl
      obtain ⟨b, hb⟩ : ∃ b, K[u - s]? = some b := ⟨K[u - s], List.getElem?_eq_getElem (by omega)⟩
      have hbd : K.getD (u - s) false = b := by rw [List.getD_eq_getElem?_getD, hb]; rfl
      refine gk_elem (A := kA) (enc := BoE) (L := K) (u - s) mE (by omega) (by decide) (fun kb ko y eA hy => ?_)
      subst eA
      obtain rfl : b = y := by rw [hb] at hy; exact Option.some.inj hy
      cases b with
      | false =>
        (repeat' (first | (refine gG ?_; try intro _) | ((first | refine g_split rfl rfl tE (fun _ => ?_) (fun _ => ?_) | refine gk_cond rfl rfl tE (fun _ => ?_) (fun _ => ?_)) <;> (try first | (exfalso; omega; done) | (rename_i hx; exact absurd rfl hx) | (rename_i hx; cases hx; done)))))
        refine g_say 128 (.pointer (some ⟨kb, ko + (u - s) * 1, none⟩)) rfl (by rw [show ((u : Int) - (s : Int)).toNat = u - s by omega]) ?_
        (repeat' (first | (refine gG ?_; try intro _) | ((first | refine g_split rfl rfl tE (fun _ => ?_) (fun _ => ?_) | refine gk_cond rfl rfl tE (fun _ => ?_) (fun _ => ?_)) <;> (try first | (exfalso; omega; done) | (rename_i hx; exact absurd rfl hx) | (rename_i hx; cases hx; done)))))
        have hJ := J.out () (fun _ => hbd)
        refine g_wk (by repeat (first | exact trivial | refine ⟨rfl, ?_⟩)) sA sS hJ
      | true =>
        (repeat' (first | (refine gG ?_; try intro _) | ((first | refine g_split rfl rfl tE (fun _ => ?_) (fun _ => ?_) | refine gk_cond rfl rfl tE (fun _ => ?_) (fun _ => ?_)) <;> (try first | (exfalso; omega; done) | (rename_i hx; exact absurd rfl hx) | (rename_i hx; cases hx; done)))))
        refine g_say 128 (.pointer (some ⟨kb, ko + (u - s) * 1, none⟩)) rfl (by rw [show ((u : Int) - (s : Int)).toNat = u - s by omega]) ?_
        (repeat' (first | (refine gG ?_; try intro _) | ((first | refine g_split rfl rfl tE (fun _ => ?_) (fun _ => ?_) | refine gk_cond rfl rfl tE (fun _ => ?_) (fun _ => ?_)) <;> (try first | (exfalso; omega; done) | (rename_i hx; exact absurd rfl hx) | (rename_i hx; cases hx; done)))))
        refine gk_again_sel rfl (u + 1) ⟨by omega, by omega, fun j h1 h2 => by
          by_cases e : j = u
          · subst e; exact hbd
          · exact hu3 j h1 (by omega)⟩ (by omega) (by repeat (first | exact trivial | refine ⟨rfl, ?_⟩)) sA sS
    case g =>
      rintro ⟨⟩ hend
      have hlog := hTb.log (n := u) (by omega) (fun j hj => by
        by_cases h : j < s
        · exact .inl h
        · exact .inr ⟨by omega, by omega, hu3 j (by omega) hj⟩) (fun _ hh => by
        rcases hh with hh | hh
        · omega
        · have := hend hh.2.1
          rw [hh.2.2] at this
          cases this)
      have hold := hTb.old hz
      have hsc := scan_same hlog z 0 rfl (Nat.zero_le _)
      refine g_mv rfl ?_; refine mv_call_rt (fun w hk => txnew_any g sv2 (.slice none 0 0) S2 [] z gn fs w (by omega) (by omega) (hk.rO (φ := dkF g ⟨sv2, .slice none 0 0, S2, []⟩) mE)) rfl rfl rfl rfl rfl (by kernel_rfl) (fun _ => rfl) (fun t2 ht2 => ?_)
      (repeat' (first | (refine gG ?_; try intro _) | ((first | refine g_split rfl rfl tE (fun _ => ?_) (fun _ => ?_) | refine gk_cond rfl rfl tE (fun _ => ?_) (fun _ => ?_)) <;> (try first | (exfalso; omega; done) | (rename_i hx; exact absurd rfl hx) | (rename_i hx; cases hx; done)))))
      refine g_pack [blk t2 [.pointer (some ⟨g, 0, none⟩), .int .i64 (z : Nat), .int .u64 (gn : Nat), .int .u64 (fs : Nat), .int .u64 (fs : Nat)] 78, dkF g ⟨sv2, .slice none 0 0, S2, []⟩] [blk g3 [.int .i64 (z : Nat), .int .u64 (gn : Nat), .int .u64 (fs : Nat)] 24] sA ?_
      refine g_mv rfl (mv_call_mod (φ := packF [blk t2 [.pointer (some ⟨g, 0, none⟩), .int .i64 (z : Nat), .int .u64 (gn : Nat), .int .u64 (fs : Nat), .int .u64 (fs : Nat)] 78, dkF g ⟨sv2, .slice none 0 0, S2, []⟩]) (ψ := fun q : ScD => packF (scL t2 g z gn fs ⟨sv2, .slice none 0 0, S2, []⟩ q)) (fun w hk => by exact txscan_any t2 g z gn fs fs sv2 (.slice none 0 0) S2 [] w hz (by omega) (by omega) hD2 (Nat.zero_le _) (by omega) (hk.rO (φ := packF [blk t2 [.pointer (some ⟨g, 0, none⟩), .int .i64 (z : Nat), .int .u64 (gn : Nat), .int .u64 (fs : Nat), .int .u64 (fs : Nat)] 78, dkF g ⟨sv2, .slice none 0 0, S2, []⟩]) mE)) rfl rfl rfl rfl rfl (by kernel_rfl) (by intro _; first | ((repeat (first | with_reducible exact Upd.here _ | with_reducible apply Upd.there)); done) | ((repeat (first | exact Upd.here _ | apply Upd.there)); done) | fail) (fun q hq => ?_))
      obtain ⟨gA, gc, out⟩ := q
      obtain ⟨h1, h2, h3⟩ := hq
      dsimp only at h1 h2 h3 ⊢
      have hso := h1.trans hsc
      rw [List.drop_zero] at hso
      have hol : out.length = u := by rw [hso.len]; simp
      refine g_unpack (l := scL t2 g z gn fs ⟨sv2, .slice none 0 0, S2, []⟩ ⟨gA, gc, out⟩) (by repeat (first | with_reducible exact Sel.here | with_reducible apply Sel.there)) ?_
      dsimp only [scL, List.cons_append, List.nil_append]
      rw [hol]
      have hc : ∀ (j : Nat) (x : RecD), out[j]? = some x → x.o.c = 1 + (j : Int) := fun j x hx => by
        have hj := (List.getElem?_eq_some_iff.1 hx).1
        have := hso.all j x (rcs gn fs j) hx (by rw [List.getElem?_map, List.getElem?_range (by omega)]; rfl)
        exact this.2.2.2.2.2.2.2.1
      (repeat (refine gG ?_; try intro _))
      refine gk_share (φ := sl gA 11 rcE out) (by repeat (first | with_reducible exact Sel.here | with_reducible apply Sel.there)) ?_
      refine gk_loop_sel (fun (j : Nat) => (j ≤ u)) (fun (j : Nat) => [(3, .pointer (some ⟨g3, 0, none⟩)), (14, .int .i64 (u : Nat)), (15, .pointer (some ⟨t2, 0, none⟩)), (17, .slice gA u gc), (18, .int .i64 (j : Nat))]) (fun (j : Nat) => [blk t2 [.pointer (some ⟨g, 0, none⟩), .int .i64 (z : Nat), .int .u64 (gn : Nat), .int .u64 (fs : Nat), .int .u64 ((fs + u : Nat) : Int)] 78, dkF g ⟨sv2, .slice none 0 0, S2, []⟩, blk g3 [.int .i64 (z : Nat), .int .u64 (gn : Nat), .int .u64 (fs : Nat)] 24]) (fun (j : Nat) => [sl gA 11 rcE out, (sl none 1 (IE .u8) ([] : List Int)), (sl none 1 (IE .i64) ([] : List Int))]) (fun (j : Nat) => u - j) 0 rfl (Nat.zero_le _) (by repeat (first | exact trivial | refine ⟨rfl, ?_⟩)) sA sS ?_
      rintro j hI
      replace hI : (j ≤ u) := hI
      change GK _ _ [(3, .pointer (some ⟨g3, 0, none⟩)), (14, .int .i64 (u : Nat)), (15, .pointer (some ⟨t2, 0, none⟩)), (17, .slice gA u gc), (18, .int .i64 (j : Nat))] [blk t2 [.pointer (some ⟨g, 0, none⟩), .int .i64 (z : Nat), .int .u64 (gn : Nat), .int .u64 (fs : Nat), .int .u64 ((fs + u : Nat) : Int)] 78, dkF g ⟨sv2, .slice none 0 0, S2, []⟩, blk g3 [.int .i64 (z : Nat), .int .u64 (gn : Nat), .int .u64 (fs : Nat)] 24] [sl gA 11 rcE out, (sl none 1 (IE .u8) ([] : List Int)), (sl none 1 (IE .i64) ([] : List Int))]
      by_cases hj : j < u
      ·
        --<l3
        as_aux_lemma =>
          obtain ⟨x, hx⟩ : ∃ b, out[j]? = some b := ⟨out[j], List.getElem?_eq_getElem (by omega)⟩
          have hxc := hc j x hx
          refine gk_elem (A := gA) (enc := rcE) (L := out) j mE (by omega) (by decide) (fun b1 o1 x' e1 hx' => ?_)
          subst e1
          obtain rfl : x = x' := by rw [hx] at hx'; exact Option.some.inj hx'
          (repeat' (first | (refine gG ?_; try intro _) | ((first | refine g_split rfl rfl tE (fun _ => ?_) (fun _ => ?_) | refine gk_cond rfl rfl tE (fun _ => ?_) (fun _ => ?_)) <;> (try first | (exfalso; omega; done) | (rename_i hx; exact absurd rfl hx) | (rename_i hx; cases hx; done)))))
          refine g_say 162 (.pointer (some ⟨b1, o1 + j * 11 + 7, none⟩)) rfl (by rw [Int.toNat_natCast]) ?_
          (repeat' (first | (refine gG ?_; try intro _) | ((first | refine g_split rfl rfl tE (fun _ => ?_) (fun _ => ?_) | refine gk_cond rfl rfl tE (fun _ => ?_) (fun _ => ?_)) <;> (try first | (exfalso; omega; done) | (rename_i hx; exact absurd rfl hx) | (rename_i hx; cases hx; done)))))
          refine gk_again_sel rfl (j + 1) (by omega) (by omega) (by repeat (first | exact trivial | refine ⟨rfl, ?_⟩)) sA sS
        -->l3
      obtain rfl : j = u := by omega
      (repeat' (first | (refine gG ?_; try intro _) | ((first | refine g_split rfl rfl tE (fun _ => ?_) (fun _ => ?_) | refine gk_cond rfl rfl tE (fun _ => ?_) (fun _ => ?_)) <;> (try first | (exfalso; omega; done) | (rename_i hx; exact absurd rfl hx) | (rename_i hx; cases hx; done)))))
      refine gk_any [0, 1, 2, 3, 4, 5] (Cut _ (fun _ : Unit => [(3, .pointer (some ⟨g3, 0, none⟩)), (14, .int .i64 (j : Nat)), (15, .pointer (some ⟨t2, 0, none⟩)), (180, .bool false)]) (fun _ => [blk t2 [.pointer (some ⟨g, 0, none⟩), .int .i64 (z : Nat), .int .u64 (gn : Nat), .int .u64 (fs : Nat), .int .u64 ((fs + j : Nat) : Int)] 78, dkF g ⟨sv2, .slice none 0 0, S2, []⟩, blk g3 [.int .i64 (z : Nat), .int .u64 (gn : Nat), .int .u64 (fs : Nat)] 24]) (fun _ => [(sl none 1 (IE .u8) ([] : List Int)), (sl none 1 (IE .i64) ([] : List Int))])) rfl rfl (by kernel_rfl) ?_ (cut_k fun _ => ?_)
      · skip
        refine gb_take 0 rfl (by decide +kernel) rfl rfl (ys_ev (nw := true) hT rfl sI) sF ?_
        refine gb_take 1 rfl (by decide +kernel) rfl rfl (ys_ev (nw := true) hT rfl sI) sF ?_
        refine gb_take 2 rfl (by decide +kernel) rfl rfl (ys_ev (nw := true) hT rfl sI) sF ?_
        refine gb_take 3 rfl (by decide +kernel) rfl rfl (ys_ev (nw := true) hT rfl sI) sF ?_
        try (refine gb_say 170 (.bool false) rfl (congrArg Value.bool (tB_false (by omega))) ?_)
        refine gb_take 4 rfl (by decide +kernel) rfl rfl (ys_ev (nw := true) hT rfl sI) sF ?_
        first | refine gb_take 5 rfl (by decide +kernel) rfl rfl (ys_ev (nw := true) hT rfl sI) sF ?_ | refine gb_skip 5 rfl (by decide +kernel) rfl rfl sF ?_
        first | refine gb_take 7 rfl (by decide +kernel) rfl rfl (ys_ev (nw := true) hT rfl sI) sF ?_ | refine gb_skip 7 rfl (by decide +kernel) rfl rfl sF ?_
        first | refine gb_take 8 rfl (by decide +kernel) rfl rfl (by first | exact ys_blk hT rfl rfl mE rfl rfl | exact ys_row hT rfl rfl mE rfl rfl | exact ys_row0 hT rfl rfl mE rfl rfl) sF ?_ | refine gb_skip 8 rfl (by decide +kernel) rfl rfl sF ?_
        first | refine gb_take 9 rfl (by decide +kernel) rfl rfl (ys_ev (nw := true) hT rfl sI) sF ?_ | refine gb_skip 9 rfl (by decide +kernel) rfl rfl sF ?_
        first | refine gb_take 10 rfl (by decide +kernel) rfl rfl (ys_ev (nw := true) hT rfl sI) sF ?_ | refine gb_skip 10 rfl (by decide +kernel) rfl rfl sF ?_
        first | refine gb_take 11 rfl (by decide +kernel) rfl rfl (ys_ev (nw := true) hT rfl sI) sF ?_ | refine gb_skip 11 rfl (by decide +kernel) rfl rfl sF ?_
        first | refine gb_skip 6 rfl (by decide +kernel) rfl rfl sF ?_ | (refine gb_only 6 (by decide +kernel) rfl rfl ?_; (refine mv_call_bel (fun w hk => txnext_any t2 g z gn fs (fs + j) w (hk.rO (φ := blk t2 [.pointer (some ⟨g, 0, none⟩), .int .i64 (z : Nat), .int .u64 (gn : Nat), .int .u64 (fs : Nat), .int .u64 ((fs + j : Nat) : Int)] 78) mE)) rfl rfl rfl rfl rfl (by kernel_rfl) ?_); refine ⟨sF, ?_⟩)
        first | refine gb_take 12 rfl (by decide +kernel) rfl rfl (ys_ev (nw := true) hT rfl sI) sF ?_ | refine gb_skip 12 rfl (by decide +kernel) rfl rfl sF ?_
        try (refine gb_say 179 (.bool false) rfl (congrArg Value.bool (tB_false (by omega))) ?_)
        refine gb_take 13 rfl (by decide +kernel) rfl rfl (ys_ev (nw := true) hT rfl sI) sF ?_
        refine gb_nil (by decide +kernel) ?_
        exact ⟨(), (by repeat (first | exact trivial | refine ⟨rfl, ?_⟩)), sA, sS⟩
      (repeat (refine gG ?_; try intro _))
      refine g_say 184 (.int .u64 ((gn + 1 : Nat) : Int)) rfl (by congr 1) ?_
      --<end
      as_aux_lemma =>
        refine g_mv rfl (mv_call_mod (φ := blk t2 [.pointer (some ⟨g, 0, none⟩), .int .i64 (z : Nat), .int .u64 (gn : Nat), .int .u64 (fs : Nat), .int .u64 ((fs + j : Nat) : Int)] 78) (ψ := fun _ : Unit => blk t2 [.pointer (some ⟨g, 0, none⟩), .int .i64 (z : Nat), .int .u64 ((gn + 1 : Nat) : Int), .int .u64 ((fs + j : Nat) : Int), .int .u64 ((fs + j : Nat) : Int)] 78) (fun w hk => by exact txbegin_any t2 g z gn fs (fs + j) (gn + 1) w (hk.rO (φ := blk t2 [.pointer (some ⟨g, 0, none⟩), .int .i64 (z : Nat), .int .u64 (gn : Nat), .int .u64 (fs : Nat), .int .u64 ((fs + j : Nat) : Int)] 78) mE)) rfl rfl rfl rfl rfl (by kernel_rfl) (by intro _; first | ((repeat (first | with_reducible exact Upd.here _ | with_reducible apply Upd.there)); done) | ((repeat (first | exact Upd.here _ | apply Upd.there)); done) | fail) (fun q hq => ?_))
        (repeat (refine gG ?_; try intro _))
        refine g_pack [blk t2 [.pointer (some ⟨g, 0, none⟩), .int .i64 (z : Nat), .int .u64 ((gn + 1 : Nat) : Int), .int .u64 ((fs + j : Nat) : Int), .int .u64 ((fs + j : Nat) : Int)] 78, dkF g ⟨sv2, .slice none 0 0, S2, []⟩] [blk g3 [.int .i64 (z : Nat), .int .u64 (gn : Nat), .int .u64 (fs : Nat)] 24] sA ?_
        have hkb : RecD.Bd (⟨((gn + 1 : Nat) : Int), ((fs + j : Nat) : Int), 6, kindO 14⟩ : RecD) := ⟨⟨by dsimp only; omega, by dsimp only; omega⟩, ⟨by dsimp only; omega, by dsimp only; omega⟩, ⟨by dsimp only; omega, by dsimp only; omega⟩, kind14_bd⟩
        refine g_mv rfl (mv_call_mod (φ := packF [blk t2 [.pointer (some ⟨g, 0, none⟩), .int .i64 (z : Nat), .int .u64 ((gn + 1 : Nat) : Int), .int .u64 ((fs + j : Nat) : Int), .int .u64 ((fs + j : Nat) : Int)] 78, dkF g ⟨sv2, .slice none 0 0, S2, []⟩]) (ψ := fun q : Value × SecD => packF [blk t2 [.pointer (some ⟨g, 0, none⟩), .int .i64 (z : Nat), .int .u64 ((gn + 1 : Nat) : Int), .int .u64 ((fs + j : Nat) : Int), .int .u64 ((fs + j + 1 : Nat) : Int)] 78, dkF g ⟨sv2, q.1, S2, ([] : List WrD) ++ [(⟨2 + (fs + j) % z, q.2⟩ : WrD)]⟩]) (fun w hk => by exact txapp_put t2 g z (gn + 1) (fs + j) (fs + j) 6 (kindO 14) sv2 (.slice none 0 0) S2 [] w (kind_ok 14) hkb (by decide) (by decide) kind14_h (Nat.le_refl _) hz (by omega) (by omega) (by omega) hD2 (Nat.zero_le _) (by omega) (hk.rR (φ := (sl none 1 (IE .u8) ([] : List Int))) mE) (hk.rR (φ := (sl none 1 (IE .i64) ([] : List Int))) mE) (fun b hb => ⟨hk.disR _ mE (sl none 1 (IE .u8) ([] : List Int)) mE b hb, hk.disR _ mE (sl none 1 (IE .i64) ([] : List Int)) mE b hb⟩) (hk.rO (φ := packF [blk t2 [.pointer (some ⟨g, 0, none⟩), .int .i64 (z : Nat), .int .u64 ((gn + 1 : Nat) : Int), .int .u64 ((fs + j : Nat) : Int), .int .u64 ((fs + j : Nat) : Int)] 78, dkF g ⟨sv2, .slice none 0 0, S2, []⟩]) mE)) rfl rfl rfl rfl rfl (by kernel_rfl) (by intro _; first | ((repeat (first | with_reducible exact Upd.here _ | with_reducible apply Upd.there)); done) | ((repeat (first | exact Upd.here _ | apply Upd.there)); done) | fail) (fun q hq => ?_))
        obtain ⟨qv, qd⟩ := q
        obtain ⟨hd, hdL⟩ := hq
        dsimp only at hd hdL ⊢
        have hs1 := scan_one (g' := ((gn + 1 : Nat) : Int)) (nx := fs + j) hold (by omega) hz (r := (⟨((gn + 1 : Nat) : Int), ((fs + j : Nat) : Int), 6, kindO 14⟩ : RecD)) (B := qd.L) (by rw [hdL]; exact rcI_any (⟨((gn + 1 : Nat) : Int), ((fs + j : Nat) : Int), 6, kindO 14⟩ : RecD) hkb kind14_h (Nat.zero_le _) (Nat.zero_le _) plain14) rfl rfl (rd2 := dread (S2.map SecD.L) ((([] : List WrD) ++ [(⟨2 + (fs + j) % z, qd⟩ : WrD)]).map WrD.c)) (fun a => read_snoc a)
        (repeat (refine gG ?_; try intro _))
        refine g_mv rfl (mv_call_mod (φ := packF [blk t2 [.pointer (some ⟨g, 0, none⟩), .int .i64 (z : Nat), .int .u64 ((gn + 1 : Nat) : Int), .int .u64 ((fs + j : Nat) : Int), .int .u64 ((fs + j + 1 : Nat) : Int)] 78, dkF g ⟨sv2, qv, S2, (([] : List WrD) ++ [(⟨2 + (fs + j) % z, qd⟩ : WrD)])⟩]) (ψ := fun q : ScD => packF (scL t2 g z (gn + 1) (fs + j) ⟨sv2, qv, S2, (([] : List WrD) ++ [(⟨2 + (fs + j) % z, qd⟩ : WrD)])⟩ q)) (fun w hk => by exact txscan_any t2 g z (gn + 1) (fs + j) (fs + j + 1) sv2 qv S2 (([] : List WrD) ++ [(⟨2 + (fs + j) % z, qd⟩ : WrD)]) w hz (by omega) (by omega) (dk_snoc hD2 (by have := Nat.mod_lt (fs + j) hz; omega) hd) (by simp) (by omega) (hk.rO (φ := packF [blk t2 [.pointer (some ⟨g, 0, none⟩), .int .i64 (z : Nat), .int .u64 ((gn + 1 : Nat) : Int), .int .u64 ((fs + j : Nat) : Int), .int .u64 ((fs + j + 1 : Nat) : Int)] 78, dkF g ⟨sv2, qv, S2, (([] : List WrD) ++ [(⟨2 + (fs + j) % z, qd⟩ : WrD)])⟩]) mE)) rfl rfl rfl rfl rfl (by kernel_rfl) (by intro _; first | ((repeat (first | with_reducible exact Upd.here _ | with_reducible apply Upd.there)); done) | ((repeat (first | exact Upd.here _ | apply Upd.there)); done) | fail) (fun q hq => ?_))
        obtain ⟨A5, c5, out5⟩ := q
        obtain ⟨k1, k2, k3⟩ := hq
        dsimp only at k1 k2 k3 ⊢
        obtain ⟨x, rfl, hx⟩ := (k1.trans hs1).one
        have hxk : x.o.k = 14 := hx.2.2.2.1
        refine g_unpack (l := scL t2 g z (gn + 1) (fs + j) ⟨sv2, qv, S2, (([] : List WrD) ++ [(⟨2 + (fs + j) % z, qd⟩ : WrD)])⟩ ⟨A5, c5, [x]⟩) (by repeat (first | with_reducible exact Sel.here | with_reducible apply Sel.there)) ?_
        dsimp only [scL, List.cons_append, List.nil_append]
        refine g_share (φ := sl A5 11 rcE [x]) (by repeat (first | with_reducible exact Sel.here | with_reducible apply Sel.there)) ?_
        refine g_elem (enc := rcE) (L := [x]) 0 mE Nat.one_pos (by decide) (fun g8 o8 y eA hy => ?_)
        obtain rfl := Option.some.inj hy
        subst eA
        have hln : (([x] : List RecD).length : Int) = 1 := rfl
        (repeat' (first | (refine gG ?_; try intro _) | ((first | refine g_split rfl rfl tE (fun _ => ?_) (fun _ => ?_) | refine gk_cond rfl rfl tE (fun _ => ?_) (fun _ => ?_)) <;> (try first | (exfalso; omega; done) | (rename_i hx; exact absurd rfl hx) | (rename_i hx; cases hx; done)))))
        refine g_say 198 (.pointer (some ⟨g8, o8 + 0 * 11 + 3, none⟩)) rfl rfl ?_
        (repeat' (first | (refine gG ?_; try intro _) | (refine g_mv rfl ?_; first | refine mv_call_bel (fun w hk => alive30 w) rfl rfl rfl rfl rfl (by kernel_rfl) ?_) | ((first | refine g_split rfl rfl tE (fun _ => ?_) (fun _ => ?_) | refine gk_cond rfl rfl tE (fun _ => ?_) (fun _ => ?_)) <;> (try first | (exfalso; omega; done) | (rename_i hx; exact absurd rfl hx) | (rename_i hx; cases hx; done)))))
        all_goals (refine gk_ret hT rfl rfl (.tmp rfl .nil) (fun w' hk => ?_); exact ⟨ret_bool (by simp [tB_eq, hxk]), hk.toBelow⟩)
      -->end
  -->rest
end Go.Proofs.Yteajefmnbalofaa.TxC
