/- A log: any event appended; the chapter's example. -/
import Derived.Test.YteajefmnbalofaaTx3
import Derived.Test.YteajefmnbalofaaDk6
namespace Go.Proofs.Yteajefmnbalofaa.Tx
open Go.RowKit Mem Gx Dk OpA Rec Bytes
set_option linter.unusedVariables false
set_option linter.unusedSimpArgs false
set_option maxRecDepth 100000
set_option maxHeartbeats 4000000
/-- A record's sector. -/
noncomputable abbrev pgOf (r : RecD) : Sec := Page.page 2 (recL r (putPl r.o (looks r.o.k)))
theorem put_facts {o : OpD} (hb : o.Bd) (h : 1 ≤ o.k ∧ o.k ≤ 14 ∧ rrightB o = true) (hD9 : o.D.length ≤ 100000) (hM9 : o.M.length ≤ 100000) :
    (∀ p, PlainAt o (looks o.k) p → putL p = putPl o (looks o.k)) ∧ IsB (putPl o (looks o.k)) ∧ (putPl o (looks o.k)).length ≤ 96 := by
  obtain ⟨p, hp⟩ := exists_plain o (looks o.k) hD9 hM9
  have hf := fits_of h.2.1 h.2.2 hp hb.bp
  refine ⟨fun p hp => putPl_of hp, putPl_isB hp hf hb.bD, ?_⟩
  rw [← putPl_of hp]
  exact put_len hp hf
theorem rcI_any (r : RecD) (hb : r.Bd) (h : 1 ≤ r.o.k ∧ r.o.k ≤ 14 ∧ rrightB r.o = true) (hD9 : r.o.D.length ≤ 100000) (hM9 : r.o.M.length ≤ 100000) {q : OpD} (hq : PlainAt r.o (looks r.o.k) q) : RcI ⟨r.g, r.l, r.t, q⟩ (pgOf r) := by
  have hf := fits_of h.2.1 h.2.2 hq hb.o.bp
  have h2 := rcI_put r hb ⟨h.1, h.2.1⟩ h.2.2 hq hf hq
  rwa [putPl_of hq] at h2
theorem txapp_put (t g z gn fs nx : Nat) (tm : Int) (o : OpD) (sv lv : Value) (S : List SecD) (W : List WrD) (w : World) (ho : o.Ok) (hb : ((⟨(gn : Int), (nx : Int), tm, o⟩ : RecD)).Bd) (hD9 : o.D.length ≤ 100000) (hM9 : o.M.length ≤ 100000) (h : 1 ≤ o.k ∧ o.k ≤ 14 ∧ rrightB o = true) (hf : fs ≤ nx) (hz : 1 ≤ z) (hz9 : z ≤ 4096) (hn : nx < 18446744073709551615) (hroom : nx - fs < z) (hdk : DkOk S W) (hl : W.length ≤ 100000) (hS : z + 2 ≤ S.length) (ha : Rd1 w (sl o.a.A 1 (IE .u8) o.D)) (hm : Rd1 w (sl o.m.A 1 (IE .i64) o.M)) (hdis : ∀ b, (packF [blk t [.pointer (some ⟨g, 0, none⟩), .int .i64 (z : Nat), .int .u64 (gn : Nat), .int .u64 (fs : Nat), .int .u64 (nx : Nat)] 78, dkF g ⟨sv, lv, S, W⟩]).S b → ¬ (sl o.a.A 1 (IE .u8) o.D).S b ∧ ¬ (sl o.m.A 1 (IE .i64) o.M).S b) (hL : Rd1 w (packF [blk t [.pointer (some ⟨g, 0, none⟩), .int .i64 (z : Nat), .int .u64 (gn : Nat), .int .u64 (fs : Nat), .int .u64 (nx : Nat)] 78, dkF g ⟨sv, lv, S, W⟩])) :
    Calls Try.prog 10 [.pointer (some ⟨t, 0, none⟩), o.val, .int .u64 tm].toArray w (RetM (packF [blk t [.pointer (some ⟨g, 0, none⟩), .int .i64 (z : Nat), .int .u64 (gn : Nat), .int .u64 (fs : Nat), .int .u64 (nx : Nat)] 78, dkF g ⟨sv, lv, S, W⟩]) (fun q : Value × SecD => q.2.Ok ∧ q.2.L = pgOf (⟨(gn : Int), (nx : Int), tm, o⟩ : RecD)) (fun _ => .tuple #[.int .u64 (nx : Nat), .int .i64 0]) (fun q => packF [blk t [.pointer (some ⟨g, 0, none⟩), .int .i64 (z : Nat), .int .u64 (gn : Nat), .int .u64 (fs : Nat), .int .u64 ((nx + 1 : Nat) : Int)] 78, dkF g ⟨sv, q.1, S, W ++ [(⟨2 + nx % z, q.2⟩ : WrD)]⟩]) w) := by
  obtain ⟨h1, h2, h3⟩ := put_facts hb.o h hD9 hM9
  exact txapp_ok t g z gn fs nx tm o _ sv lv S W w ho hb hD9 hM9 h h1 h2 h3 hf hz hz9 hn hroom hdk hl hS ha hm hdis hL
theorem txapp_full' (t g z gn fs nx : Nat) (tm : Int) (o : OpD) (w : World) (ho : o.Ok) (hb : ((⟨(gn : Int), (nx : Int), tm, o⟩ : RecD)).Bd) (hD9 : o.D.length ≤ 100000) (hM9 : o.M.length ≤ 100000) (h : 1 ≤ o.k ∧ o.k ≤ 14 ∧ rrightB o = true) (hf : fs ≤ nx) (hz9 : z ≤ 4096) (hn : nx ≤ 18446744073709551615) (hfull : nx - fs = z) (ha : Rd1 w (sl o.a.A 1 (IE .u8) o.D)) (hm : Rd1 w (sl o.m.A 1 (IE .i64) o.M)) (hL : Rd1 w (blk t [.pointer (some ⟨g, 0, none⟩), .int .i64 (z : Nat), .int .u64 (gn : Nat), .int .u64 (fs : Nat), .int .u64 (nx : Nat)] 78)) :
    Calls Try.prog 10 [.pointer (some ⟨t, 0, none⟩), o.val, .int .u64 tm].toArray w fun e w' => e = .returned (.tuple #[.int .u64 0, .int .i64 31]) ∧ Below w.heap.size w w' := by
  obtain ⟨h1, h2, h3⟩ := put_facts hb.o h hD9 hM9
  exact txapp_full t g z gn fs nx tm o _ w ho hb hD9 hM9 h h1 h2 h3 hf hz9 hn hfull ha hm hL
theorem read_new {n a : Nat} (h : a < n) : dread (List.replicate n zsec) [] a = zeroS := by
  show ((List.replicate n zsec)[a]?).getD [] = _
  rw [List.getElem?_replicate_of_lt h]
  rfl
theorem grow_new {n z fs : Nat} {g : Int} (hz : 0 < z) (h : z + 2 ≤ n) : GrowI (dread (List.replicate n zsec) []) z g fs [] :=
  ⟨Nat.zero_le _, (fun j r h => by simp at h), fun j _ h2 => read_new (by have := Nat.mod_lt (fs + j) hz; unfold plc; omega)⟩
theorem dk_new {S : List SecD} {n : Nat} (h1 : ∀ d, d ∈ S → d.Ok) (h2 : S.map SecD.L = List.replicate n zsec) (hn : n ≤ 4096) : S.length = n ∧ DkOk S [] := by
  have e : S.length = n := by have := congrArg List.length h2; simpa using this
  exact ⟨e, h1, (fun x h => by cases h), by omega⟩
theorem dk_snoc {S : List SecD} {W : List WrD} {a : Nat} {d : SecD} (h : DkOk S W) (ha : a < S.length) (hd : d.Ok) : DkOk S (W ++ [(⟨a, d⟩ : WrD)]) := ⟨h.s, fun x hx => by
  rcases List.mem_append.1 hx with hx | hx
  · exact h.w x hx
  · obtain rfl := List.mem_singleton.1 hx
    exact ⟨hd, ha⟩, h.n⟩
theorem read_snoc {S : List SecD} {W : List WrD} {p : Nat} {d : SecD} (a : Nat) : dread (S.map SecD.L) ((W ++ [(⟨p, d⟩ : WrD)]).map WrD.c) a = if p = a then d.L else dread (S.map SecD.L) (W.map WrD.c) a := by
  rw [List.map_append]
  exact dread_snoc _ _ _ _
theorem kind14_bd : (kindO 14).Bd := ⟨⟨by decide, by decide⟩, ⟨by decide, by decide⟩, ⟨by decide, by decide⟩, ⟨by decide, by decide⟩, ⟨by decide, by decide⟩, ⟨by decide, by decide⟩, IsB.nil⟩
theorem kind14_h : 1 ≤ (kindO 14).k ∧ (kindO 14).k ≤ 14 ∧ rrightB (kindO 14) = true := ⟨by decide, by decide, rr_kind (.inl rfl)⟩
theorem SameRs.one {L : List RecD} {r : RecD} (h : SameRs L [r]) : ∃ x, L = [x] ∧ sameR x r := by
  have hl := h.len
  match L, hl with
  | [x], _ => exact ⟨x, rfl, h.all 0 x r rfl rfl⟩
theorem plain14 : PlainAt (kindO 14) (looks (kindO 14).k) (kindO 14) := ⟨rfl, ite_self _ |>.symm, ite_self _ |>.symm, ite_self _ |>.symm, ite_self _ |>.symm, ite_self _ |>.symm, ite_self _ |>.symm, ite_self _ |>.symm, kind_ok 14⟩
theorem alive30 (w : World) : Calls Try.prog 8 [].toArray w fun e w' => e = .returned (.bool true) ∧ Below w.heap.size w w' := by
  refine g_enter0 T [] [] [] Try.func8 rfl Try.ntmps8 rfl (Kn.start _) ?_
  (repeat (refine gG ?_; try intro _))
  refine g_mv rfl ?_; refine mv_call_rt (fun w hk => dnew_any 10 (by decide) (by decide) w) rfl rfl rfl rfl rfl (by kernel_rfl) (fun _ => rfl) (fun q hq => ?_)
  obtain ⟨g, sv, S⟩ := q
  obtain ⟨hS, hSm⟩ := hq
  obtain ⟨hSl, hdk⟩ := dk_new hS hSm (by decide)
  dsimp only at *
  (repeat' (first | (refine gG ?_; try intro _) | ((first | refine g_split rfl rfl tE (fun _ => ?_) (fun _ => ?_) | refine gk_cond rfl rfl tE (fun _ => ?_) (fun _ => ?_)) <;> (try first | (exfalso; omega; done) | (rename_i hx; exact absurd rfl hx) | (rename_i hx; cases hx; done)))))
  refine g_mv rfl ?_; refine mv_call_rt (fun w hk => txnew_any g sv (.slice none 0 0) S [] 4 1 7 w (by omega) (by omega) (hk.rO (φ := dkF g ⟨sv, .slice none 0 0, S, []⟩) mE)) rfl rfl rfl rfl rfl (by kernel_rfl) (fun _ => rfl) (fun t ht => ?_)
  (repeat' (first | (refine gG ?_; try intro _) | ((first | refine g_split rfl rfl tE (fun _ => ?_) (fun _ => ?_) | refine gk_cond rfl rfl tE (fun _ => ?_) (fun _ => ?_)) <;> (try first | (exfalso; omega; done) | (rename_i hx; exact absurd rfl hx) | (rename_i hx; cases hx; done)))))
  refine g_der [] (φ := sl none 1 (IE .u8) ([] : List Int)) Dk.der_nil sS ?_
  refine g_der [] (φ := sl none 1 (IE .i64) ([] : List Int)) Dk.der_nil sS ?_
  refine g_pack [blk t [.pointer (some ⟨g, 0, none⟩), .int .i64 ((4 : Nat) : Int), .int .u64 ((1 : Nat) : Int), .int .u64 ((7 : Nat) : Int), .int .u64 ((7 : Nat) : Int)] 78, dkF g ⟨sv, .slice none 0 0, S, []⟩] [] sA ?_
  refine g_mv rfl (mv_call_mod (φ := packF [blk t [.pointer (some ⟨g, 0, none⟩), .int .i64 ((4 : Nat) : Int), .int .u64 ((1 : Nat) : Int), .int .u64 ((7 : Nat) : Int), .int .u64 ((7 : Nat) : Int)] 78, dkF g ⟨sv, .slice none 0 0, S, []⟩]) (ψ := fun q : Value × SecD => packF [blk t [.pointer (some ⟨g, 0, none⟩), .int .i64 ((4 : Nat) : Int), .int .u64 ((1 : Nat) : Int), .int .u64 ((7 : Nat) : Int), .int .u64 ((7 + 1 : Nat) : Int)] 78, dkF g ⟨sv, q.1, S, [] ++ [(⟨2 + 7 % 4, q.2⟩ : WrD)]⟩]) (fun w hk => by exact txapp_put t g 4 1 7 7 3 (kindO 14) sv (.slice none 0 0) S [] w (kind_ok 14) ⟨⟨by decide, by decide⟩, ⟨by decide, by decide⟩, ⟨by decide, by decide⟩, kind14_bd⟩ (by decide) (by decide) kind14_h (by decide) (by decide) (by decide) (by decide) (by decide) hdk (by decide) (by omega) (hk.rR (φ := sl none 1 (IE .u8) ([] : List Int)) mE) (hk.rR (φ := sl none 1 (IE .i64) ([] : List Int)) mE) (fun b hb => ⟨hk.disR _ mE _ mE b hb, hk.disR _ mE _ mE b hb⟩) (hk.rO (φ := packF [blk t [.pointer (some ⟨g, 0, none⟩), .int .i64 ((4 : Nat) : Int), .int .u64 ((1 : Nat) : Int), .int .u64 ((7 : Nat) : Int), .int .u64 ((7 : Nat) : Int)] 78, dkF g ⟨sv, .slice none 0 0, S, []⟩]) mE)) rfl rfl rfl rfl rfl (by kernel_rfl) (by intro _; first | ((repeat (first | with_reducible exact Upd.here _ | with_reducible apply Upd.there)); done) | ((repeat (first | exact Upd.here _ | apply Upd.there)); done) | fail) (fun q hq => ?_))
  obtain ⟨qv, qd⟩ := q
  obtain ⟨hd, hdL⟩ := hq
  dsimp only at hd hdL ⊢
  have hg := (grow_new (n := 10) (z := 4) (fs := 7) (g := ((1 : Nat) : Int)) (by decide) (by decide)).snoc (rd' := dread (S.map SecD.L) (([] ++ [(⟨2 + 7 % 4, qd⟩ : WrD)]).map WrD.c)) (r := ⟨((1 : Nat) : Int), ((7 : Nat) : Int), 3, kindO 14⟩) (B := qd.L) (by decide) (by rw [hdL]; exact rcI_any ⟨((1 : Nat) : Int), ((7 : Nat) : Int), 3, kindO 14⟩ ⟨⟨by decide, by decide⟩, ⟨by decide, by decide⟩, ⟨by decide, by decide⟩, kind14_bd⟩ kind14_h (by decide) (by decide) (plain14)) rfl rfl (fun a => by rw [read_snoc, hSm]; rfl)
  have hsc := scan_same hg.log 4 0 rfl (Nat.zero_le _)
  (repeat (refine gG ?_; try intro _))
  refine g_mv rfl (mv_call_mod (φ := packF [blk t [.pointer (some ⟨g, 0, none⟩), .int .i64 ((4 : Nat) : Int), .int .u64 ((1 : Nat) : Int), .int .u64 ((7 : Nat) : Int), .int .u64 ((7 + 1 : Nat) : Int)] 78, dkF g ⟨sv, qv, S, [] ++ [(⟨2 + 7 % 4, qd⟩ : WrD)]⟩]) (ψ := fun q : ScD => packF (scL t g 4 1 7 ⟨sv, qv, S, [] ++ [(⟨2 + 7 % 4, qd⟩ : WrD)]⟩ q)) (fun w hk => by exact txscan_any t g 4 1 7 (7 + 1) sv qv S ([] ++ [(⟨2 + 7 % 4, qd⟩ : WrD)]) w (by decide) (by decide) (by decide) (dk_snoc hdk (by omega) hd) (by simp) (by omega) (hk.rO mE)) rfl rfl rfl rfl rfl (by kernel_rfl) (by intro _; first | ((repeat (first | with_reducible exact Upd.here _ | with_reducible apply Upd.there)); done) | ((repeat (first | exact Upd.here _ | apply Upd.there)); done) | fail) (fun q hq => ?_))
  obtain ⟨A, c, out⟩ := q
  obtain ⟨h1, h2, h3⟩ := hq
  dsimp only at h1 h2 h3 ⊢
  obtain ⟨x, rfl, hx⟩ := (h1.trans hsc).one
  obtain ⟨hx1, hx2, hx3, hx4⟩ := hx
  dsimp only at hx1 hx2 hx3
  refine g_unpack (l := scL t g 4 1 7 ⟨sv, qv, S, [] ++ [(⟨2 + 7 % 4, qd⟩ : WrD)]⟩ ⟨A, c, [x]⟩) (by repeat (first | with_reducible exact Sel.here | with_reducible apply Sel.there)) ?_
  dsimp only [scL, List.cons_append, List.nil_append]
  refine g_share (φ := sl A 11 rcE [x]) (by repeat (first | with_reducible exact Sel.here | with_reducible apply Sel.there)) ?_
  refine g_elem (enc := rcE) (L := [x]) 0 mE Nat.one_pos (by decide) (fun g8 o8 y eA hy => ?_)
  obtain rfl := Option.some.inj hy
  subst eA
  have hln : (([x] : List RecD).length : Int) = 1 := rfl
  (repeat' (first | (refine gG ?_; try intro _) | (refine g_mv rfl ?_; first | refine mv_call_bel (fun w hk => txnext_any t g 4 1 7 (7 + [x].length) w (hk.rO (φ := blk t [.pointer (some ⟨g, 0, none⟩), .int .i64 ((4 : Nat) : Int), .int .u64 ((1 : Nat) : Int), .int .u64 ((7 : Nat) : Int), .int .u64 ((7 + [x].length : Nat) : Int)] 78) mE)) rfl rfl rfl rfl rfl (by kernel_rfl) ?_) | ((first | refine g_split rfl rfl tE (fun _ => ?_) (fun _ => ?_) | refine gk_cond rfl rfl tE (fun _ => ?_) (fun _ => ?_)) <;> (try first | (exfalso; omega; done) | (rename_i hx; exact absurd rfl hx) | (rename_i hx; cases hx; done)))))
  all_goals (refine gk_ret hT rfl rfl (.tmp rfl .nil) (fun w' hk => ?_); exact ⟨ret_bool (by simp [tB_eq, hx2, hx3]), hk.toBelow⟩)
end Go.Proofs.Yteajefmnbalofaa.Tx
