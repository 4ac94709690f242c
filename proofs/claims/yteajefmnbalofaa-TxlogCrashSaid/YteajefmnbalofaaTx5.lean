/- Law 30: events appended one by one. -/
import Derived.Test.YteajefmnbalofaaTx4
namespace Go.Proofs.Yteajefmnbalofaa.Tx
open Go.RowKit Mem Gx Dk OpA Rec Bytes
set_option linter.unusedVariables false
set_option linter.unusedSimpArgs false
set_option maxRecDepth 100000
set_option maxHeartbeats 8000000
def opE (o : OpD) : Nat → Value
  | 0 => .int .i64 o.k
  | 1 => .int .i64 o.v
  | 2 => .int .i64 o.i
  | 3 => .int .i64 o.b
  | 4 => .int .i64 o.c
  | 5 => .int .u64 o.p
  | 6 => o.a.v
  | _ => o.m.v
instance : Inhabited OpD := ⟨kindO 0⟩
abbrev faO (o : OpD) : Fact := sl o.a.A 1 (IE .u8) o.D
abbrev fmO (o : OpD) : Fact := sl o.m.A 1 (IE .i64) o.M
theorem calls_b {P : Program} {fid : FuncId} {args : Array Value} {w : World} {b c : Bool} (hb : b = c) (h : Calls P fid args w fun e w' => e = .returned (.bool b) ∧ Below w.heap.size w w') : Calls P fid args w fun e w' => e = .returned (.bool c) ∧ Below w.heap.size w w' := by rwa [hb] at h
theorem gk_at {X : Cx} {ks k : List KI} {f : Fr} {O R : List Fact} {id : Nat} {l : List Oper} {d : Bool} (h : nx 1000 ks = some (.region id l d k)) (hg : GK X (.code (.region id l.toArray d) :: k) f O R) : GK X ks f O R := .mk fun a w hr hk => nx_sound h (hg.out a w hr hk)
theorem joinD {X : Cx} {c : Code} {k : List KI} {ι : Type} (P : ι → Prop) (F : ι → Fr) (OO RR : ι → List Fact) {q : Prop} (r : Later (∀ i, P i → GK X (.code c :: k) (F i) (OO i) (RR i)) → q) (g : ∀ i, P i → GK X (.code c :: k) (F i) (OO i) (RR i)) : q := r ⟨g⟩
structure JnT where
  lv : Value
  W : List WrD
  wA : Option Addr
  wc : Nat
  R : List RecD
/-- What is known behind i events. -/
structure ApI (S : List SecD) (z gn fs i : Nat) (q : JnT) : Prop where
  g : GrowI (dread (S.map SecD.L) (q.W.map WrD.c)) z gn fs q.R
  d : DkOk S q.W
  w : q.W.length ≤ i
  r : q.R.length ≤ i
  ok : ∀ r ∈ q.R, r.Ok ∧ r.o.D.length ≤ 100000000 ∧ r.o.M.length ≤ 100000000
theorem ApI.next {S : List SecD} {z gn fs i : Nat} {q : JnT} (h : ApI S z gn fs i q) : ApI S z gn fs (i + 1) q := ⟨h.g, h.d, by have := h.w; omega, by have := h.r; omega, h.ok⟩
theorem appends_any (sz : Int) (gn fs : Nat) (A : Option Addr) (n c : Nat) (OL : List OpD) (ot : Nat) (w : World) (hn : n = OL.length) (hgn : gn ≤ 18446744073709551615) (hok : ∀ o ∈ OL, o.Ok ∧ o.Bd) (hs : Rd1 w (sl A 8 opE OL)) (ha : Rd1 w (allF OL faO)) (hm : Rd1 w (allF OL fmO)) :
    Calls Try.prog 3 [.agg #[.int .i64 sz, .int .u64 (gn : Nat), .int .u64 (fs : Nat)], .slice A n c, .int .u64 (ot : Nat)].toArray w fun e w' => e = .returned (.bool true) ∧ Below w.heap.size w w' := by
  refine g_enter0 T [] [] [sl A 8 opE OL, allF OL faO, allF OL fmO] Try.func3 rfl Try.ntmps3 rfl (Rds.cons hs (.cons ha (.cons hm .nil))).kn ?_
  by_cases h40 : 40 < n
  · (repeat' (first | (refine gG ?_; try intro _) | ((first | refine g_split rfl rfl tE (fun _ => ?_) (fun _ => ?_) | refine gk_cond rfl rfl tE (fun _ => ?_) (fun _ => ?_)) <;> (try first | (exfalso; omega; done) | (rename_i hx; exact absurd rfl hx) | (rename_i hx; cases hx; done)))))
    all_goals (refine gk_ret hT rfl rfl (.tmp rfl .nil) (fun w' hk => ?_); exact ⟨rfl, hk.toBelow⟩)
  by_cases hf9 : 4611686018427387904 ≤ fs
  · (repeat' (first | (refine gG ?_; try intro _) | ((first | refine g_split rfl rfl tE (fun _ => ?_) (fun _ => ?_) | refine gk_cond rfl rfl tE (fun _ => ?_) (fun _ => ?_)) <;> (try first | (exfalso; omega; done) | (rename_i hx; exact absurd rfl hx) | (rename_i hx; cases hx; done)))))
    all_goals (refine gk_ret hT rfl rfl (.tmp rfl .nil) (fun w' hk => ?_); exact ⟨rfl, hk.toBelow⟩)
  (repeat' (first | (refine gG ?_; try intro _) | ((first | refine g_split rfl rfl tE (fun _ => ?_) (fun _ => ?_) | refine gk_cond rfl rfl tE (fun _ => ?_) (fun _ => ?_)) <;> (try first | (exfalso; omega; done) | (rename_i hx; exact absurd rfl hx) | (rename_i hx; cases hx; done)))))
  rename_i g3 _ _
  refine g_mv rfl ?_; refine mv_call_rt (fun w hk => dnew_any 60 (by decide) (by decide) w) rfl rfl rfl rfl rfl (by kernel_rfl) (fun _ => rfl) (fun q hq => ?_)
  obtain ⟨g, sv, S⟩ := q
  obtain ⟨hS, hSm⟩ := hq
  obtain ⟨hSl, hdk⟩ := dk_new hS hSm (by decide)
  dsimp only at *
  (repeat' (first | (refine gG ?_; try intro _) | ((first | refine g_split rfl rfl tE (fun _ => ?_) (fun _ => ?_) | refine gk_cond rfl rfl tE (fun _ => ?_) (fun _ => ?_)) <;> (try first | (exfalso; omega; done) | (rename_i hx; exact absurd rfl hx) | (rename_i hx; cases hx; done)))))
  by_cases hz : sz < 1 ∨ 57 < sz
  · (repeat' (first | (refine gG ?_; try intro _) | (refine g_mv rfl ?_; first | refine mv_call_bel (fun w hk => txnew_bad g sv (.slice none 0 0) S [] sz gn fs w (by omega) (by omega) (hk.rO (φ := dkF g ⟨sv, .slice none 0 0, S, []⟩) mE)) rfl rfl rfl rfl rfl (by kernel_rfl) ?_ | refine mv_call_bel (fun w hk => txnew_nil 4 1 0 w) rfl rfl rfl rfl rfl (by kernel_rfl) ?_ | refine mv_call_bel (fun w hk => alive30 w) rfl rfl rfl rfl rfl (by kernel_rfl) ?_) | ((first | refine g_split rfl rfl tE (fun _ => ?_) (fun _ => ?_) | refine gk_cond rfl rfl tE (fun _ => ?_) (fun _ => ?_)) <;> (try first | (exfalso; omega; done) | (rename_i hx; exact absurd rfl hx) | (rename_i hx; cases hx; done)))))
    all_goals (refine gk_ret hT rfl rfl (.tmp rfl .nil) (fun w' hk => ?_); exact ⟨rfl, hk.toBelow⟩)
  obtain ⟨z, rfl⟩ := Int.eq_ofNat_of_zero_le (a := sz) (by omega)
  refine g_mv rfl ?_; refine mv_call_rt (fun w hk => txnew_any g sv (.slice none 0 0) S [] z gn fs w (by omega) (by omega) (hk.rO (φ := dkF g ⟨sv, .slice none 0 0, S, []⟩) mE)) rfl rfl rfl rfl rfl (by kernel_rfl) (fun _ => rfl) (fun t ht => ?_)
  (repeat' (first | (refine gG ?_; try intro _) | (refine g_mv rfl ?_; first | refine mv_call_bel (fun w hk => txnew_nil 4 1 0 w) rfl rfl rfl rfl rfl (by kernel_rfl) ?_) | ((first | refine g_split rfl rfl tE (fun _ => ?_) (fun _ => ?_) | refine gk_cond rfl rfl tE (fun _ => ?_) (fun _ => ?_)) <;> (try first | (exfalso; omega; done) | (rename_i hx; exact absurd rfl hx) | (rename_i hx; cases hx; done)))))
  have hz0 : 1 ≤ z := by omega
  refine gk_own 0 44 11 rcE ?_
  refine gk_derO [] [own 0 44 11 (.slice none 0 0) rcE ([] : List RecD), blk t [.pointer (some ⟨g, 0, none⟩), .int .i64 (z : Nat), .int .u64 (gn : Nat), .int .u64 (fs : Nat), .int .u64 (fs : Nat)] 78, dkF g ⟨sv, .slice none 0 0, S, []⟩, blk g3 [.int .i64 (z : Nat), .int .u64 (gn : Nat), .int .u64 (fs : Nat)] 24] (φ := allF ([] : List RecD) fmR) rder_nil sA ?_
  refine gk_derO [] [allF ([] : List RecD) fmR, own 0 44 11 (.slice none 0 0) rcE ([] : List RecD), blk t [.pointer (some ⟨g, 0, none⟩), .int .i64 (z : Nat), .int .u64 (gn : Nat), .int .u64 (fs : Nat), .int .u64 (fs : Nat)] 78, dkF g ⟨sv, .slice none 0 0, S, []⟩, blk g3 [.int .i64 (z : Nat), .int .u64 (gn : Nat), .int .u64 (fs : Nat)] 24] (φ := allF ([] : List RecD) faR) rder_nil sA ?_
  have hI0 : ApI S z gn fs 0 ⟨.slice none 0 0, [], none, 0, []⟩ := ⟨by rw [hSm]; exact grow_new (by omega) (by omega), hdk, Nat.le_refl _, Nat.le_refl _, (fun r h => by cases h)⟩
  refine gk_loop_sel (fun (q : Nat × Value × (List WrD) × (Option Addr) × Nat × (List RecD)) => match q with | (i, lv, W, wA, wc, R) => (i ≤ n ∧ ApI S z gn fs i ⟨lv, W, wA, wc, R⟩)) (fun (q : Nat × Value × (List WrD) × (Option Addr) × Nat × (List RecD)) => match q with | (i, lv, W, wA, wc, R) => [(1, .slice A n c), (2, .int .u64 (ot : Nat)), (3, .pointer (some ⟨g3, 0, none⟩)), (9, .pointer (some ⟨t, 0, none⟩)), (13, .slice wA R.length wc), (14, .int .i64 (i : Nat))]) (fun (q : Nat × Value × (List WrD) × (Option Addr) × Nat × (List RecD)) => match q with | (i, lv, W, wA, wc, R) => [blk g3 [.int .i64 (z : Nat), .int .u64 (gn : Nat), .int .u64 (fs : Nat)] 24, blk t [.pointer (some ⟨g, 0, none⟩), .int .i64 (z : Nat), .int .u64 (gn : Nat), .int .u64 (fs : Nat), .int .u64 ((fs + R.length : Nat) : Int)] 78, dkF g ⟨sv, lv, S, W⟩, own 0 44 11 (.slice wA R.length wc) rcE R, allF R faR, allF R fmR]) (fun (q : Nat × Value × (List WrD) × (Option Addr) × Nat × (List RecD)) => match q with | (i, lv, W, wA, wc, R) => [sl A 8 opE OL, allF OL faO, allF OL fmO]) (fun (q : Nat × Value × (List WrD) × (Option Addr) × Nat × (List RecD)) => match q with | (i, lv, W, wA, wc, R) => n - i) (0, .slice none 0 0, [], none, 0, []) rfl ⟨Nat.zero_le _, hI0⟩ (by repeat (first | exact trivial | refine ⟨rfl, ?_⟩)) sA sS ?_
  rintro ⟨i, lv, W, wA, wc, R⟩ hI
  replace hI : (i ≤ n ∧ ApI S z gn fs i ⟨lv, W, wA, wc, R⟩) := hI
  change GK _ _ [(1, .slice A n c), (2, .int .u64 (ot : Nat)), (3, .pointer (some ⟨g3, 0, none⟩)), (9, .pointer (some ⟨t, 0, none⟩)), (13, .slice wA R.length wc), (14, .int .i64 (i : Nat))] [blk g3 [.int .i64 (z : Nat), .int .u64 (gn : Nat), .int .u64 (fs : Nat)] 24, blk t [.pointer (some ⟨g, 0, none⟩), .int .i64 (z : Nat), .int .u64 (gn : Nat), .int .u64 (fs : Nat), .int .u64 ((fs + R.length : Nat) : Int)] 78, dkF g ⟨sv, lv, S, W⟩, own 0 44 11 (.slice wA R.length wc) rcE R, allF R faR, allF R fmR] [sl A 8 opE OL, allF OL faO, allF OL fmO]
  obtain ⟨hi, hI⟩ := hI
  obtain ⟨hG, hD, hW, hR, hRk⟩ := id hI
  have hGl := hG.len
  dsimp only at hG hD hW hR hRk hGl
  by_cases hlt : i < n
  · obtain ⟨x, hx⟩ : ∃ b, OL[i]? = some b := ⟨OL[i], List.getElem?_eq_getElem (by omega)⟩
    refine gk_elem (enc := opE) (L := OL) i mE (by omega) (by decide) (fun og oo y eA hy => ?_)
    subst eA
    obtain rfl : x = y := by rw [hx] at hy; exact Option.some.inj hy
    have hxm := List.mem_of_getElem? hx
    obtain ⟨hxo, hxb⟩ := hok x hxm
    have d1 : Der [allF OL faO] (faO x) := Der.elem (L := OL) (F := faO) (x := x) (Der.mem (.head _)) hxm
    have d2 : Der [allF OL fmO] (fmO x) := Der.elem (L := OL) (F := fmO) (x := x) (Der.mem (.head _)) hxm
    refine gk_der [allF OL faO] d1 sS ?_
    refine gk_der [allF OL fmO] d2 sS ?_
    by_cases hg : 300 < x.D.length ∨ 100 < x.M.length
    · have hgr := fun w => calls_b (tB_true hg) (great_any x w hxo)
      (repeat' (first | (refine gG ?_; try intro _) | (refine g_mv rfl ?_; first | refine mv_call_bel (fun w hk => hgr w) rfl rfl rfl rfl rfl (by kernel_rfl) ?_) | ((first | refine g_split rfl rfl tE (fun _ => ?_) (fun _ => ?_) | refine gk_cond rfl rfl tE (fun _ => ?_) (fun _ => ?_)) <;> (try first | (exfalso; omega; done) | (rename_i hx; exact absurd rfl hx) | (rename_i hx; cases hx; done)))))
      refine gk_ret hT rfl rfl (.tmp rfl .nil) (fun w' hk => ?_)
      exact ⟨rfl, hk.toBelow⟩
    have hgr := fun w => calls_b (tB_false hg) (great_any x w hxo)
    have hb : RecD.Bd ⟨(gn : Int), ((fs + R.length : Nat) : Int), (i : Int), x⟩ := ⟨⟨by dsimp only; omega, by dsimp only; omega⟩, ⟨by dsimp only; omega, by dsimp only; omega⟩, ⟨by dsimp only; omega, by dsimp only; omega⟩, hxb⟩
    (repeat' (first | (refine gG ?_; try intro _) | (refine g_mv rfl ?_; first | refine mv_call_bel (fun w hk => hgr w) rfl rfl rfl rfl rfl (by kernel_rfl) ?_) | ((first | refine g_split rfl rfl tE (fun _ => ?_) (fun _ => ?_) | refine gk_cond rfl rfl tE (fun _ => ?_) (fun _ => ?_)) <;> (try first | (exfalso; omega; done) | (rename_i hx; exact absurd rfl hx) | (rename_i hx; cases hx; done)))))
    refine g_say 100 (.int .u64 (i : Nat)) rfl rfl ?_
    apply joinD (fun q : JnT => ApI S z gn fs (i + 1) q) (fun q => [(1, .slice (some ⟨og, oo, none⟩) n c), (2, .int .u64 (ot : Nat)), (3, .pointer (some ⟨g3, 0, none⟩)), (9, .pointer (some ⟨t, 0, none⟩)), (13, .slice q.wA q.R.length q.wc), (14, .int .i64 (i : Nat))]) (fun q => [blk g3 [.int .i64 (z : Nat), .int .u64 (gn : Nat), .int .u64 (fs : Nat)] 24, blk t [.pointer (some ⟨g, 0, none⟩), .int .i64 (z : Nat), .int .u64 (gn : Nat), .int .u64 (fs : Nat), .int .u64 ((fs + q.R.length : Nat) : Int)] 78, dkF g ⟨sv, q.lv, S, q.W⟩, own 0 44 11 (.slice q.wA q.R.length q.wc) rcE q.R, allF q.R faR, allF q.R fmR]) (fun q => [sl (some ⟨og, oo, none⟩) 8 opE OL, allF OL faO, allF OL fmO])
    case r =>
      intro J
      have hI2 := hI.next
      have hI2' : ApI S z gn fs (i + 1) ⟨lv, W, wA, wc, R⟩ := hI2
      by_cases hy : ¬ (1 ≤ x.k ∧ x.k ≤ 14 ∧ rrightB x = true)
      · refine g_mv rfl ?_; refine mv_call_bel (fun w hk => txapp_no t g z gn fs (fs + R.length) i x w hxo (by omega) hy (hk.rR (φ := faO x) mE) (hk.rR (φ := fmO x) mE) (hk.rO (φ := blk t [.pointer (some ⟨g, 0, none⟩), .int .i64 (z : Nat), .int .u64 (gn : Nat), .int .u64 (fs : Nat), .int .u64 ((fs + R.length : Nat) : Int)] 78) mE)) rfl rfl rfl rfl rfl (by kernel_rfl) ?_
        by_cases h14 : 14 < x.k
        · (repeat' (first | (refine gG ?_; try intro _) | ((first | refine g_split rfl rfl tE (fun _ => ?_) (fun _ => ?_) | refine gk_cond rfl rfl tE (fun _ => ?_) (fun _ => ?_)) <;> (try first | (exfalso; omega; done) | (rename_i hx; exact absurd rfl hx) | (rename_i hx; cases hx; done)))))
          refine gk_at rfl ?_
          refine gk_sel (by repeat (first | exact trivial | refine ⟨rfl, ?_⟩)) sA sS (J.out ⟨lv, W, wA, wc, R⟩ hI2')
        · have hf : rrightB x = false := by
            rw [Bool.eq_false_iff]
            intro h
            refine hy ⟨?_, by omega, h⟩
            unfold rrightB at h
            rw [Bool.and_eq_true] at h
            exact (tB_iff.1 h.1).1
          (repeat' (first | (refine gG ?_; try intro _) | (refine g_mv rfl ?_; first | refine mv_call_bel (fun w hk => calls_b hf (rright_any x w hxo ⟨hk.pR (faO x) mE, hk.pR (fmO x) mE⟩ (by omega))) rfl rfl rfl rfl rfl (by kernel_rfl) ?_) | ((first | refine g_split rfl rfl tE (fun _ => ?_) (fun _ => ?_) | refine gk_cond rfl rfl tE (fun _ => ?_) (fun _ => ?_)) <;> (try first | (exfalso; omega; done) | (rename_i hx; exact absurd rfl hx) | (rename_i hx; cases hx; done)))))
          refine gk_at rfl ?_
          refine gk_sel (by repeat (first | exact trivial | refine ⟨rfl, ?_⟩)) sA sS (J.out ⟨lv, W, wA, wc, R⟩ hI2')
      have hy := Decidable.not_not.1 hy
      by_cases hfull : R.length = z
      ·
        --<full
        as_aux_lemma =>
          (repeat' (first | (refine gG ?_; try intro _) | (refine g_mv rfl ?_; first | refine mv_call_bel (fun w hk => txapp_full' t g z gn fs (fs + R.length) i x w hxo hb (by omega) (by omega) hy (by omega) (by omega) (by omega) (by omega) (hk.rR (φ := faO x) mE) (hk.rR (φ := fmO x) mE) (hk.rO (φ := blk t [.pointer (some ⟨g, 0, none⟩), .int .i64 (z : Nat), .int .u64 (gn : Nat), .int .u64 (fs : Nat), .int .u64 ((fs + R.length : Nat) : Int)] 78) mE)) rfl rfl rfl rfl rfl (by kernel_rfl) ?_ | refine mv_call_bel (fun w hk => calls_b hy.2.2 (rright_any x w hxo ⟨hk.pR (faO x) mE, hk.pR (fmO x) mE⟩ (by omega))) rfl rfl rfl rfl rfl (by kernel_rfl) ?_) | ((first | refine g_split rfl rfl tE (fun _ => ?_) (fun _ => ?_) | refine gk_cond rfl rfl tE (fun _ => ?_) (fun _ => ?_)) <;> (try first | (exfalso; omega; done) | (rename_i hx; exact absurd rfl hx) | (rename_i hx; cases hx; done)))))
          refine gk_at rfl ?_
          refine gk_sel (by repeat (first | exact trivial | refine ⟨rfl, ?_⟩)) sA sS (J.out ⟨lv, W, wA, wc, R⟩ hI2')
        -->full
      ·
        --<ok
        as_aux_lemma =>
          refine g_pack [blk t [.pointer (some ⟨g, 0, none⟩), .int .i64 (z : Nat), .int .u64 (gn : Nat), .int .u64 (fs : Nat), .int .u64 ((fs + R.length : Nat) : Int)] 78, dkF g ⟨sv, lv, S, W⟩] [blk g3 [.int .i64 (z : Nat), .int .u64 (gn : Nat), .int .u64 (fs : Nat)] 24, own 0 44 11 (.slice wA R.length wc) rcE R, allF R faR, allF R fmR] sA ?_
          refine g_mv rfl (mv_call_mod (φ := packF [blk t [.pointer (some ⟨g, 0, none⟩), .int .i64 (z : Nat), .int .u64 (gn : Nat), .int .u64 (fs : Nat), .int .u64 ((fs + R.length : Nat) : Int)] 78, dkF g ⟨sv, lv, S, W⟩]) (ψ := fun q : Value × SecD => packF [blk t [.pointer (some ⟨g, 0, none⟩), .int .i64 (z : Nat), .int .u64 (gn : Nat), .int .u64 (fs : Nat), .int .u64 ((fs + R.length + 1 : Nat) : Int)] 78, dkF g ⟨sv, q.1, S, W ++ [(⟨plc fs z R.length, q.2⟩ : WrD)]⟩]) (fun w hk => by exact txapp_put t g z gn fs (fs + R.length) i x sv lv S W w hxo hb (by omega) (by omega) hy (by omega) hz0 (by omega) (by omega) (by omega) hD (by omega) (by omega) (hk.rR (φ := faO x) mE) (hk.rR (φ := fmO x) mE) (fun b hb => ⟨hk.disR _ mE _ mE b hb, hk.disR _ mE _ mE b hb⟩) (hk.rO (φ := packF [blk t [.pointer (some ⟨g, 0, none⟩), .int .i64 (z : Nat), .int .u64 (gn : Nat), .int .u64 (fs : Nat), .int .u64 ((fs + R.length : Nat) : Int)] 78, dkF g ⟨sv, lv, S, W⟩]) mE)) rfl rfl rfl rfl rfl (by kernel_rfl) (by intro _; first | ((repeat (first | with_reducible exact Upd.here _ | with_reducible apply Upd.there)); done) | ((repeat (first | exact Upd.here _ | apply Upd.there)); done) | fail) (fun q hq => ?_))
          obtain ⟨qv, qd⟩ := q
          obtain ⟨hd, hdL⟩ := hq
          dsimp only at hd hdL ⊢
          refine g_unpack (l := [blk t [.pointer (some ⟨g, 0, none⟩), .int .i64 (z : Nat), .int .u64 (gn : Nat), .int .u64 (fs : Nat), .int .u64 ((fs + R.length + 1 : Nat) : Int)] 78, dkF g ⟨sv, qv, S, W ++ [(⟨plc fs z R.length, qd⟩ : WrD)]⟩]) (by repeat (first | with_reducible exact Sel.here | with_reducible apply Sel.there)) ?_
          (repeat' (first | (refine gG ?_; try intro _) | (refine g_mv rfl ?_; first | refine mv_call_bel (fun w hk => calls_b hy.2.2 (rright_any x w hxo ⟨hk.pR (faO x) mE, hk.pR (fmO x) mE⟩ (by omega))) rfl rfl rfl rfl rfl (by kernel_rfl) ?_) | ((first | refine g_split rfl rfl tE (fun _ => ?_) (fun _ => ?_) | refine gk_cond rfl rfl tE (fun _ => ?_) (fun _ => ?_)) <;> (try first | (exfalso; omega; done) | (rename_i hx; exact absurd rfl hx) | (rename_i hx; cases hx; done)))))
          refine gk_say 17 (.int .u64 ((fs + R.length : Nat) : Int)) rfl (by congr 1) ?_
          refine gk_sel (f' := [(1, .slice (some ⟨og, oo, none⟩) n c), (2, .int .u64 (ot : Nat)), (3, .pointer (some ⟨g3, 0, none⟩)), (9, .pointer (some ⟨t, 0, none⟩)), (13, .slice wA R.length wc), (14, .int .i64 (i : Nat)), (15, .int .u64 ((fs + R.length : Nat) : Int)), (16, .int .i64 0), (17, .int .u64 ((fs + R.length : Nat) : Int))]) (O' := [blk g3 [.int .i64 (z : Nat), .int .u64 (gn : Nat), .int .u64 (fs : Nat)] 24, blk t [.pointer (some ⟨g, 0, none⟩), .int .i64 (z : Nat), .int .u64 (gn : Nat), .int .u64 (fs : Nat), .int .u64 ((fs + R.length + 1 : Nat) : Int)] 78, dkF g ⟨sv, qv, S, W ++ [(⟨plc fs z R.length, qd⟩ : WrD)]⟩, own 0 44 11 (.slice wA R.length wc) rcE R, allF R faR, allF R fmR]) (R' := [row og (oo + i * 8) (encF opE x 0 8), faO x, fmO x, sl (some ⟨og, oo, none⟩) 8 opE OL, allF OL faO, allF OL fmO]) (by repeat (first | exact trivial | refine ⟨rfl, ?_⟩)) sA sS ?_
          refine gk_any [0, 1, 2, 4, 5, 6, 7, 8, 9, 10, 11] (Cut _ (fun q : {q : (Option Addr × Nat) × OpD // PlainAt x (looks x.k) q.2} => [(1, .slice (some ⟨og, oo, none⟩) n c), (2, .int .u64 (ot : Nat)), (3, .pointer (some ⟨g3, 0, none⟩)), (9, .pointer (some ⟨t, 0, none⟩)), (13, .slice q.1.1.1 (R ++ [(⟨(gn : Int), ((fs + R.length : Nat) : Int), (i : Int), q.1.2⟩ : RecD)]).length q.1.1.2), (14, .int .i64 (i : Nat)), (15, .int .u64 ((fs + R.length : Nat) : Int)), (16, .int .i64 0), (17, .int .u64 ((fs + R.length : Nat) : Int))]) (fun q => [own 0 44 11 (.slice q.1.1.1 (R ++ [(⟨(gn : Int), ((fs + R.length : Nat) : Int), (i : Int), q.1.2⟩ : RecD)]).length q.1.1.2) rcE (R ++ [(⟨(gn : Int), ((fs + R.length : Nat) : Int), (i : Int), q.1.2⟩ : RecD)]), faO q.1.2, fmO q.1.2, blk g3 [.int .i64 (z : Nat), .int .u64 (gn : Nat), .int .u64 (fs : Nat)] 24, blk t [.pointer (some ⟨g, 0, none⟩), .int .i64 (z : Nat), .int .u64 (gn : Nat), .int .u64 (fs : Nat), .int .u64 ((fs + R.length + 1 : Nat) : Int)] 78, dkF g ⟨sv, qv, S, W ++ [(⟨plc fs z R.length, qd⟩ : WrD)]⟩, allF R faR, allF R fmR]) (fun _ => [sl (some ⟨og, oo, none⟩) 8 opE OL, allF OL faO, allF OL fmO])) rfl rfl (by kernel_rfl) ?_ (cut_k fun q => ?_)
          · skip
            refine gb_take 0 rfl (by decide +kernel) rfl rfl (ys_ev (nw := true) hT rfl sI) sF ?_
            refine gb_take 1 rfl (by decide +kernel) rfl rfl (ys_ev (nw := true) hT rfl sI) sF ?_
            refine gb_take 2 rfl (by decide +kernel) rfl rfl (by first | exact ys_blk hT rfl rfl mE rfl rfl | exact ys_row hT rfl rfl mE rfl rfl | exact ys_row0 hT rfl rfl mE rfl rfl) sF ?_
            refine gb_take 3 rfl (by decide +kernel) rfl rfl (ys_ev (nw := true) hT rfl sI) sF ?_
            refine gb_take 4 rfl (by decide +kernel) rfl rfl (ys_ev (nw := true) hT rfl sI) sF ?_
            refine gb_take 5 rfl (by decide +kernel) rfl rfl (ys_ev (nw := true) hT rfl sI) sF ?_
            refine gb_take 6 rfl (by decide +kernel) rfl rfl (ys_ev (nw := true) hT rfl sI) sF ?_
            refine gb_take 7 rfl (by decide +kernel) rfl rfl (ys_ev (nw := true) hT rfl sI) sF ?_
            refine gb_take 8 rfl (by decide +kernel) rfl rfl (ys_ev (nw := true) hT rfl sI) sF ?_
            refine gb_take 9 rfl (by decide +kernel) rfl rfl (by first | exact ys_blk hT rfl rfl mE rfl rfl | exact ys_row hT rfl rfl mE rfl rfl | exact ys_row0 hT rfl rfl mE rfl rfl) sF ?_
            refine gb_only 10 (by decide +kernel) rfl rfl ?_
            (refine mv_call_ret (fun w hk => rplain_any x w hxo ⟨hk.pR (faO x) mE, hk.pR (fmO x) mE⟩ (by omega) (by omega)) rfl rfl rfl rfl rfl (by kernel_rfl) (fun p hp => ?_); obtain ⟨pk, pv, pi, pb, pc, pp, ⟨A1, n1, c1⟩, D1, ⟨A2, n2, c2⟩, M1⟩ := p; dsimp only [OpD.fs, OpD.val, opV, SlV.v])
            refine ⟨sF, ?_⟩
            refine gb_take 11 rfl (by decide +kernel) rfl rfl (ys_ev (nw := true) hT rfl sI) sF ?_
            refine gb_only 12 (by decide +kernel) rfl rfl ?_
            (refine mv_buildSlice (len := 1) rfl hT rfl rfl rfl rfl rfl rfl rfl rfl ?_; intro g6)
            refine ⟨sF, ?_⟩
            refine gb_only 13 (by decide +kernel) rfl rfl ?_
            (refine mv_append (L := R) rfl [(⟨(gn : Int), ((fs + R.length : Nat) : Int), (i : Int), (⟨pk, pv, pi, pb, pc, pp, ⟨A1, n1, c1⟩, D1, ⟨A2, n2, c2⟩, M1⟩ : OpD)⟩ : RecD)] rfl rfl rfl rfl elt_Rc (by intro _; first | ((repeat (first | with_reducible exact Upd.here _ | with_reducible apply Upd.there)); done) | ((repeat (first | exact Upd.here _ | apply Upd.there)); done) | fail) (src_blk mE rfl) rfl oneRc (by simp only [maxLen, List.length_append, List.length_cons, List.length_nil]; omega) (by simp only [List.length_append, List.length_cons, List.length_nil]; omega) (Nat.zero_le _) ?_; intro v2)
            refine ⟨sF, ?_⟩
            (refine gb_ownv v2 mE (fun A3 c3 hv3 _ _ _ => ?_); subst hv3)
            refine gb_take 14 rfl (by decide +kernel) rfl rfl (ys_ev (nw := true) hT rfl sI) sF ?_
            refine gb_nil (by decide +kernel) ?_
            exact ⟨⟨((A3, c3), (⟨pk, pv, pi, pb, pc, pp, ⟨A1, n1, c1⟩, D1, ⟨A2, n2, c2⟩, M1⟩ : OpD)), hp⟩, (by repeat (first | exact trivial | refine ⟨rfl, ?_⟩)), sA, sS⟩
          obtain ⟨⟨⟨A3, c3⟩, p⟩, hp⟩ := q
          dsimp only at hp ⊢
          have hr9 := rcI_any ⟨(gn : Int), ((fs + R.length : Nat) : Int), (i : Int), x⟩ hb hy (by dsimp only; omega) (by dsimp only; omega) hp
          have hpf := plain_few hp (by omega) (by omega)
          have hI3 : ApI S z gn fs (i + 1) ⟨qv, W ++ [(⟨plc fs z R.length, qd⟩ : WrD)], A3, c3, R ++ [(⟨(gn : Int), ((fs + R.length : Nat) : Int), (i : Int), p⟩ : RecD)]⟩ := by
            refine ⟨hG.snoc (by omega) (by rw [hdL]; exact hr9) rfl rfl (fun a => read_snoc a), dk_snoc hD (by unfold plc; have := Nat.mod_lt (fs + R.length) (show 0 < z by omega); omega) hd, ?_, ?_, fun r hr => ?_⟩
            · simp only [List.length_append, List.length_cons, List.length_nil]; omega
            · simp only [List.length_append, List.length_cons, List.length_nil]; omega
            · rcases List.mem_append.1 hr with hr | hr
              · exact hRk r hr
              · obtain rfl := List.mem_singleton.1 hr
                exact ⟨⟨hp.ok⟩, hpf⟩
          (repeat' (first | (refine gG ?_; try intro _) | ((first | refine g_split rfl rfl tE (fun _ => ?_) (fun _ => ?_) | refine gk_cond rfl rfl tE (fun _ => ?_) (fun _ => ?_)) <;> (try first | (exfalso; omega; done) | (rename_i hx; exact absurd rfl hx) | (rename_i hx; cases hx; done)))))
          rw [show fs + R.length + 1 = fs + (R ++ [(⟨(gn : Int), ((fs + R.length : Nat) : Int), (i : Int), p⟩ : RecD)]).length by rw [List.length_append]; rfl]
          generalize hRe : R ++ [(⟨(gn : Int), ((fs + R.length : Nat) : Int), (i : Int), p⟩ : RecD)] = R2 at *
          refine gk_derO [allF R faR, faO p] [blk g3 [.int .i64 (z : Nat), .int .u64 (gn : Nat), .int .u64 (fs : Nat)] 24, blk t [.pointer (some ⟨g, 0, none⟩), .int .i64 (z : Nat), .int .u64 (gn : Nat), .int .u64 (fs : Nat), .int .u64 ((fs + R2.length : Nat) : Int)] 78, dkF g ⟨sv, qv, S, W ++ [(⟨plc fs z R.length, qd⟩ : WrD)]⟩, own 0 44 11 (.slice A3 R2.length c3) rcE R2, allF R fmR, fmO p] (φ := allF R2 faR) (by rw [← hRe]; exact rder_snoc (F := faR) (L := R) (p := ⟨(gn : Int), ((fs + R.length : Nat) : Int), (i : Int), p⟩)) sA ?_
          refine gk_derO [allF R fmR, fmO p] [allF R2 faR, blk g3 [.int .i64 (z : Nat), .int .u64 (gn : Nat), .int .u64 (fs : Nat)] 24, blk t [.pointer (some ⟨g, 0, none⟩), .int .i64 (z : Nat), .int .u64 (gn : Nat), .int .u64 (fs : Nat), .int .u64 ((fs + R2.length : Nat) : Int)] 78, dkF g ⟨sv, qv, S, W ++ [(⟨plc fs z R.length, qd⟩ : WrD)]⟩, own 0 44 11 (.slice A3 R2.length c3) rcE R2] (φ := allF R2 fmR) (by rw [← hRe]; exact rder_snoc (F := fmR) (L := R) (p := ⟨(gn : Int), ((fs + R.length : Nat) : Int), (i : Int), p⟩)) sA ?_
          refine gk_at rfl ?_
          refine gk_sel (by repeat (first | exact trivial | refine ⟨rfl, ?_⟩)) sA sS (J.out ⟨qv, W ++ [(⟨plc fs z R.length, qd⟩ : WrD)], A3, c3, R2⟩ hI3)
        -->ok
    case g =>
      --<tail
      as_aux_lemma =>
        clear hI hG hD hW hR hRk hGl hb
        rintro ⟨lv, W, wA, wc, R⟩ hI
        dsimp only
        have hR := hI.r
        have hle := hI.g.len
        dsimp only at hR hle
        have hln := fun w h => txlen_any t g z gn fs (fs + R.length) (by omega) (by omega) (by omega) w h
        have hrm := fun w h => txroom_any t g z gn fs (fs + R.length) (by omega) (by omega) (by omega) w h
        rw [Nat.add_sub_cancel_left] at hln hrm
        refine gk_any [0, 1, 2, 3, 4, 5, 6, 7, 8] (Cut _ (fun _ : Unit => [(1, .slice (some ⟨og, oo, none⟩) n c), (2, .int .u64 (ot : Nat)), (3, .pointer (some ⟨g3, 0, none⟩)), (9, .pointer (some ⟨t, 0, none⟩)), (13, .slice wA R.length wc), (14, .int .i64 (i : Nat)), (189, .bool false)]) (fun _ => [blk g3 [.int .i64 (z : Nat), .int .u64 (gn : Nat), .int .u64 (fs : Nat)] 24, blk t [.pointer (some ⟨g, 0, none⟩), .int .i64 (z : Nat), .int .u64 (gn : Nat), .int .u64 (fs : Nat), .int .u64 ((fs + R.length : Nat) : Int)] 78, dkF g ⟨sv, lv, S, W⟩, own 0 44 11 (.slice wA R.length wc) rcE R, allF R faR, allF R fmR]) (fun _ => [sl (some ⟨og, oo, none⟩) 8 opE OL, allF OL faO, allF OL fmO])) rfl rfl (by kernel_rfl) ?_ (cut_k fun _ => ?_)
        · skip
          refine gb_take 0 rfl (by decide +kernel) rfl rfl (ys_ev (nw := true) hT rfl sI) sF ?_
          refine gb_take 2 rfl (by decide +kernel) rfl rfl (ys_ev (nw := true) hT rfl sI) sF ?_
          refine gb_take 3 rfl (by decide +kernel) rfl rfl (ys_ev (nw := true) hT rfl sI) sF ?_
          refine gb_only 1 (by decide +kernel) rfl rfl ?_
          refine mv_call_bel (fun w hk => hln w (hk.rO (φ := blk t [.pointer (some ⟨g, 0, none⟩), .int .i64 (z : Nat), .int .u64 (gn : Nat), .int .u64 (fs : Nat), .int .u64 ((fs + R.length : Nat) : Int)] 78) mE)) rfl rfl rfl rfl rfl (by kernel_rfl) ?_
          refine ⟨sF, ?_⟩
          refine gb_take 4 rfl (by decide +kernel) rfl rfl (ys_ev (nw := true) hT rfl sI) sF ?_
          try (refine gb_say 168 (.bool false) rfl (congrArg Value.bool (tB_false (by omega))) ?_)
          refine gb_take 5 rfl (by decide +kernel) rfl rfl (ys_ev (nw := true) hT rfl sI) sF ?_
          first | refine gb_take 6 rfl (by decide +kernel) rfl rfl (ys_ev (nw := true) hT rfl sI) sF ?_ | refine gb_skip 6 rfl (by decide +kernel) rfl rfl sF ?_
          first | refine gb_take 8 rfl (by decide +kernel) rfl rfl (ys_ev (nw := true) hT rfl sI) sF ?_ | refine gb_skip 8 rfl (by decide +kernel) rfl rfl sF ?_
          first | refine gb_take 9 rfl (by decide +kernel) rfl rfl (by first | exact ys_blk hT rfl rfl mE rfl rfl | exact ys_row hT rfl rfl mE rfl rfl | exact ys_row0 hT rfl rfl mE rfl rfl) sF ?_ | refine gb_skip 9 rfl (by decide +kernel) rfl rfl sF ?_
          first | refine gb_take 10 rfl (by decide +kernel) rfl rfl (ys_ev (nw := true) hT rfl sI) sF ?_ | refine gb_skip 10 rfl (by decide +kernel) rfl rfl sF ?_
          first | refine gb_take 11 rfl (by decide +kernel) rfl rfl (ys_ev (nw := true) hT rfl sI) sF ?_ | refine gb_skip 11 rfl (by decide +kernel) rfl rfl sF ?_
          first | refine gb_take 12 rfl (by decide +kernel) rfl rfl (ys_ev (nw := true) hT rfl sI) sF ?_ | refine gb_skip 12 rfl (by decide +kernel) rfl rfl sF ?_
          first | refine gb_skip 7 rfl (by decide +kernel) rfl rfl sF ?_ | (refine gb_only 7 (by decide +kernel) rfl rfl ?_; (refine mv_call_bel (fun w hk => hrm w (hk.rO (φ := blk t [.pointer (some ⟨g, 0, none⟩), .int .i64 (z : Nat), .int .u64 (gn : Nat), .int .u64 (fs : Nat), .int .u64 ((fs + R.length : Nat) : Int)] 78) mE)) rfl rfl rfl rfl rfl (by kernel_rfl) ?_); refine ⟨sF, ?_⟩)
          first | refine gb_take 13 rfl (by decide +kernel) rfl rfl (ys_ev (nw := true) hT rfl sI) sF ?_ | refine gb_skip 13 rfl (by decide +kernel) rfl rfl sF ?_
          try (refine gb_say 177 (.bool false) rfl (congrArg Value.bool (tB_false (by omega))) ?_)
          refine gb_take 14 rfl (by decide +kernel) rfl rfl (ys_ev (nw := true) hT rfl sI) sF ?_
          refine gb_take 15 rfl (by decide +kernel) rfl rfl (ys_ev (nw := true) hT rfl sI) sF ?_
          first | refine gb_take 16 rfl (by decide +kernel) rfl rfl (ys_ev (nw := true) hT rfl sI) sF ?_ | refine gb_skip 16 rfl (by decide +kernel) rfl rfl sF ?_
          first | refine gb_take 18 rfl (by decide +kernel) rfl rfl (ys_ev (nw := true) hT rfl sI) sF ?_ | refine gb_skip 18 rfl (by decide +kernel) rfl rfl sF ?_
          first | refine gb_take 19 rfl (by decide +kernel) rfl rfl (by first | exact ys_blk hT rfl rfl mE rfl rfl | exact ys_row hT rfl rfl mE rfl rfl | exact ys_row0 hT rfl rfl mE rfl rfl) sF ?_ | refine gb_skip 19 rfl (by decide +kernel) rfl rfl sF ?_
          first | refine gb_take 20 rfl (by decide +kernel) rfl rfl (ys_ev (nw := true) hT rfl sI) sF ?_ | refine gb_skip 20 rfl (by decide +kernel) rfl rfl sF ?_
          first | refine gb_take 21 rfl (by decide +kernel) rfl rfl (ys_ev (nw := true) hT rfl sI) sF ?_ | refine gb_skip 21 rfl (by decide +kernel) rfl rfl sF ?_
          first | refine gb_take 22 rfl (by decide +kernel) rfl rfl (ys_ev (nw := true) hT rfl sI) sF ?_ | refine gb_skip 22 rfl (by decide +kernel) rfl rfl sF ?_
          first | refine gb_take 23 rfl (by decide +kernel) rfl rfl (ys_ev (nw := true) hT rfl sI) sF ?_ | refine gb_skip 23 rfl (by decide +kernel) rfl rfl sF ?_
          first | refine gb_skip 17 rfl (by decide +kernel) rfl rfl sF ?_ | (refine gb_only 17 (by decide +kernel) rfl rfl ?_; (refine mv_call_bel (fun w hk => txnext_any t g z gn fs (fs + R.length) w (hk.rO (φ := blk t [.pointer (some ⟨g, 0, none⟩), .int .i64 (z : Nat), .int .u64 (gn : Nat), .int .u64 (fs : Nat), .int .u64 ((fs + R.length : Nat) : Int)] 78) mE)) rfl rfl rfl rfl rfl (by kernel_rfl) ?_); refine ⟨sF, ?_⟩)
          first | refine gb_take 24 rfl (by decide +kernel) rfl rfl (ys_ev (nw := true) hT rfl sI) sF ?_ | refine gb_skip 24 rfl (by decide +kernel) rfl rfl sF ?_
          try (refine gb_say 188 (.bool false) rfl (congrArg Value.bool (tB_false (by omega))) ?_)
          refine gb_take 25 rfl (by decide +kernel) rfl rfl (ys_ev (nw := true) hT rfl sI) sF ?_
          refine gb_nil (by decide +kernel) ?_
          exact ⟨(), (by repeat (first | exact trivial | refine ⟨rfl, ?_⟩)), sA, sS⟩
        (repeat (refine gG ?_; try intro _))
        refine gk_again_sel rfl (i + 1, lv, W, wA, wc, R) ⟨hlt, hI⟩ (by dsimp only; omega) (by repeat (first | exact trivial | refine ⟨rfl, ?_⟩)) sA sS
      -->tail
  ·
    --<fin
    as_aux_lemma =>
      obtain rfl : i = n := by omega
      (repeat' (first | (refine gG ?_; try intro _) | ((first | refine g_split rfl rfl tE (fun _ => ?_) (fun _ => ?_) | refine gk_cond rfl rfl tE (fun _ => ?_) (fun _ => ?_)) <;> (try first | (exfalso; omega; done) | (rename_i hx; exact absurd rfl hx) | (rename_i hx; cases hx; done)))))
      refine g_pack [blk t [.pointer (some ⟨g, 0, none⟩), .int .i64 (z : Nat), .int .u64 (gn : Nat), .int .u64 (fs : Nat), .int .u64 ((fs + R.length : Nat) : Int)] 78, dkF g ⟨sv, lv, S, W⟩] [blk g3 [.int .i64 (z : Nat), .int .u64 (gn : Nat), .int .u64 (fs : Nat)] 24, own 0 44 11 (.slice wA R.length wc) rcE R, allF R faR, allF R fmR] sA ?_
      have hsc := scan_same hG.log z 0 rfl (Nat.zero_le _)
      have hold := hG.old (by omega)
      refine g_mv rfl (mv_call_mod (φ := packF [blk t [.pointer (some ⟨g, 0, none⟩), .int .i64 (z : Nat), .int .u64 (gn : Nat), .int .u64 (fs : Nat), .int .u64 ((fs + R.length : Nat) : Int)] 78, dkF g ⟨sv, lv, S, W⟩]) (ψ := fun q : ScD => packF (scL t g z gn fs ⟨sv, lv, S, W⟩ q)) (fun w hk => by exact txscan_any t g z gn fs (fs + R.length) sv lv S W w hz0 (by omega) (by omega) hD (by omega) (by omega) (hk.rO (φ := packF [blk t [.pointer (some ⟨g, 0, none⟩), .int .i64 (z : Nat), .int .u64 (gn : Nat), .int .u64 (fs : Nat), .int .u64 ((fs + R.length : Nat) : Int)] 78, dkF g ⟨sv, lv, S, W⟩]) mE)) rfl rfl rfl rfl rfl (by kernel_rfl) (by intro _; first | ((repeat (first | with_reducible exact Upd.here _ | with_reducible apply Upd.there)); done) | ((repeat (first | exact Upd.here _ | apply Upd.there)); done) | fail) (fun q hq => ?_))
      obtain ⟨gA, gc, out⟩ := q
      obtain ⟨h1, h2, h3⟩ := hq
      dsimp only at h1 h2 h3 ⊢
      have hso := h1.trans hsc
      rw [List.drop_zero] at hso
      have hol := hso.len
      refine g_unpack (l := scL t g z gn fs ⟨sv, lv, S, W⟩ ⟨gA, gc, out⟩) (by repeat (first | with_reducible exact Sel.here | with_reducible apply Sel.there)) ?_
      dsimp only [scL, List.cons_append, List.nil_append]
      rw [hol]
      have hln := fun w h => txlen_any t g z gn fs (fs + R.length) (by omega) (by omega) (by omega) w h
      rw [Nat.add_sub_cancel_left] at hln
      (repeat' (first | (refine gG ?_; try intro _) | (refine g_mv rfl ?_; first | refine mv_call_bel (fun w hk => hln w (hk.rO (φ := blk t [.pointer (some ⟨g, 0, none⟩), .int .i64 (z : Nat), .int .u64 (gn : Nat), .int .u64 (fs : Nat), .int .u64 ((fs + R.length : Nat) : Int)] 78) mE)) rfl rfl rfl rfl rfl (by kernel_rfl) ?_) | ((first | refine g_split rfl rfl tE (fun _ => ?_) (fun _ => ?_) | refine gk_cond rfl rfl tE (fun _ => ?_) (fun _ => ?_)) <;> (try first | (exfalso; omega; done) | (rename_i hx; exact absurd rfl hx) | (rename_i hx; cases hx; done)))))
      refine gk_freeze (.slice wA R.length wc) (by intro _; first | ((repeat (first | with_reducible exact Upd.here _ | with_reducible apply Upd.there)); done) | ((repeat (first | exact Upd.here _ | apply Upd.there)); done) | fail) (fun A' c' e _ _ _ => ?_)
      injection e with e1 _ e3
      subst e1
      refine gk_share (φ := sl gA 11 rcE out) (by repeat (first | with_reducible exact Sel.here | with_reducible apply Sel.there)) ?_
      refine gk_share (φ := sl wA 11 rcE R) (by repeat (first | with_reducible exact Sel.here | with_reducible apply Sel.there)) ?_
      refine gk_share (φ := allF out faR) (by repeat (first | with_reducible exact Sel.here | with_reducible apply Sel.there)) ?_
      refine gk_share (φ := allF out fmR) (by repeat (first | with_reducible exact Sel.here | with_reducible apply Sel.there)) ?_
      refine gk_share (φ := allF R faR) (by repeat (first | with_reducible exact Sel.here | with_reducible apply Sel.there)) ?_
      refine gk_share (φ := allF R fmR) (by repeat (first | with_reducible exact Sel.here | with_reducible apply Sel.there)) ?_
      refine gk_loop_sel (fun (j : Nat) => (j ≤ R.length)) (fun (j : Nat) => [(2, .int .u64 (ot : Nat)), (3, .pointer (some ⟨g3, 0, none⟩)), (9, .pointer (some ⟨t, 0, none⟩)), (13, .slice wA R.length wc), (18, .slice gA R.length gc), (19, .int .i64 (j : Int))]) (fun (j : Nat) => [blk t [.pointer (some ⟨g, 0, none⟩), .int .i64 (z : Nat), .int .u64 (gn : Nat), .int .u64 (fs : Nat), .int .u64 ((fs + R.length : Nat) : Int)] 78, dkF g ⟨sv, lv, S, W⟩, blk g3 [.int .i64 (z : Nat), .int .u64 (gn : Nat), .int .u64 (fs : Nat)] 24]) (fun (j : Nat) => [sl gA 11 rcE out, sl wA 11 rcE R, allF out faR, allF out fmR, allF R faR, allF R fmR]) (fun (j : Nat) => R.length - j) 0 rfl (Nat.zero_le _) (by repeat (first | exact trivial | refine ⟨rfl, ?_⟩)) sA sS ?_
      rintro j hI
      replace hI : (j ≤ R.length) := hI
      change GK _ _ [(2, .int .u64 (ot : Nat)), (3, .pointer (some ⟨g3, 0, none⟩)), (9, .pointer (some ⟨t, 0, none⟩)), (13, .slice wA R.length wc), (18, .slice gA R.length gc), (19, .int .i64 (j : Int))] [blk t [.pointer (some ⟨g, 0, none⟩), .int .i64 (z : Nat), .int .u64 (gn : Nat), .int .u64 (fs : Nat), .int .u64 ((fs + R.length : Nat) : Int)] 78, dkF g ⟨sv, lv, S, W⟩, blk g3 [.int .i64 (z : Nat), .int .u64 (gn : Nat), .int .u64 (fs : Nat)] 24] [sl gA 11 rcE out, sl wA 11 rcE R, allF out faR, allF out fmR, allF R faR, allF R fmR]
      by_cases hj : j < R.length
      · obtain ⟨x, hx⟩ : ∃ b, out[j]? = some b := ⟨out[j], List.getElem?_eq_getElem (by omega)⟩
        obtain ⟨y, hy⟩ : ∃ b, R[j]? = some b := ⟨R[j], List.getElem?_eq_getElem (by omega)⟩
        have hxy := hso.all j x y hx hy
        refine gk_elem (A := gA) (enc := rcE) (L := out) j mE (by omega) (by decide) (fun b1 o1 x' e1 hx' => ?_)
        subst e1
        obtain rfl : x = x' := by rw [hx] at hx'; exact Option.some.inj hx'
        refine gk_elem (A := wA) (enc := rcE) (L := R) j mE (by omega) (by decide) (fun b2 o2 y' e2 hy' => ?_)
        subst e2
        obtain rfl : y = y' := by rw [hy] at hy'; exact Option.some.inj hy'
        have hxm := List.mem_of_getElem? hx
        have hym := List.mem_of_getElem? hy
        obtain ⟨hy1, hy2, hy3⟩ := hRk y hym
        have hxf := rc_few hxy hy2 hy3
        refine gk_der [allF out faR] (φ := faR x) (Der.elem (L := out) (F := faR) (x := x) (Der.mem (.head _)) hxm) sS ?_
        refine gk_der [allF out fmR] (φ := fmR x) (Der.elem (L := out) (F := fmR) (x := x) (Der.mem (.head _)) hxm) sS ?_
        refine gk_der [allF R faR] (φ := faR y) (Der.elem (L := R) (F := faR) (x := y) (Der.mem (.head _)) hym) sS ?_
        refine gk_der [allF R fmR] (φ := fmR y) (Der.elem (L := R) (F := fmR) (x := y) (Der.mem (.head _)) hym) sS ?_
        (repeat' (first | (refine gG ?_; try intro _) | ((first | refine g_split rfl rfl tE (fun _ => ?_) (fun _ => ?_) | refine gk_cond rfl rfl tE (fun _ => ?_) (fun _ => ?_)) <;> (try first | (exfalso; omega; done) | (rename_i hx; exact absurd rfl hx) | (rename_i hx; cases hx; done)))))
        refine gk_any [0, 1, 2, 3, 4, 5, 6, 7, 8, 9, 10, 11, 12, 13, 14] (Cut _ (fun _ : Unit => [(2, .int .u64 (ot : Nat)), (3, .pointer (some ⟨g3, 0, none⟩)), (9, .pointer (some ⟨t, 0, none⟩)), (13, .slice (some ⟨b2, o2, none⟩) R.length wc), (18, .slice (some ⟨b1, o1, none⟩) R.length gc), (19, .int .i64 (j : Int)), (219, .bool false)]) (fun _ => [blk t [.pointer (some ⟨g, 0, none⟩), .int .i64 (z : Nat), .int .u64 (gn : Nat), .int .u64 (fs : Nat), .int .u64 ((fs + R.length : Nat) : Int)] 78, dkF g ⟨sv, lv, S, W⟩, blk g3 [.int .i64 (z : Nat), .int .u64 (gn : Nat), .int .u64 (fs : Nat)] 24]) (fun _ => [sl (some ⟨b1, o1, none⟩) 11 rcE out, sl (some ⟨b2, o2, none⟩) 11 rcE R, allF out faR, allF out fmR, allF R faR, allF R fmR])) rfl rfl (by kernel_rfl) ?_ (cut_k fun _ => ?_)
        · skip
          refine gb_take 0 rfl (by decide +kernel) rfl rfl (ys_ev (nw := true) hT rfl sI) sF ?_
          refine gb_take 1 rfl (by decide +kernel) rfl rfl (ys_ev (nw := true) hT rfl sI) sF ?_
          refine gb_take 2 rfl (by decide +kernel) rfl rfl (ys_ev (nw := true) hT rfl sI) sF ?_
          refine gb_take 3 rfl (by decide +kernel) rfl rfl (by first | exact ys_blk hT rfl rfl mE rfl rfl | exact ys_row hT rfl rfl mE rfl rfl | exact ys_row0 hT rfl rfl mE rfl rfl) sF ?_
          refine gb_take 4 rfl (by decide +kernel) rfl rfl (ys_ev (nw := true) hT rfl sI) sF ?_
          refine gb_take 5 rfl (by decide +kernel) rfl rfl (ys_ev (nw := true) hT rfl sI) sF ?_
          refine gb_take 6 rfl (by decide +kernel) rfl rfl (ys_ev (nw := true) hT rfl sI) sF ?_
          refine gb_take 7 rfl (by decide +kernel) rfl rfl (by first | exact ys_blk hT rfl rfl mE rfl rfl | exact ys_row hT rfl rfl mE rfl rfl | exact ys_row0 hT rfl rfl mE rfl rfl) sF ?_
          refine gb_only 8 (by decide +kernel) rfl rfl ?_
          refine mv_call_bel (fun w hk => by exact calls_b (tB_true hxy) (rrcsame_any x y w (h2 x hxm) ⟨⟨hk.pR (faR x) mE, hk.pR (fmR x) mE⟩⟩ hy1 ⟨⟨hk.pR (faR y) mE, hk.pR (fmR y) mE⟩⟩ hxf)) rfl rfl rfl rfl rfl (by kernel_rfl) ?_
          refine ⟨sF, ?_⟩
          refine gb_take 9 rfl (by decide +kernel) rfl rfl (ys_ev (nw := true) hT rfl sI) sF ?_
          refine gb_nil (by decide +kernel) ?_
          exact ⟨(), (by repeat (first | exact trivial | refine ⟨rfl, ?_⟩)), sA, sS⟩
        (repeat (refine gG ?_; try intro _))
        refine gk_again_sel rfl (j + 1) (by omega) (by omega) (by repeat (first | exact trivial | refine ⟨rfl, ?_⟩)) sA sS
      · obtain rfl : j = R.length := by omega
        (repeat' (first | (refine gG ?_; try intro _) | ((first | refine g_split rfl rfl tE (fun _ => ?_) (fun _ => ?_) | refine gk_cond rfl rfl tE (fun _ => ?_) (fun _ => ?_)) <;> (try first | (exfalso; omega; done) | (rename_i hx; exact absurd rfl hx) | (rename_i hx; cases hx; done)))))
        refine g_mv rfl (mv_call_mod (φ := blk t [.pointer (some ⟨g, 0, none⟩), .int .i64 (z : Nat), .int .u64 (gn : Nat), .int .u64 (fs : Nat), .int .u64 ((fs + R.length : Nat) : Int)] 78) (ψ := fun _ : Unit => blk t [.pointer (some ⟨g, 0, none⟩), .int .i64 (z : Nat), .int .u64 (ot : Nat), .int .u64 ((fs + R.length : Nat) : Int), .int .u64 ((fs + R.length : Nat) : Int)] 78) (fun w hk => by exact txbegin_any t g z gn fs (fs + R.length) ot w (hk.rO (φ := blk t [.pointer (some ⟨g, 0, none⟩), .int .i64 (z : Nat), .int .u64 (gn : Nat), .int .u64 (fs : Nat), .int .u64 ((fs + R.length : Nat) : Int)] 78) mE)) rfl rfl rfl rfl rfl (by kernel_rfl) (by intro _; first | ((repeat (first | with_reducible exact Upd.here _ | with_reducible apply Upd.there)); done) | ((repeat (first | exact Upd.here _ | apply Upd.there)); done) | fail) (fun q hq => ?_))
        have hln := fun w h => txlen_any t g z ot (fs + R.length) (fs + R.length) (Nat.le_refl _) (by omega) (by omega) w h
        have hrm := fun w h => txroom_any t g z ot (fs + R.length) (fs + R.length) (Nat.le_refl _) (by omega) (by omega) w h
        have hnx := fun w h => txnext_any t g z ot (fs + R.length) (fs + R.length) w h
        rw [Nat.sub_self] at hln hrm
        rw [Nat.sub_zero] at hrm
        by_cases hog : ot = gn
        · (repeat (refine gG ?_; try intro _))
          refine gk_any [0, 1, 2, 3, 4, 5, 6, 7, 8] (Cut _ (fun _ : Unit => [(6, .bool true)]) (fun _ => []) (fun _ => [])) rfl rfl (by kernel_rfl) ?_ (cut_k fun _ => ?_)
          · skip
            refine gb_take 0 rfl (by decide +kernel) rfl rfl (ys_ev (nw := true) hT rfl sI) sF ?_
            refine gb_only 1 (by decide +kernel) rfl rfl ?_
            refine mv_call_bel (fun w hk => hln w (hk.rO (φ := blk t [.pointer (some ⟨g, 0, none⟩), .int .i64 (z : Nat), .int .u64 (ot : Nat), .int .u64 ((fs + R.length : Nat) : Int), .int .u64 ((fs + R.length : Nat) : Int)] 78) mE)) rfl rfl rfl rfl rfl (by kernel_rfl) ?_
            refine ⟨sF, ?_⟩
            refine gb_take 2 rfl (by decide +kernel) rfl rfl (ys_ev (nw := true) hT rfl sI) sF ?_
            try (refine gb_say 225 (.bool true) rfl (congrArg Value.bool (tB_true (by omega))) ?_)
            refine gb_take 3 rfl (by decide +kernel) rfl rfl (ys_ev (nw := true) hT rfl sI) sF ?_
            first | refine gb_take 4 rfl (by decide +kernel) rfl rfl (ys_ev (nw := true) hT rfl sI) sF ?_ | refine gb_skip 4 rfl (by decide +kernel) rfl rfl sF ?_
            first | refine gb_take 6 rfl (by decide +kernel) rfl rfl (ys_ev (nw := true) hT rfl sI) sF ?_ | refine gb_skip 6 rfl (by decide +kernel) rfl rfl sF ?_
            first | refine gb_take 7 rfl (by decide +kernel) rfl rfl (by first | exact ys_blk hT rfl rfl mE rfl rfl | exact ys_row hT rfl rfl mE rfl rfl | exact ys_row0 hT rfl rfl mE rfl rfl) sF ?_ | refine gb_skip 7 rfl (by decide +kernel) rfl rfl sF ?_
            first | refine gb_skip 5 rfl (by decide +kernel) rfl rfl sF ?_ | (refine gb_only 5 (by decide +kernel) rfl rfl ?_; (refine mv_call_bel (fun w hk => hrm w (hk.rO (φ := blk t [.pointer (some ⟨g, 0, none⟩), .int .i64 (z : Nat), .int .u64 (ot : Nat), .int .u64 ((fs + R.length : Nat) : Int), .int .u64 ((fs + R.length : Nat) : Int)] 78) mE)) rfl rfl rfl rfl rfl (by kernel_rfl) ?_); refine ⟨sF, ?_⟩)
            first | refine gb_take 8 rfl (by decide +kernel) rfl rfl (ys_ev (nw := true) hT rfl sI) sF ?_ | refine gb_skip 8 rfl (by decide +kernel) rfl rfl sF ?_
            try (refine gb_say 231 (.bool true) rfl (congrArg Value.bool (tB_true (by omega))) ?_)
            refine gb_take 9 rfl (by decide +kernel) rfl rfl (ys_ev (nw := true) hT rfl sI) sF ?_
            refine gb_take 10 rfl (by decide +kernel) rfl rfl (ys_ev (nw := true) hT rfl sI) sF ?_
            first | refine gb_take 11 rfl (by decide +kernel) rfl rfl (ys_ev (nw := true) hT rfl sI) sF ?_ | refine gb_skip 11 rfl (by decide +kernel) rfl rfl sF ?_
            first | refine gb_take 13 rfl (by decide +kernel) rfl rfl (ys_ev (nw := true) hT rfl sI) sF ?_ | refine gb_skip 13 rfl (by decide +kernel) rfl rfl sF ?_
            first | refine gb_take 14 rfl (by decide +kernel) rfl rfl (by first | exact ys_blk hT rfl rfl mE rfl rfl | exact ys_row hT rfl rfl mE rfl rfl | exact ys_row0 hT rfl rfl mE rfl rfl) sF ?_ | refine gb_skip 14 rfl (by decide +kernel) rfl rfl sF ?_
            first | refine gb_take 15 rfl (by decide +kernel) rfl rfl (ys_ev (nw := true) hT rfl sI) sF ?_ | refine gb_skip 15 rfl (by decide +kernel) rfl rfl sF ?_
            first | refine gb_take 16 rfl (by decide +kernel) rfl rfl (ys_ev (nw := true) hT rfl sI) sF ?_ | refine gb_skip 16 rfl (by decide +kernel) rfl rfl sF ?_
            first | refine gb_take 17 rfl (by decide +kernel) rfl rfl (ys_ev (nw := true) hT rfl sI) sF ?_ | refine gb_skip 17 rfl (by decide +kernel) rfl rfl sF ?_
            first | refine gb_take 18 rfl (by decide +kernel) rfl rfl (ys_ev (nw := true) hT rfl sI) sF ?_ | refine gb_skip 18 rfl (by decide +kernel) rfl rfl sF ?_
            first | refine gb_skip 12 rfl (by decide +kernel) rfl rfl sF ?_ | (refine gb_only 12 (by decide +kernel) rfl rfl ?_; (refine mv_call_bel (fun w hk => hnx w (hk.rO (φ := blk t [.pointer (some ⟨g, 0, none⟩), .int .i64 (z : Nat), .int .u64 (ot : Nat), .int .u64 ((fs + R.length : Nat) : Int), .int .u64 ((fs + R.length : Nat) : Int)] 78) mE)) rfl rfl rfl rfl rfl (by kernel_rfl) ?_); refine ⟨sF, ?_⟩)
            first | refine gb_take 19 rfl (by decide +kernel) rfl rfl (ys_ev (nw := true) hT rfl sI) sF ?_ | refine gb_skip 19 rfl (by decide +kernel) rfl rfl sF ?_
            try (refine gb_say 242 (.bool true) rfl (congrArg Value.bool (tB_true (by omega))) ?_)
            refine gb_take 20 rfl (by decide +kernel) rfl rfl (ys_ev (nw := true) hT rfl sI) sF ?_
            refine gb_take 21 rfl (by decide +kernel) rfl rfl (ys_ev (nw := true) hT rfl sI) sF ?_
            first | refine gb_take 22 rfl (by decide +kernel) rfl rfl (ys_ev (nw := true) hT rfl sI) sF ?_ | refine gb_skip 22 rfl (by decide +kernel) rfl rfl sF ?_
            first | refine gb_take 23 rfl (by decide +kernel) rfl rfl (ys_ev (nw := true) hT rfl sI) sF ?_ | refine gb_skip 23 rfl (by decide +kernel) rfl rfl sF ?_
            first | refine gb_take 24 rfl (by decide +kernel) rfl rfl (by first | exact ys_blk hT rfl rfl mE rfl rfl | exact ys_row hT rfl rfl mE rfl rfl | exact ys_row0 hT rfl rfl mE rfl rfl) sF ?_ | refine gb_skip 24 rfl (by decide +kernel) rfl rfl sF ?_
            first | refine gb_take 25 rfl (by decide +kernel) rfl rfl (ys_ev (nw := true) hT rfl sI) sF ?_ | refine gb_skip 25 rfl (by decide +kernel) rfl rfl sF ?_
            try (refine gb_say 248 (.bool true) rfl (congrArg Value.bool (tB_true (by omega))) ?_)
            first | refine gb_take 26 rfl (by decide +kernel) rfl rfl (ys_ev (nw := true) hT rfl sI) sF ?_ | refine gb_skip 26 rfl (by decide +kernel) rfl rfl sF ?_
            first | refine gb_take 27 rfl (by decide +kernel) rfl rfl (ys_ev (nw := true) hT rfl sI) sF ?_ | refine gb_skip 27 rfl (by decide +kernel) rfl rfl sF ?_
            first | refine gb_skip 28 rfl (by decide +kernel) rfl rfl sF ?_ | (refine gb_only 28 (by decide +kernel) rfl rfl ?_; (first | (refine mv_box rfl rfl rfl rfl ?_; intro _) | (refine mv_alloc rfl hT rfl rfl ?_; intro _) | refine mv_store hT rfl rfl rfl rfl rfl rfl sO rfl ?_ | (refine mv_buildSlice rfl hT rfl rfl rfl rfl rfl rfl rfl rfl ?_; intro _)); refine ⟨sF, ?_⟩)
            first | refine gb_take 29 rfl (by decide +kernel) rfl rfl (ys_ev (nw := true) hT rfl sI) sF ?_ | refine gb_skip 29 rfl (by decide +kernel) rfl rfl sF ?_
            first | refine gb_take 30 rfl (by decide +kernel) rfl rfl (ys_ev (nw := true) hT rfl sI) sF ?_ | refine gb_skip 30 rfl (by decide +kernel) rfl rfl sF ?_
            first | refine gb_take 31 rfl (by decide +kernel) rfl rfl (ys_ev (nw := true) hT rfl sI) sF ?_ | refine gb_skip 31 rfl (by decide +kernel) rfl rfl sF ?_
            refine gb_take 32 rfl (by decide +kernel) rfl rfl (ys_ev (nw := true) hT rfl sI) sF ?_
            refine gb_take 33 rfl (by decide +kernel) rfl rfl (ys_ev (nw := true) hT rfl sI) sF ?_
            first | refine gb_skip 34 rfl (by decide +kernel) rfl rfl sF ?_ | (refine gb_only 34 (by decide +kernel) rfl rfl ?_; (refine mv_call_bel (fun w hk => alive30 w) rfl rfl rfl rfl rfl (by kernel_rfl) ?_); refine ⟨sF, ?_⟩)
            refine gb_take 35 rfl (by decide +kernel) rfl rfl (ys_ev (nw := true) hT rfl sI) sF ?_
            refine gb_take 36 rfl (by decide +kernel) rfl rfl (ys_ev (nw := true) hT rfl sI) sF ?_
            refine gb_nil (by decide +kernel) ?_
            exact ⟨(), (by repeat (first | exact trivial | refine ⟨rfl, ?_⟩)), sA, sS⟩
          (repeat (refine gG ?_; try intro _))
          refine gk_ret hT rfl rfl (.tmp rfl .nil) (fun w' hk => ?_)
          exact ⟨rfl, hk.toBelow⟩
        · (repeat (refine gG ?_; try intro _))
          refine gk_pack [blk t [.pointer (some ⟨g, 0, none⟩), .int .i64 (z : Nat), .int .u64 (ot : Nat), .int .u64 ((fs + R.length : Nat) : Int), .int .u64 ((fs + R.length : Nat) : Int)] 78, dkF g ⟨sv, lv, S, W⟩] [blk g3 [.int .i64 (z : Nat), .int .u64 (gn : Nat), .int .u64 (fs : Nat)] 24] sA ?_
          refine gk_any [1, 2, 3, 4, 5, 6, 7] (Cut _ (fun _ : Unit => [(6, .bool true)]) (fun _ => []) (fun _ => [])) rfl rfl (by kernel_rfl) ?_ (cut_k fun _ => ?_)
          · skip
            refine gb_take 0 rfl (by decide +kernel) rfl rfl (ys_ev (nw := true) hT rfl sI) sF ?_
            refine gb_only 1 (by decide +kernel) rfl rfl ?_
            refine mv_call_bel (fun w hk => hln w ((hk.rO (φ := packF [blk t [.pointer (some ⟨g, 0, none⟩), .int .i64 (z : Nat), .int .u64 (ot : Nat), .int .u64 ((fs + R.length : Nat) : Int), .int .u64 ((fs + R.length : Nat) : Int)] 78, dkF g ⟨sv, lv, S, W⟩]) mE).unpack (.head _))) rfl rfl rfl rfl rfl (by kernel_rfl) ?_
            refine ⟨sF, ?_⟩
            refine gb_take 2 rfl (by decide +kernel) rfl rfl (ys_ev (nw := true) hT rfl sI) sF ?_
            try (refine gb_say 225 (.bool true) rfl (congrArg Value.bool (tB_true (by omega))) ?_)
            refine gb_take 3 rfl (by decide +kernel) rfl rfl (ys_ev (nw := true) hT rfl sI) sF ?_
            first | refine gb_take 4 rfl (by decide +kernel) rfl rfl (ys_ev (nw := true) hT rfl sI) sF ?_ | refine gb_skip 4 rfl (by decide +kernel) rfl rfl sF ?_
            first | refine gb_take 6 rfl (by decide +kernel) rfl rfl (ys_ev (nw := true) hT rfl sI) sF ?_ | refine gb_skip 6 rfl (by decide +kernel) rfl rfl sF ?_
            first | refine gb_take 7 rfl (by decide +kernel) rfl rfl (by first | exact ys_blk hT rfl rfl mE rfl rfl | exact ys_row hT rfl rfl mE rfl rfl | exact ys_row0 hT rfl rfl mE rfl rfl) sF ?_ | refine gb_skip 7 rfl (by decide +kernel) rfl rfl sF ?_
            first | refine gb_skip 5 rfl (by decide +kernel) rfl rfl sF ?_ | (refine gb_only 5 (by decide +kernel) rfl rfl ?_; (refine mv_call_bel (fun w hk => hrm w ((hk.rO (φ := packF [blk t [.pointer (some ⟨g, 0, none⟩), .int .i64 (z : Nat), .int .u64 (ot : Nat), .int .u64 ((fs + R.length : Nat) : Int), .int .u64 ((fs + R.length : Nat) : Int)] 78, dkF g ⟨sv, lv, S, W⟩]) mE).unpack (.head _))) rfl rfl rfl rfl rfl (by kernel_rfl) ?_); refine ⟨sF, ?_⟩)
            first | refine gb_take 8 rfl (by decide +kernel) rfl rfl (ys_ev (nw := true) hT rfl sI) sF ?_ | refine gb_skip 8 rfl (by decide +kernel) rfl rfl sF ?_
            try (refine gb_say 231 (.bool true) rfl (congrArg Value.bool (tB_true (by omega))) ?_)
            refine gb_take 9 rfl (by decide +kernel) rfl rfl (ys_ev (nw := true) hT rfl sI) sF ?_
            refine gb_take 10 rfl (by decide +kernel) rfl rfl (ys_ev (nw := true) hT rfl sI) sF ?_
            first | refine gb_take 11 rfl (by decide +kernel) rfl rfl (ys_ev (nw := true) hT rfl sI) sF ?_ | refine gb_skip 11 rfl (by decide +kernel) rfl rfl sF ?_
            first | refine gb_take 13 rfl (by decide +kernel) rfl rfl (ys_ev (nw := true) hT rfl sI) sF ?_ | refine gb_skip 13 rfl (by decide +kernel) rfl rfl sF ?_
            first | refine gb_take 14 rfl (by decide +kernel) rfl rfl (by first | exact ys_blk hT rfl rfl mE rfl rfl | exact ys_row hT rfl rfl mE rfl rfl | exact ys_row0 hT rfl rfl mE rfl rfl) sF ?_ | refine gb_skip 14 rfl (by decide +kernel) rfl rfl sF ?_
            first | refine gb_take 15 rfl (by decide +kernel) rfl rfl (ys_ev (nw := true) hT rfl sI) sF ?_ | refine gb_skip 15 rfl (by decide +kernel) rfl rfl sF ?_
            first | refine gb_take 16 rfl (by decide +kernel) rfl rfl (ys_ev (nw := true) hT rfl sI) sF ?_ | refine gb_skip 16 rfl (by decide +kernel) rfl rfl sF ?_
            first | refine gb_take 17 rfl (by decide +kernel) rfl rfl (ys_ev (nw := true) hT rfl sI) sF ?_ | refine gb_skip 17 rfl (by decide +kernel) rfl rfl sF ?_
            first | refine gb_take 18 rfl (by decide +kernel) rfl rfl (ys_ev (nw := true) hT rfl sI) sF ?_ | refine gb_skip 18 rfl (by decide +kernel) rfl rfl sF ?_
            first | refine gb_skip 12 rfl (by decide +kernel) rfl rfl sF ?_ | (refine gb_only 12 (by decide +kernel) rfl rfl ?_; (refine mv_call_bel (fun w hk => hnx w ((hk.rO (φ := packF [blk t [.pointer (some ⟨g, 0, none⟩), .int .i64 (z : Nat), .int .u64 (ot : Nat), .int .u64 ((fs + R.length : Nat) : Int), .int .u64 ((fs + R.length : Nat) : Int)] 78, dkF g ⟨sv, lv, S, W⟩]) mE).unpack (.head _))) rfl rfl rfl rfl rfl (by kernel_rfl) ?_); refine ⟨sF, ?_⟩)
            first | refine gb_take 19 rfl (by decide +kernel) rfl rfl (ys_ev (nw := true) hT rfl sI) sF ?_ | refine gb_skip 19 rfl (by decide +kernel) rfl rfl sF ?_
            try (refine gb_say 242 (.bool true) rfl (congrArg Value.bool (tB_true (by omega))) ?_)
            refine gb_take 20 rfl (by decide +kernel) rfl rfl (ys_ev (nw := true) hT rfl sI) sF ?_
            refine gb_take 21 rfl (by decide +kernel) rfl rfl (ys_ev (nw := true) hT rfl sI) sF ?_
            first | refine gb_take 22 rfl (by decide +kernel) rfl rfl (ys_ev (nw := true) hT rfl sI) sF ?_ | refine gb_skip 22 rfl (by decide +kernel) rfl rfl sF ?_
            first | refine gb_take 23 rfl (by decide +kernel) rfl rfl (ys_ev (nw := true) hT rfl sI) sF ?_ | refine gb_skip 23 rfl (by decide +kernel) rfl rfl sF ?_
            first | refine gb_take 24 rfl (by decide +kernel) rfl rfl (by first | exact ys_blk hT rfl rfl mE rfl rfl | exact ys_row hT rfl rfl mE rfl rfl | exact ys_row0 hT rfl rfl mE rfl rfl) sF ?_ | refine gb_skip 24 rfl (by decide +kernel) rfl rfl sF ?_
            first | refine gb_take 25 rfl (by decide +kernel) rfl rfl (ys_ev (nw := true) hT rfl sI) sF ?_ | refine gb_skip 25 rfl (by decide +kernel) rfl rfl sF ?_
            try (refine gb_say 248 (.bool false) rfl (congrArg Value.bool (tB_false (by omega))) ?_)
            first | refine gb_take 26 rfl (by decide +kernel) rfl rfl (ys_ev (nw := true) hT rfl sI) sF ?_ | refine gb_skip 26 rfl (by decide +kernel) rfl rfl sF ?_
            first | refine gb_take 27 rfl (by decide +kernel) rfl rfl (ys_ev (nw := true) hT rfl sI) sF ?_ | refine gb_skip 27 rfl (by decide +kernel) rfl rfl sF ?_
            first | refine gb_skip 28 rfl (by decide +kernel) rfl rfl sF ?_ | (refine gb_only 28 (by decide +kernel) rfl rfl ?_; ((refine mv_call_mod (φ := packF [blk t [.pointer (some ⟨g, 0, none⟩), .int .i64 (z : Nat), .int .u64 (ot : Nat), .int .u64 ((fs + R.length : Nat) : Int), .int .u64 ((fs + R.length : Nat) : Int)] 78, dkF g ⟨sv, lv, S, W⟩]) (ψ := fun q : ScD => packF (scL t g z ot (fs + R.length) ⟨sv, lv, S, W⟩ q)) (fun w hk => by exact txscan_any t g z ot (fs + R.length) (fs + R.length) sv lv S W w hz0 (by omega) (by omega) hD (by omega) (by omega) (hk.rO (φ := packF [blk t [.pointer (some ⟨g, 0, none⟩), .int .i64 (z : Nat), .int .u64 (ot : Nat), .int .u64 ((fs + R.length : Nat) : Int), .int .u64 ((fs + R.length : Nat) : Int)] 78, dkF g ⟨sv, lv, S, W⟩]) mE)) rfl rfl rfl rfl rfl (by kernel_rfl) (by intro _; first | ((repeat (first | with_reducible exact Upd.here _ | with_reducible apply Upd.there)); done) | ((repeat (first | exact Upd.here _ | apply Upd.there)); done) | fail) (fun q hq => ?_); obtain ⟨A5, c5, out5⟩ := q; have h5 := hq.same; rw [hold.scan (fun e => hog (by omega))] at h5; dsimp only at h5; obtain rfl := List.length_eq_zero_iff.1 h5.len)); refine ⟨sF, ?_⟩)
            first | refine gb_take 29 rfl (by decide +kernel) rfl rfl (ys_ev (nw := true) hT rfl sI) sF ?_ | refine gb_skip 29 rfl (by decide +kernel) rfl rfl sF ?_
            first | refine gb_take 30 rfl (by decide +kernel) rfl rfl (ys_ev (nw := true) hT rfl sI) sF ?_ | refine gb_skip 30 rfl (by decide +kernel) rfl rfl sF ?_
            try (refine gb_say 253 (.bool true) rfl (congrArg Value.bool (tB_true rfl)) ?_)
            first | refine gb_take 31 rfl (by decide +kernel) rfl rfl (ys_ev (nw := true) hT rfl sI) sF ?_ | refine gb_skip 31 rfl (by decide +kernel) rfl rfl sF ?_
            refine gb_take 32 rfl (by decide +kernel) rfl rfl (ys_ev (nw := true) hT rfl sI) sF ?_
            refine gb_take 33 rfl (by decide +kernel) rfl rfl (ys_ev (nw := true) hT rfl sI) sF ?_
            first | refine gb_skip 34 rfl (by decide +kernel) rfl rfl sF ?_ | (refine gb_only 34 (by decide +kernel) rfl rfl ?_; (refine mv_call_bel (fun w hk => alive30 w) rfl rfl rfl rfl rfl (by kernel_rfl) ?_); refine ⟨sF, ?_⟩)
            refine gb_take 35 rfl (by decide +kernel) rfl rfl (ys_ev (nw := true) hT rfl sI) sF ?_
            refine gb_take 36 rfl (by decide +kernel) rfl rfl (ys_ev (nw := true) hT rfl sI) sF ?_
            refine gb_nil (by decide +kernel) ?_
            exact ⟨(), (by repeat (first | exact trivial | refine ⟨rfl, ?_⟩)), sA, sS⟩
          (repeat (refine gG ?_; try intro _))
          refine gk_ret hT rfl rfl (.tmp rfl .nil) (fun w' hk => ?_)
          exact ⟨rfl, hk.toBelow⟩
    -->fin
end Go.Proofs.Yteajefmnbalofaa.Tx
