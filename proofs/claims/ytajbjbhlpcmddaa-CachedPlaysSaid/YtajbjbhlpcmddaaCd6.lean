/- The law's walk (layer 64). -/
import Derived.Test.YtajbjbhlpcmddaaCd5
namespace Go.Proofs.Ytajbjbhlpcmddaa.Dk
open Go.RowKit Mem Gx Bytes
set_option linter.unusedVariables false
set_option linter.unusedSimpArgs false
set_option maxRecDepth 100000
set_option maxHeartbeats 80000000
theorem joinR {X : Cx} {ops rest : List Oper} {k : List KI} {ι : Type} (P : ι → Prop) (F : ι → Fr) (OO RR : ι → List Fact) {q : Prop} (r : Later (∀ i, P i → G X ops rest k (F i) (OO i) (RR i)) → q) (g : ∀ i, P i → G X ops rest k (F i) (OO i) (RR i)) : q := r ⟨g⟩
theorem joinG {X : Cx} {ops : List Oper} {k : List KI} {ι : Type} (P : ι → Prop) (F : ι → Fr) (OO RR : ι → List Fact) {q : Prop} (r : Later (∀ i, P i → G X ops ops k (F i) (OO i) (RR i)) → q) (g : ∀ i, P i → G X ops ops k (F i) (OO i) (RR i)) : q := r ⟨g⟩
/-- An operation. -/
structure OpD where
  kd : Int
  a : Int
  ch : Int
  s : SlV
  K : List Bool
instance : Inhabited OpD := ⟨⟨0, 0, 0, ⟨none, 0, 0⟩, []⟩⟩
def OE : OpD → Nat → Value := fun o k => match k with
  | 0 => .int .i64 o.kd
  | 1 => .int .i64 o.a
  | 2 => .int .u8 o.ch
  | _ => .slice o.s.A o.s.n o.s.c
abbrev keepF (o : OpD) : Fact := sl o.s.A 1 BoE o.K
structure OpD.Ok (o : OpD) : Prop where
  s : o.s.Ok o.K.length
  ch : 0 ≤ o.ch ∧ o.ch ≤ 255
theorem elt_I : Elt Try.prog 30 3 1 8 := Elt.mk' (z := .int .i64 0) Try.underlying30 (by kernel_rfl) rfl (by decide)
theorem getI_has {q : Int} {x : ItD} : ∀ {M : List Itm}, (M.map (·.1)).Nodup → (q, x) ∈ M → getI q M = some x
  | [], _, h => by cases h
  | (a, y) :: r, hn, h => by
    obtain ⟨h1, h2⟩ := List.nodup_cons.1 hn
    unfold getI
    by_cases e : q = a
    · rw [if_pos e]
      rcases List.mem_cons.1 h with h3 | h3
      · exact congrArg some (Prod.mk.inj h3).2.symm
      · exact absurd (List.mem_map.2 ⟨_, h3, e⟩) h1
    · rw [if_neg e]
      rcases List.mem_cons.1 h with h3 | h3
      · exact absurd (Prod.mk.inj h3).1 e
      · exact getI_has h2 h3
theorem LInv.getI_of {M K : List Itm} {now : Nat} (h : LInv M K now) {p : Itm} (hp : p ∈ K) : getI p.1 M = some p.2 := getI_has h.nodM (h.perm.mem_iff.2 hp)
theorem law64_any (n0 most : Int) (cA : Option Addr) (cn cc : Nat) (CS : List OpD) (w : World) (hcn : cn = CS.length) (hco : ∀ o ∈ CS, o.Ok) (hB : Rds w [sl cA 4 OE CS, allF CS keepF]) :
    Calls Try.prog 3 [.int .i64 n0, .int .i64 most, .slice cA cn cc].toArray w fun e w' => e = .returned (.bool true) ∧ Below w.heap.size w w' := by
  refine g_enter0 T [] [] [sl cA 4 OE CS, allF CS keepF] Try.func3 rfl Try.ntmps3 rfl hB.kn ?_
  by_cases hg0 : n0 < 1 ∨ 8 < n0 ∨ 60 < cn
  · (repeat' (first | (refine gG ?_; try intro _) | ((first | refine g_split rfl rfl tE (fun _ => ?_) (fun _ => ?_) | refine gk_cond rfl rfl tE (fun _ => ?_) (fun _ => ?_)) <;> (try first | (exfalso; omega; done) | (rename_i hx; exact absurd rfl hx) | (rename_i hx; cases hx; done)))))
    all_goals (refine gk_ret hT rfl rfl (.tmp rfl .nil) (fun w' hk => ?_); exact ⟨rfl, hk.toBelow⟩)
  · obtain ⟨n, rfl⟩ : ∃ n : Nat, n0 = n := ⟨n0.toNat, by omega⟩
    obtain ⟨mo, hmo⟩ : ∃ mo : Nat, (mo : Int) = min (max most 0) 4096 := ⟨(min (max most 0) 4096).toNat, by omega⟩
    (repeat' (first | (refine gG ?_; try intro _) | ((first | refine g_split rfl rfl tE (fun _ => ?_) (fun _ => ?_) | refine gk_cond rfl rfl tE (fun _ => ?_) (fun _ => ?_)) <;> (try first | (exfalso; omega; done) | (rename_i hx; exact absurd rfl hx) | (rename_i hx; cases hx; done)))))
    refine g_mv rfl ?_; refine mv_call_rt (fun w hk => dnew_any n (by omega) (by omega) w) rfl rfl rfl rfl rfl (by kernel_rfl) (fun _ => rfl) (fun q hq => ?_)
    obtain ⟨g, sv, S⟩ := q
    dsimp only at hq ⊢
    (repeat' (first | (refine gG ?_; try intro _) | ((first | refine g_split rfl rfl tE (fun _ => ?_) (fun _ => ?_) | refine gk_cond rfl rfl tE (fun _ => ?_) (fun _ => ?_)) <;> (try first | (exfalso; omega; done) | (rename_i hx; exact absurd rfl hx) | (rename_i hx; cases hx; done)))))
    refine g_mv rfl ?_; refine mv_call_rt (fun w hk => dnew_any n (by omega) (by omega) w) rfl rfl rfl rfl rfl (by kernel_rfl) (fun _ => rfl) (fun q hq2 => ?_)
    obtain ⟨g2, sv2, S2⟩ := q
    dsimp only at hq2 ⊢
    (repeat' (first | (refine gG ?_; try intro _) | (refine g_mv rfl ?_; first | refine mv_call_bel (fun w hk => cnew_nil 3 w) rfl rfl rfl rfl rfl (by kernel_rfl) ?_) | ((first | refine g_split rfl rfl tE (fun _ => ?_) (fun _ => ?_) | refine gk_cond rfl rfl tE (fun _ => ?_) (fun _ => ?_)) <;> (try first | (exfalso; omega; done) | (rename_i hx; exact absurd rfl hx) | (rename_i hx; cases hx; done)))))
    refine g_mv rfl ?_; refine mv_call_rt (fun w hk => cnew_any g most w) rfl rfl rfl rfl rfl (by kernel_rfl) (fun _ => rfl) (fun q hq3 => ?_)
    obtain ⟨x, c, r, mo2⟩ := q
    dsimp only at hq3 ⊢
    obtain rfl : mo = mo2 := by omega
    have hmo4 : mo ≤ 4096 := by omega
    have hmoL : Later ((mo : Int) = min (max most 0) 4096) := ⟨hmo⟩
    have hn8 : n ≤ 8 := by omega
    have hn1 : 1 ≤ n := by omega
    have hc60 : cn ≤ 60 := by omega
    (repeat' (first | (refine gG ?_; try intro _) | ((first | refine g_split rfl rfl tE (fun _ => ?_) (fun _ => ?_) | refine gk_cond rfl rfl tE (fun _ => ?_) (fun _ => ?_)) <;> (try first | (exfalso; omega; done) | (rename_i hx; exact absurd rfl hx) | (rename_i hx; cases hx; done)))))
    clear hq3 hmo hg0
    refine gk_nilsl none 1 (IE .i64) ?_
    refine gk_share (φ := sl none 1 (IE .i64) ([] : List Int)) (by repeat (first | with_reducible exact Sel.here | with_reducible apply Sel.there)) ?_
    refine gk_loop_sel (fun (q : Value × Value × Value × Value × (List SecD) × (List SecD) × (List WrD) × (List WrD) × (List Itm) × (List Itm) × Nat × Nat × Nat × (Option Addr) × Nat × Nat) => match q with | (sv, lv, sv2, lv2, S, S2, W, W2, M, K, now, hit, miss, kA, kc, i) => (StI n mo i ⟨sv, lv, sv2, lv2, S, S2, W, W2, M, K, now, hit, miss⟩ ∧ i ≤ cn ∧ K.length ≤ kc)) (fun (q : Value × Value × Value × Value × (List SecD) × (List SecD) × (List WrD) × (List WrD) × (List Itm) × (List Itm) × Nat × Nat × Nat × (Option Addr) × Nat × Nat) => match q with | (sv, lv, sv2, lv2, S, S2, W, W2, M, K, now, hit, miss, kA, kc, i) => [(0, .int .i64 (n : Nat)), (1, .int .i64 most), (2, .slice cA cn cc), (7, .pointer (some ⟨g, 0, none⟩)), (9, .pointer (some ⟨g2, 0, none⟩)), (13, .pointer (some ⟨x, 0, none⟩)), (15, .slice kA K.length kc), (16, .int .i64 (hit : Nat)), (17, .int .i64 (miss : Nat)), (18, .int .i64 (i : Nat))]) (fun (q : Value × Value × Value × Value × (List SecD) × (List SecD) × (List WrD) × (List WrD) × (List Itm) × (List Itm) × Nat × Nat × Nat × (Option Addr) × Nat × Nat) => match q with | (sv, lv, sv2, lv2, S, S2, W, W2, M, K, now, hit, miss, kA, kc, i) => [blk x [.pointer (some ⟨g, 0, none⟩), .pointer (some ⟨c, 0, none⟩)] 76, lrF c ⟨r, mo, now, hit, miss, M⟩, dkF g ⟨sv, lv, S, W⟩, dkF g2 ⟨sv2, lv2, S2, W2⟩]) (fun (q : Value × Value × Value × Value × (List SecD) × (List SecD) × (List WrD) × (List WrD) × (List Itm) × (List Itm) × Nat × Nat × Nat × (Option Addr) × Nat × Nat) => match q with | (sv, lv, sv2, lv2, S, S2, W, W2, M, K, now, hit, miss, kA, kc, i) => [sl kA 1 (IE .i64) (keys K), sl cA 4 OE CS, allF CS keepF]) (fun (q : Value × Value × Value × Value × (List SecD) × (List SecD) × (List WrD) × (List WrD) × (List Itm) × (List Itm) × Nat × Nat × Nat × (Option Addr) × Nat × Nat) => match q with | (sv, lv, sv2, lv2, S, S2, W, W2, M, K, now, hit, miss, kA, kc, i) => cn - i) (sv, .slice none 0 0, sv2, .slice none 0 0, S, S2, [], [], [], [], 0, 0, 0, none, 0, 0) rfl ⟨StI.start hq.1 hq2.1 hq.2 hq2.2 (by omega), Nat.zero_le _, Nat.le_refl _⟩ (by repeat (first | exact trivial | refine ⟨rfl, ?_⟩)) sA sS ?_
    rintro ⟨sv, lv, sv2, lv2, S, S2, W, W2, M, K, now, hit, miss, kA, kc, i⟩ hI
    replace hI : (StI n mo i ⟨sv, lv, sv2, lv2, S, S2, W, W2, M, K, now, hit, miss⟩ ∧ i ≤ cn ∧ K.length ≤ kc) := hI
    change GK _ _ [(0, .int .i64 (n : Nat)), (1, .int .i64 most), (2, .slice cA cn cc), (7, .pointer (some ⟨g, 0, none⟩)), (9, .pointer (some ⟨g2, 0, none⟩)), (13, .pointer (some ⟨x, 0, none⟩)), (15, .slice kA K.length kc), (16, .int .i64 (hit : Nat)), (17, .int .i64 (miss : Nat)), (18, .int .i64 (i : Nat))] [blk x [.pointer (some ⟨g, 0, none⟩), .pointer (some ⟨c, 0, none⟩)] 76, lrF c ⟨r, mo, now, hit, miss, M⟩, dkF g ⟨sv, lv, S, W⟩, dkF g2 ⟨sv2, lv2, S2, W2⟩] [sl kA 1 (IE .i64) (keys K), sl cA 4 OE CS, allF CS keepF]
    obtain ⟨hst, hin, hkc⟩ := hI
    have e1 : S.length = n := hst.n1
    have e2 : S2.length = n := hst.n2
    have e3 : W.length ≤ i := hst.wl
    have e4 : W2.length = W.length := hst.w2
    have e5 : now ≤ i := hst.nw
    have e6 : hit ≤ i := hst.ht
    have e7 : miss ≤ i := hst.ms
    have e8 : K.length ≤ mo := hst.km
    have ho1 : DkOk S W := hst.o1
    have ho2 : DkOk S2 W2 := hst.o2
    have hli : LInv M K now := hst.li
    have hkn : (keys K).length = K.length := List.length_map ..
    by_cases hlt : i < cn
    · obtain ⟨o, ho⟩ : ∃ o, CS[i]? = some o := ⟨CS[i], List.getElem?_eq_getElem (by omega)⟩
      have hom := List.mem_of_getElem? ho
      obtain ⟨hos, hoc⟩ := hco o hom
      have oder : Der [allF CS keepF] (keepF o) := Der.elem (L := CS) (F := keepF) (x := o) (Der.mem (.head _)) hom
      refine gk_elem (enc := OE) (L := CS) i mE (by omega) (by decide) (fun b1 o1 y1 eA hy1 => ?_)
      subst eA
      obtain rfl : o = y1 := by rw [ho] at hy1; exact Option.some.inj hy1
      refine gk_der [allF CS keepF] oder sS ?_
      obtain ⟨ok, oa, oc, ⟨oA, on, oc2⟩, oK⟩ := o
      have hon : on = oK.length := hos.n
      dsimp only at hoc
      change GK _ _ _ _ (sl oA 1 BoE oK :: _)
      (repeat' (first | (refine gG ?_; try intro _) | ((first | refine g_split rfl rfl tE (fun _ => ?_) (fun _ => ?_) | refine gk_cond rfl rfl tE (fun _ => ?_) (fun _ => ?_)) <;> (try first | (exfalso; omega; done) | (rename_i hx; exact absurd rfl hx) | (rename_i hx; cases hx; done)))))
      rename_i g19
      refine gk_own 0 3 1 (IE .i64) ?_
      refine gk_loop_sel (fun (q : Int × Nat) => match q with | (pt, k) => (k ≤ K.length ∧ ((pt = -1 ∧ ∀ j z, j < k → (keys K)[j]? = some z → z ≠ oa) ∨ ∃ j : Nat, j < k ∧ pt = (j : Int) ∧ (keys K)[j]? = some oa))) (fun (q : Int × Nat) => match q with | (pt, k) => [(0, .int .i64 (n : Nat)), (1, .int .i64 most), (2, .slice (some ⟨b1, o1, none⟩) cn cc), (7, .pointer (some ⟨g, 0, none⟩)), (9, .pointer (some ⟨g2, 0, none⟩)), (13, .pointer (some ⟨x, 0, none⟩)), (15, .slice kA K.length kc), (16, .int .i64 (hit : Nat)), (17, .int .i64 (miss : Nat)), (18, .int .i64 (i : Nat)), (19, .pointer (some ⟨g19, 0, none⟩)), (20, .int .i64 pt), (21, .int .i64 (k : Nat))]) (fun (q : Int × Nat) => match q with | (pt, k) => [blk g19 [.int .i64 ok, .int .i64 oa, .int .u8 oc, .slice oA on oc2] 33, blk x [.pointer (some ⟨g, 0, none⟩), .pointer (some ⟨c, 0, none⟩)] 76, lrF c ⟨r, mo, now, hit, miss, M⟩, dkF g ⟨sv, lv, S, W⟩, dkF g2 ⟨sv2, lv2, S2, W2⟩, own 0 3 1 (.slice none 0 0) (IE .i64) []]) (fun (q : Int × Nat) => match q with | (pt, k) => [sl oA 1 BoE oK, sl kA 1 (IE .i64) (keys K), sl (some ⟨b1, o1, none⟩) 4 OE CS, allF CS keepF]) (fun (q : Int × Nat) => match q with | (pt, k) => K.length - k) (-1, 0) rfl ⟨Nat.zero_le _, .inl ⟨rfl, fun j z hj => absurd hj (Nat.not_lt_zero _)⟩⟩ (by repeat (first | exact trivial | refine ⟨rfl, ?_⟩)) sA sS ?_
      rintro ⟨pt, k⟩ hI
      replace hI : (k ≤ K.length ∧ ((pt = -1 ∧ ∀ j z, j < k → (keys K)[j]? = some z → z ≠ oa) ∨ ∃ j : Nat, j < k ∧ pt = (j : Int) ∧ (keys K)[j]? = some oa)) := hI
      change GK _ _ [(0, .int .i64 (n : Nat)), (1, .int .i64 most), (2, .slice (some ⟨b1, o1, none⟩) cn cc), (7, .pointer (some ⟨g, 0, none⟩)), (9, .pointer (some ⟨g2, 0, none⟩)), (13, .pointer (some ⟨x, 0, none⟩)), (15, .slice kA K.length kc), (16, .int .i64 (hit : Nat)), (17, .int .i64 (miss : Nat)), (18, .int .i64 (i : Nat)), (19, .pointer (some ⟨g19, 0, none⟩)), (20, .int .i64 pt), (21, .int .i64 (k : Nat))] [blk g19 [.int .i64 ok, .int .i64 oa, .int .u8 oc, .slice oA on oc2] 33, blk x [.pointer (some ⟨g, 0, none⟩), .pointer (some ⟨c, 0, none⟩)] 76, lrF c ⟨r, mo, now, hit, miss, M⟩, dkF g ⟨sv, lv, S, W⟩, dkF g2 ⟨sv2, lv2, S2, W2⟩, own 0 3 1 (.slice none 0 0) (IE .i64) []] [sl oA 1 BoE oK, sl kA 1 (IE .i64) (keys K), sl (some ⟨b1, o1, none⟩) 4 OE CS, allF CS keepF]
      obtain ⟨hkl, hpt⟩ := hI
      by_cases hk2 : k < K.length
      · as_aux_lemma =>
          obtain ⟨z, hz⟩ : ∃ z, (keys K)[k]? = some z := ⟨(keys K)[k]'(by omega), List.getElem?_eq_getElem (by omega)⟩
          refine gk_elem (enc := IE .i64) (L := keys K) k mE (by omega) (by decide) (fun b2 o2 y2 eA2 hy2 => ?_)
          subst eA2
          obtain rfl : z = y2 := by rw [hz] at hy2; exact Option.some.inj hy2
          by_cases hzo : z = oa
          · (repeat' (first | (refine gG ?_; try intro _) | ((first | refine g_split rfl rfl tE (fun _ => ?_) (fun _ => ?_) | refine gk_cond rfl rfl tE (fun _ => ?_) (fun _ => ?_)) <;> (try first | (exfalso; omega; done) | (rename_i hx; exact absurd rfl hx) | (rename_i hx; cases hx; done)))))
            refine gk_any [0, 6] (Cut _ (fun _ : Unit => [(0, .int .i64 (n : Nat)), (1, .int .i64 most), (2, .slice (some ⟨b1, o1, none⟩) cn cc), (7, .pointer (some ⟨g, 0, none⟩)), (9, .pointer (some ⟨g2, 0, none⟩)), (13, .pointer (some ⟨x, 0, none⟩)), (15, .slice (some ⟨b2, o2, none⟩) K.length kc), (16, .int .i64 (hit : Nat)), (17, .int .i64 (miss : Nat)), (18, .int .i64 (i : Nat)), (19, .pointer (some ⟨g19, 0, none⟩)), (20, .int .i64 pt), (21, .int .i64 (k : Nat)), (113, .bool true)]) (fun _ => [blk g19 [.int .i64 ok, .int .i64 oa, .int .u8 oc, .slice oA on oc2] 33, blk x [.pointer (some ⟨g, 0, none⟩), .pointer (some ⟨c, 0, none⟩)] 76, lrF c ⟨r, mo, now, hit, miss, M⟩, dkF g ⟨sv, lv, S, W⟩, dkF g2 ⟨sv2, lv2, S2, W2⟩, own 0 3 1 (.slice none 0 0) (IE .i64) []]) (fun _ => [sl oA 1 BoE oK, sl (some ⟨b2, o2, none⟩) 1 (IE .i64) (keys K), sl (some ⟨b1, o1, none⟩) 4 OE CS, allF CS keepF])) rfl rfl (by kernel_rfl) ?_ (cut_k fun _ => ?_)
            · skip
              refine gb_take 0 rfl (by decide +kernel) rfl rfl (ys_ev (nw := true) hT rfl sI) sF ?_
              refine gb_take 1 rfl (by decide +kernel) rfl rfl (ys_ev (nw := true) hT rfl sI) sF ?_
              refine gb_take 2 rfl (by decide +kernel) rfl rfl (ys_ev (nw := true) hT rfl sI) sF ?_
              refine gb_take 3 rfl (by decide +kernel) rfl rfl (by first | exact ys_blk hT rfl rfl mE rfl rfl | exact ys_row hT rfl rfl mE rfl rfl | exact ys_row0 hT rfl rfl mE rfl rfl) sF ?_
              refine gb_take 4 rfl (by decide +kernel) rfl rfl (ys_ev (nw := true) hT rfl sI) sF ?_
              refine gb_take 5 rfl (by decide +kernel) rfl rfl (by first | exact ys_blk hT rfl rfl mE rfl rfl | exact ys_row hT rfl rfl mE rfl rfl | exact ys_row0 hT rfl rfl mE rfl rfl) sF ?_
              refine gb_take 6 rfl (by decide +kernel) rfl rfl (ys_ev (nw := true) hT rfl sI) sF ?_
              try (refine gb_say 113 (.bool true) rfl (congrArg Value.bool (tB_true hzo)) ?_)
              refine gb_nil (by decide +kernel) ?_
              exact ⟨(), (by repeat (first | exact trivial | refine ⟨rfl, ?_⟩)), sA, sS⟩
            · (repeat (refine gG ?_; try intro _))
              refine gk_again_sel rfl ((k : Int), k + 1) ⟨hk2, .inr ⟨k, Nat.lt_succ_self k, rfl, by rw [hz, hzo]⟩⟩ (by dsimp only; omega) (by repeat (first | exact trivial | refine ⟨rfl, ?_⟩)) sA sS
          · (repeat' (first | (refine gG ?_; try intro _) | ((first | refine g_split rfl rfl tE (fun _ => ?_) (fun _ => ?_) | refine gk_cond rfl rfl tE (fun _ => ?_) (fun _ => ?_)) <;> (try first | (exfalso; omega; done) | (rename_i hx; exact absurd rfl hx) | (rename_i hx; cases hx; done)))))
            refine gk_any [0, 6] (Cut _ (fun _ : Unit => [(0, .int .i64 (n : Nat)), (1, .int .i64 most), (2, .slice (some ⟨b1, o1, none⟩) cn cc), (7, .pointer (some ⟨g, 0, none⟩)), (9, .pointer (some ⟨g2, 0, none⟩)), (13, .pointer (some ⟨x, 0, none⟩)), (15, .slice (some ⟨b2, o2, none⟩) K.length kc), (16, .int .i64 (hit : Nat)), (17, .int .i64 (miss : Nat)), (18, .int .i64 (i : Nat)), (19, .pointer (some ⟨g19, 0, none⟩)), (20, .int .i64 pt), (21, .int .i64 (k : Nat)), (113, .bool false)]) (fun _ => [blk g19 [.int .i64 ok, .int .i64 oa, .int .u8 oc, .slice oA on oc2] 33, blk x [.pointer (some ⟨g, 0, none⟩), .pointer (some ⟨c, 0, none⟩)] 76, lrF c ⟨r, mo, now, hit, miss, M⟩, dkF g ⟨sv, lv, S, W⟩, dkF g2 ⟨sv2, lv2, S2, W2⟩, own 0 3 1 (.slice none 0 0) (IE .i64) []]) (fun _ => [sl oA 1 BoE oK, sl (some ⟨b2, o2, none⟩) 1 (IE .i64) (keys K), sl (some ⟨b1, o1, none⟩) 4 OE CS, allF CS keepF])) rfl rfl (by kernel_rfl) ?_ (cut_k fun _ => ?_)
            · skip
              refine gb_take 0 rfl (by decide +kernel) rfl rfl (ys_ev (nw := true) hT rfl sI) sF ?_
              refine gb_take 1 rfl (by decide +kernel) rfl rfl (ys_ev (nw := true) hT rfl sI) sF ?_
              refine gb_take 2 rfl (by decide +kernel) rfl rfl (ys_ev (nw := true) hT rfl sI) sF ?_
              refine gb_take 3 rfl (by decide +kernel) rfl rfl (by first | exact ys_blk hT rfl rfl mE rfl rfl | exact ys_row hT rfl rfl mE rfl rfl | exact ys_row0 hT rfl rfl mE rfl rfl) sF ?_
              refine gb_take 4 rfl (by decide +kernel) rfl rfl (ys_ev (nw := true) hT rfl sI) sF ?_
              refine gb_take 5 rfl (by decide +kernel) rfl rfl (by first | exact ys_blk hT rfl rfl mE rfl rfl | exact ys_row hT rfl rfl mE rfl rfl | exact ys_row0 hT rfl rfl mE rfl rfl) sF ?_
              refine gb_take 6 rfl (by decide +kernel) rfl rfl (ys_ev (nw := true) hT rfl sI) sF ?_
              try (refine gb_say 113 (.bool false) rfl (congrArg Value.bool (tB_false hzo)) ?_)
              refine gb_nil (by decide +kernel) ?_
              exact ⟨(), (by repeat (first | exact trivial | refine ⟨rfl, ?_⟩)), sA, sS⟩
            · (repeat (refine gG ?_; try intro _))
              refine gk_again_sel rfl (pt, k + 1) ⟨hk2, by
                rcases hpt with ⟨hp1, hno⟩ | ⟨j, hj, hp1, hjz⟩
                · refine .inl ⟨hp1, fun j z2 hj hz2 => ?_⟩
                  by_cases hjk : j = k
                  · subst hjk
                    rw [hz] at hz2
                    obtain rfl := Option.some.inj hz2
                    exact hzo
                  · exact hno j z2 (by omega) hz2
                · exact .inr ⟨j, by omega, hp1, hjz⟩⟩ (by dsimp only; omega) (by repeat (first | exact trivial | refine ⟨rfl, ?_⟩)) sA sS
      · have hkk : k = K.length := by omega
        (repeat' (first | (refine gG ?_; try intro _) | ((first | refine g_split rfl rfl tE (fun _ => ?_) (fun _ => ?_) | refine gk_cond rfl rfl tE (fun _ => ?_) (fun _ => ?_)) <;> (try first | (exfalso; omega; done) | (rename_i hx; exact absurd rfl hx) | (rename_i hx; cases hx; done)))))
        refine g_mv rfl (mv_append (L := ([] : List Int)) rfl (keys K) rfl rfl rfl rfl elt_I (by intro _; first | ((repeat (first | with_reducible exact Upd.here _ | with_reducible apply Upd.there)); done) | ((repeat (first | exact Upd.here _ | apply Upd.there)); done) | fail) (src_R mE) hkn.symm (by intro x j; rfl) (by simp [maxLen]; omega) (by simp; omega) (Nat.zero_le _) (fun rv => ?_))
        refine g_ownv rv mE (fun A3 c3 hv3 hA1 hA2 hA3 => ?_)
        rw [List.nil_append, hkn] at hv3
        rw [List.nil_append]
        subst hv3
        apply joinG (fun q : Option Addr × Nat × Int => (q.2.2 < 0 ∧ oa ∉ keys K) ∨ (0 ≤ q.2.2 ∧ oa ∈ keys K)) (fun q => [(0, .int .i64 (n : Nat)), (1, .int .i64 most), (2, .slice (some ⟨b1, o1, none⟩) cn cc), (7, .pointer (some ⟨g, 0, none⟩)), (9, .pointer (some ⟨g2, 0, none⟩)), (13, .pointer (some ⟨x, 0, none⟩)), (15, .slice kA K.length kc), (16, .int .i64 (hit : Nat)), (17, .int .i64 (miss : Nat)), (18, .int .i64 (i : Nat)), (19, .pointer (some ⟨g19, 0, none⟩)), (20, .int .i64 q.2.2), (22, .slice q.1 (rmv oa K).length q.2.1)]) (fun q => [blk g19 [.int .i64 ok, .int .i64 oa, .int .u8 oc, .slice oA on oc2] 33, blk x [.pointer (some ⟨g, 0, none⟩), .pointer (some ⟨c, 0, none⟩)] 76, lrF c ⟨r, mo, now, hit, miss, M⟩, dkF g ⟨sv, lv, S, W⟩, dkF g2 ⟨sv2, lv2, S2, W2⟩, own 0 3 1 (.slice q.1 (rmv oa K).length q.2.1) (IE .i64) (keys (rmv oa K))]) (fun _ => [sl oA 1 BoE oK, sl kA 1 (IE .i64) (keys K), sl (some ⟨b1, o1, none⟩) 4 OE CS, allF CS keepF])
        case r =>
          as_aux_lemma =>
            intro J
            rcases hpt with ⟨hp1, hno⟩ | ⟨j, hj, hp1, hjz⟩
            · have hnm : oa ∉ keys K := fun hm => by
                obtain ⟨j, hj⟩ := List.getElem?_of_mem hm
                exact hno j oa (by have := (List.getElem?_eq_some_iff.1 hj).1; omega) hj rfl
              subst hp1
              (repeat (refine gG ?_; try intro _))
              refine gk_cond_n rfl rfl (by decide) ?_
              refine gk_region rfl ?_
              have hJ := J.out (A3, c3, -1) (.inl ⟨(show (-1 : Int) < 0 by decide), hnm⟩)
              dsimp only at hJ
              rw [rmv_no hnm] at hJ
              refine g_wk (by repeat (first | exact trivial | refine ⟨rfl, ?_⟩)) sA sS hJ
            · subst hp1
              have hjm := List.mem_of_getElem? hjz
              have hat := keys_rmv_at hli.nod hjz
              have d1 : Der [sl kA 1 (IE .i64) (keys K)] (sl (shA kA 0 kc 1) 1 (IE .i64) ((keys K).take j)) := ⟨fun w hw => by
                have := sl_sub (hw _ (.head _)) 0 kc j (by omega)
                show Sl w _ 1 (IE .i64) ((keys K).take j)
                simpa using this, fun b hb => ⟨_, .head _, sl_sub_S (l := 0) (m := kc) (k := j) (by simpa using hb)⟩⟩
              have d2 : Der [sl kA 1 (IE .i64) (keys K)] (sl (shA kA (j + 1) kc 1) 1 (IE .i64) ((keys K).drop (j + 1))) := ⟨fun w hw => by
                have := sl_sub (hw _ (.head _)) (j + 1) kc (K.length - (j + 1)) (by omega)
                show Sl w _ 1 (IE .i64) ((keys K).drop (j + 1))
                rwa [List.take_of_length_le (by simp)] at this, fun b hb => ⟨_, .head _, sl_sub_S (l := j + 1) (m := kc) (k := K.length - (j + 1)) (by rwa [List.take_of_length_le (by simp)])⟩⟩
              refine g_der [sl kA 1 (IE .i64) (keys K)] d1 sS ?_
              refine g_der [sl kA 1 (IE .i64) (keys K)] d2 sS ?_
              have htk : ((keys K).take j).length = j := by rw [List.length_take]; omega
              have hdk : ((keys K).drop (j + 1)).length = K.length - (j + 1) := by rw [List.length_drop, hkn]
              (repeat (refine gG ?_; try intro _))
              refine gk_cond_p rfl rfl (by omega) ?_
              refine gk_any [] (Cut _ (fun v1 : Value => [(0, .int .i64 (n : Nat)), (1, .int .i64 most), (2, .slice (some ⟨b1, o1, none⟩) cn cc), (7, .pointer (some ⟨g, 0, none⟩)), (9, .pointer (some ⟨g2, 0, none⟩)), (13, .pointer (some ⟨x, 0, none⟩)), (15, .slice kA K.length kc), (16, .int .i64 (hit : Nat)), (17, .int .i64 (miss : Nat)), (18, .int .i64 (i : Nat)), (19, .pointer (some ⟨g19, 0, none⟩)), (20, .int .i64 (j : Nat)), (22, v1)]) (fun v1 => [blk g19 [.int .i64 ok, .int .i64 oa, .int .u8 oc, .slice oA on oc2] 33, blk x [.pointer (some ⟨g, 0, none⟩), .pointer (some ⟨c, 0, none⟩)] 76, lrF c ⟨r, mo, now, hit, miss, M⟩, dkF g ⟨sv, lv, S, W⟩, dkF g2 ⟨sv2, lv2, S2, W2⟩, own 0 3 1 v1 (IE .i64) ([] ++ (keys K).take j ++ (keys K).drop (j + 1))]) (fun _ => [sl oA 1 BoE oK, sl kA 1 (IE .i64) (keys K), sl (some ⟨b1, o1, none⟩) 4 OE CS, allF CS keepF])) rfl rfl (by kernel_rfl) ?_ (cut_k fun v1 => ?_)
              · skip
                refine gb_take 1 rfl (by decide +kernel) rfl rfl (ys_ev (nw := true) hT rfl sI) sF ?_
                refine gb_take 2 rfl (by decide +kernel) rfl rfl (ys_ev (nw := true) hT rfl sI) sF ?_
                refine gb_take 3 rfl (by decide +kernel) rfl rfl (ys_slice_h hT j rfl rfl rfl rfl rfl (by omega)) sF ?_
                refine gb_take 5 rfl (by decide +kernel) rfl rfl (ys_ev (nw := true) hT rfl sI) sF ?_
                refine gb_take 6 rfl (by decide +kernel) rfl rfl (ys_ev (nw := true) hT rfl sI) sF ?_
                refine gb_take 7 rfl (by decide +kernel) rfl rfl (ys_ev (nw := true) hT rfl sI) sF ?_
                refine gb_take 8 rfl (by decide +kernel) rfl rfl (ys_slice_l hT (j + 1) rfl rfl rfl rfl rfl (by omega)) sF ?_
                refine gb_only 0 (by decide +kernel) rfl rfl ?_
                refine mv_empty 1 (IE .i64) rfl hT rfl rfl rfl rfl rfl (fun g9 => ?_)
                refine ⟨sF, ?_⟩
                refine gb_only 4 (by decide +kernel) rfl rfl ?_
                refine mv_append (L := ([] : List Int)) rfl ((keys K).take j) rfl rfl rfl rfl elt_I (by intro _; first | ((repeat (first | with_reducible exact Upd.here _ | with_reducible apply Upd.there)); done) | ((repeat (first | exact Upd.here _ | apply Upd.there)); done) | fail) (src_R mE) htk.symm (by intro x j; rfl) (by simp [maxLen]; omega) (by simp; omega) (Nat.zero_le _) (fun va => ?_)
                refine ⟨sF, ?_⟩
                refine gb_only 9 (by decide +kernel) rfl rfl ?_
                refine mv_append (L := [] ++ (keys K).take j) rfl ((keys K).drop (j + 1)) rfl rfl rfl rfl elt_I (by intro _; first | ((repeat (first | with_reducible exact Upd.here _ | with_reducible apply Upd.there)); done) | ((repeat (first | exact Upd.here _ | apply Upd.there)); done) | fail) (src_R mE) hdk.symm (by intro x j; rfl) (by simp [maxLen]; omega) (by simp; omega) (Nat.zero_le _) (fun vc => ?_)
                refine ⟨sF, ?_⟩
                refine gb_take 10 rfl (by decide +kernel) rfl rfl (ys_ev (nw := true) hT rfl sI) sF ?_
                refine gb_nil (by decide +kernel) ?_
                exact ⟨vc, (by repeat (first | exact trivial | refine ⟨rfl, ?_⟩)), sA, sS⟩
              · rw [List.nil_append, hat]
                refine gk_region rfl ?_
                refine g_ownv v1 mE (fun A5 c5 hv5 _ _ _ => ?_)
                rw [List.length_map] at hv5
                subst hv5
                have hJ := J.out (A5, c5, (j : Int)) (.inr ⟨Int.natCast_nonneg j, hjm⟩)
                dsimp only at hJ
                refine g_wk (by repeat (first | exact trivial | refine ⟨rfl, ?_⟩)) sA sS hJ
        case g =>
          rintro ⟨rA, rc2, pt⟩ hP
          dsimp only at hP ⊢
          apply joinR (fun q : St × Option Addr × Nat => StI n mo (i + 1) q.1 ∧ q.1.K.length ≤ q.2.2) (fun q => [(0, .int .i64 (n : Nat)), (1, .int .i64 most), (2, .slice (some ⟨b1, o1, none⟩) cn cc), (7, .pointer (some ⟨g, 0, none⟩)), (9, .pointer (some ⟨g2, 0, none⟩)), (13, .pointer (some ⟨x, 0, none⟩)), (15, .slice q.2.1 q.1.K.length q.2.2), (16, .int .i64 (q.1.hit : Nat)), (17, .int .i64 (q.1.miss : Nat)), (18, .int .i64 (i : Nat)), (217, .pointer (some ⟨x, 0, none⟩))]) (fun q => [blk x [.pointer (some ⟨g, 0, none⟩), .pointer (some ⟨c, 0, none⟩)] 76, lrF c ⟨r, mo, q.1.now, q.1.hit, q.1.miss, q.1.M⟩, dkF g ⟨q.1.sv, q.1.lv, q.1.S, q.1.W⟩, dkF g2 ⟨q.1.sv2, q.1.lv2, q.1.S2, q.1.W2⟩]) (fun q => [sl q.2.1 1 (IE .i64) (keys q.1.K), sl (some ⟨b1, o1, none⟩) 4 OE CS, allF CS keepF])
          case r =>
            intro J2
            have hrl : (rmv oa K).length ≤ K.length := rmv_len_le oa K
            have hrk : (keys (rmv oa K)).length = (rmv oa K).length := List.length_map ..
            by_cases h5 : ok = 5
            · --FLUSH
              as_aux_lemma =>
                (repeat' (first | (refine gG ?_; try intro _) | ((first | refine g_split rfl rfl tE (fun _ => ?_) (fun _ => ?_) | refine gk_cond rfl rfl tE (fun _ => ?_) (fun _ => ?_)) <;> (try first | (exfalso; omega; done) | (rename_i hx; exact absurd rfl hx) | (rename_i hx; cases hx; done)))))
                refine g_pack [blk x [.pointer (some ⟨g, 0, none⟩), .pointer (some ⟨c, 0, none⟩)] 76, dkF g ⟨sv, lv, S, W⟩] [lrF c ⟨r, mo, now, hit, miss, M⟩, dkF g2 ⟨sv2, lv2, S2, W2⟩] sA ?_
                refine g_mv rfl (mv_call_mod (φ := packF [blk x [.pointer (some ⟨g, 0, none⟩), .pointer (some ⟨c, 0, none⟩)] 76, dkF g ⟨sv, lv, S, W⟩]) (ψ := fun q : Value × List SecD => packF [blk x [.pointer (some ⟨g, 0, none⟩), .pointer (some ⟨c, 0, none⟩)] 76, dkF g ⟨q.1, .slice none 0 0, q.2, []⟩]) (fun w1 hk => by exact cflush_any x g c sv lv S W w1 ho1 (by omega) (hk.rO (φ := packF [blk x [.pointer (some ⟨g, 0, none⟩), .pointer (some ⟨c, 0, none⟩)] 76, dkF g ⟨sv, lv, S, W⟩]) mE)) rfl rfl rfl rfl rfl (by kernel_rfl) (by intro _; first | ((repeat (first | with_reducible exact Upd.here _ | with_reducible apply Upd.there)); done) | ((repeat (first | exact Upd.here _ | apply Upd.there)); done) | fail) (fun q hq1 => ?_))
                obtain ⟨sv3, S3⟩ := q
                dsimp only
                refine g_unpack (l := [blk x [.pointer (some ⟨g, 0, none⟩), .pointer (some ⟨c, 0, none⟩)] 76, dkF g ⟨sv3, .slice none 0 0, S3, []⟩]) (by repeat (first | with_reducible exact Sel.here | with_reducible apply Sel.there)) ?_
                (repeat (refine gG ?_; try intro _))
                refine g_mv rfl (mv_call_mod (φ := dkF g2 ⟨sv2, lv2, S2, W2⟩) (ψ := fun q : Value × List SecD => dkF g2 ⟨q.1, .slice none 0 0, q.2, []⟩) (fun w1 hk => by exact dflush_any g2 sv2 lv2 S2 W2 w1 ho2 (by omega) (hk.rO (φ := dkF g2 ⟨sv2, lv2, S2, W2⟩) mE)) rfl rfl rfl rfl rfl (by kernel_rfl) (by intro _; first | ((repeat (first | with_reducible exact Upd.here _ | with_reducible apply Upd.there)); done) | ((repeat (first | exact Upd.here _ | apply Upd.there)); done) | fail) (fun q hq2 => ?_))
                obtain ⟨sv4, S4⟩ := q
                dsimp only
                (repeat (refine gG ?_; try intro _))
                have hJ := J2.out (⟨sv3, .slice none 0 0, sv4, .slice none 0 0, S3, S4, [], [], M, K, now, hit, miss⟩, kA, kc) ⟨hst.flush hq1 hq2, hkc⟩
                dsimp only at hJ
                refine g_wk (by repeat (first | exact trivial | refine ⟨rfl, ?_⟩)) sA sS hJ
            · by_cases h6 : ok = 6
              · --CRASH
                as_aux_lemma =>
                  (repeat' (first | (refine gG ?_; try intro _) | ((first | refine g_split rfl rfl tE (fun _ => ?_) (fun _ => ?_) | refine gk_cond rfl rfl tE (fun _ => ?_) (fun _ => ?_)) <;> (try first | (exfalso; omega; done) | (rename_i hx; exact absurd rfl hx) | (rename_i hx; cases hx; done)))))
                  refine g_pack [blk x [.pointer (some ⟨g, 0, none⟩), .pointer (some ⟨c, 0, none⟩)] 76, lrF c ⟨r, mo, now, hit, miss, M⟩, dkF g ⟨sv, lv, S, W⟩] [blk g19 [.int .i64 ok, .int .i64 oa, .int .u8 oc, .slice oA on oc2] 33, dkF g2 ⟨sv2, lv2, S2, W2⟩] sA ?_
                  refine g_mv rfl (mv_call_mod (φ := packF [blk x [.pointer (some ⟨g, 0, none⟩), .pointer (some ⟨c, 0, none⟩)] 76, lrF c ⟨r, mo, now, hit, miss, M⟩, dkF g ⟨sv, lv, S, W⟩]) (ψ := fun q : Value × List SecD => packF [blk x [.pointer (some ⟨g, 0, none⟩), .pointer (some ⟨c, 0, none⟩)] 76, lrF c ⟨r, mo, now, hit, miss, []⟩, dkF g ⟨q.1, .slice none 0 0, q.2, []⟩]) (fun w1 hk => by exact ccrash_any x g c r mo now hit miss M sv lv S W oA on oc2 oK w1 ho1 (by omega) hon (hk.rO (φ := packF [blk x [.pointer (some ⟨g, 0, none⟩), .pointer (some ⟨c, 0, none⟩)] 76, lrF c ⟨r, mo, now, hit, miss, M⟩, dkF g ⟨sv, lv, S, W⟩]) mE) (hk.rR (φ := sl oA 1 BoE oK) mE) (fun b hb => hk.disR (packF [blk x [.pointer (some ⟨g, 0, none⟩), .pointer (some ⟨c, 0, none⟩)] 76, lrF c ⟨r, mo, now, hit, miss, M⟩, dkF g ⟨sv, lv, S, W⟩]) mE (sl oA 1 BoE oK) mE b hb)) rfl rfl rfl rfl rfl (by kernel_rfl) (by intro _; first | ((repeat (first | with_reducible exact Upd.here _ | with_reducible apply Upd.there)); done) | ((repeat (first | exact Upd.here _ | apply Upd.there)); done) | fail) (fun q hq1 => ?_))
                  obtain ⟨sv3, S3⟩ := q
                  dsimp only
                  refine g_unpack (l := [blk x [.pointer (some ⟨g, 0, none⟩), .pointer (some ⟨c, 0, none⟩)] 76, lrF c ⟨r, mo, now, hit, miss, []⟩, dkF g ⟨sv3, .slice none 0 0, S3, []⟩]) (by repeat (first | with_reducible exact Sel.here | with_reducible apply Sel.there)) ?_
                  (repeat (refine gG ?_; try intro _))
                  refine g_mv rfl (mv_call_mod (φ := dkF g2 ⟨sv2, lv2, S2, W2⟩) (ψ := fun q : Value × List SecD => dkF g2 ⟨q.1, .slice none 0 0, q.2, []⟩) (fun w1 hk => by exact dcrash_any g2 sv2 lv2 S2 W2 oA on oc2 oK w1 ho2 (by omega) hon (hk.rO (φ := dkF g2 ⟨sv2, lv2, S2, W2⟩) mE) (hk.rR (φ := sl oA 1 BoE oK) mE) (fun b hb => hk.disR (dkF g2 ⟨sv2, lv2, S2, W2⟩) mE (sl oA 1 BoE oK) mE b hb)) rfl rfl rfl rfl rfl (by kernel_rfl) (by intro _; first | ((repeat (first | with_reducible exact Upd.here _ | with_reducible apply Upd.there)); done) | ((repeat (first | exact Upd.here _ | apply Upd.there)); done) | fail) (fun q hq2 => ?_))
                  obtain ⟨sv4, S4⟩ := q
                  dsimp only
                  refine g_nilsl none 1 (IE .i64) ?_
                  refine g_share (φ := sl none 1 (IE .i64) ([] : List Int)) (by repeat (first | with_reducible exact Sel.here | with_reducible apply Sel.there)) ?_
                  (repeat (refine gG ?_; try intro _))
                  have hJ := J2.out (⟨sv3, .slice none 0 0, sv4, .slice none 0 0, S3, S4, [], [], [], [], now, hit, miss⟩, none, 0) ⟨hst.crash hq1 hq2, Nat.le_refl _⟩
                  dsimp only at hJ
                  refine g_wk (by repeat (first | exact trivial | refine ⟨rfl, ?_⟩)) sA sS hJ
              · by_cases hw : ok = 3 ∨ ok = 4
                · --WRITE
                  as_aux_lemma =>
                    apply joinR (fun _ : Unit => True) (fun _ => [(0, .int .i64 (n : Nat)), (1, .int .i64 most), (2, .slice (some ⟨b1, o1, none⟩) cn cc), (7, .pointer (some ⟨g, 0, none⟩)), (9, .pointer (some ⟨g2, 0, none⟩)), (13, .pointer (some ⟨x, 0, none⟩)), (15, .slice kA K.length kc), (16, .int .i64 (hit : Nat)), (17, .int .i64 (miss : Nat)), (18, .int .i64 (i : Nat)), (19, .pointer (some ⟨g19, 0, none⟩)), (20, .int .i64 pt), (22, .slice rA (rmv oa K).length rc2)]) (fun _ => [blk g19 [.int .i64 ok, .int .i64 oa, .int .u8 oc, .slice oA on oc2] 33, blk x [.pointer (some ⟨g, 0, none⟩), .pointer (some ⟨c, 0, none⟩)] 76, lrF c ⟨r, mo, now, hit, miss, M⟩, dkF g ⟨sv, lv, S, W⟩, dkF g2 ⟨sv2, lv2, S2, W2⟩, own 0 3 1 (.slice rA (rmv oa K).length rc2) (IE .i64) (keys (rmv oa K))]) (fun _ => [sl oA 1 BoE oK, sl kA 1 (IE .i64) (keys K), sl (some ⟨b1, o1, none⟩) 4 OE CS, allF CS keepF])
                    case r =>
                      intro J3
                      rcases hw with hw | hw
                      · (repeat' (first | (refine gG ?_; try intro _) | ((first | refine g_split rfl rfl tE (fun _ => ?_) (fun _ => ?_) | refine gk_cond rfl rfl tE (fun _ => ?_) (fun _ => ?_)) <;> (try first | (exfalso; omega; done) | (rename_i hx; exact absurd rfl hx) | (rename_i hx; cases hx; done)))))
                        have hJ := J3.out () trivial
                        refine g_wk (by repeat (first | exact trivial | refine ⟨rfl, ?_⟩)) sA sS hJ
                      · (repeat' (first | (refine gG ?_; try intro _) | ((first | refine g_split rfl rfl tE (fun _ => ?_) (fun _ => ?_) | refine gk_cond rfl rfl tE (fun _ => ?_) (fun _ => ?_)) <;> (try first | (exfalso; omega; done) | (rename_i hx; exact absurd rfl hx) | (rename_i hx; cases hx; done)))))
                        have hJ := J3.out () trivial
                        refine g_wk (by repeat (first | exact trivial | refine ⟨rfl, ?_⟩)) sA sS hJ
                    case g =>
                      intro _ _
                      refine g_mv rfl (mv_make rfl hT 128 1 rfl rfl rfl rfl rfl rfl rfl (by kernel_rfl) (by omega) (by omega) rfl rfl (fun g23 => ?_))
                      refine g_blk_own (sz := 1) (enc := IE .u8) (n := 128) (c := 128) (base := 0) zsec (by decide) (by first | ((repeat (first | with_reducible exact Upd.here _ | with_reducible apply Upd.there)); done) | ((repeat (first | exact Upd.here _ | apply Upd.there)); done) | fail) (by rw [rep_lenA]; rfl) rfl (Nat.le_refl _) (by unfold maxLen; omega) (Nat.zero_le _) (by rw [List.take_of_length_le (by rw [rep_lenA]; exact Nat.le_refl _), zrep]) ?_
                      (repeat (refine gG ?_; try intro _))
                      refine g_mv rfl (mv_store_own (enc := IE .u8) (sz := 1) hT 0 0 0 oc rfl rfl rfl rfl rfl rfl rfl rfl (by decide) (fun b hb hne => by omega) rfl (by first | ((repeat (first | with_reducible exact Upd.here _ | with_reducible apply Upd.there)); done) | ((repeat (first | exact Upd.here _ | apply Upd.there)); done) | fail) rfl ?_)
                      (repeat (refine gG ?_; try intro _))
                      have hBk : SecOk (zsec.set 0 oc) := ⟨by rw [List.length_set]; rfl, fun z hz => by
                        rcases List.mem_or_eq_of_mem_set hz with h7 | rfl
                        · exact zsec_ok.2 z h7
                        · exact hoc⟩
                      refine gk_freeze (.slice (some ⟨g23, 0, none⟩) 128 128) (fun A => (by first | ((repeat (first | with_reducible exact Upd.here _ | with_reducible apply Upd.there)); done) | ((repeat (first | exact Upd.here _ | apply Upd.there)); done) | fail)) (fun A c3 hv3 _ _ _ => ?_)
                      injection hv3 with f1 f2 f3
                      subst f1
                      refine gk_share (φ := sl (some ⟨g23, 0, none⟩) 1 (IE .u8) (zsec.set 0 oc)) (by repeat (first | with_reducible exact Sel.here | with_reducible apply Sel.there)) ?_
                      by_cases hr : 0 ≤ oa ∧ oa < n
                      · obtain ⟨a, rfl⟩ : ∃ a : Nat, oa = a := ⟨oa.toNat, by omega⟩
                        refine gk_pack [blk x [.pointer (some ⟨g, 0, none⟩), .pointer (some ⟨c, 0, none⟩)] 76, lrF c ⟨r, mo, now, hit, miss, M⟩, dkF g ⟨sv, lv, S, W⟩] [blk g19 [.int .i64 ok, .int .i64 (a : Nat), .int .u8 oc, .slice oA on oc2] 33, dkF g2 ⟨sv2, lv2, S2, W2⟩, own 0 3 1 (.slice rA (rmv a K).length rc2) (IE .i64) (keys (rmv a K))] sA ?_
                        refine gk_any [1] (Cut _ (fun _ : {q : (Value × SecD) × Value × SecD // (q.1.2.Ok ∧ q.1.2.L = (zsec.set 0 oc)) ∧ q.2.2.Ok ∧ q.2.2.L = (zsec.set 0 oc)} => [(0, .int .i64 (n : Nat)), (1, .int .i64 most), (2, .slice (some ⟨b1, o1, none⟩) cn cc), (7, .pointer (some ⟨g, 0, none⟩)), (9, .pointer (some ⟨g2, 0, none⟩)), (13, .pointer (some ⟨x, 0, none⟩)), (15, .slice kA K.length kc), (16, .int .i64 (hit : Nat)), (17, .int .i64 (miss : Nat)), (18, .int .i64 (i : Nat)), (19, .pointer (some ⟨g19, 0, none⟩)), (20, .int .i64 pt), (22, .slice rA (rmv a K).length rc2), (24, .int .i64 0), (25, .int .i64 0)]) (fun q => [packF [blk x [.pointer (some ⟨g, 0, none⟩), .pointer (some ⟨c, 0, none⟩)] 76, lrF c ⟨r, mo, now, hit, miss, delI a M⟩, dkF g ⟨sv, q.1.1.1, S, W ++ [(⟨a, q.1.1.2⟩ : WrD)]⟩], dkF g2 ⟨sv2, q.1.2.1, S2, W2 ++ [(⟨a, q.1.2.2⟩ : WrD)]⟩, own 0 3 1 (.slice rA (rmv a K).length rc2) (IE .i64) (keys (rmv a K))]) (fun _ => [sl (some ⟨b1, o1, none⟩) 4 OE CS, allF CS keepF])) rfl rfl (by kernel_rfl) ?_ (cut_k fun q => ?_)
                        · skip
                          refine gb_take 0 rfl (by decide +kernel) rfl rfl (ys_ev (nw := true) hT rfl sI) sF ?_
                          refine gb_take 1 rfl (by decide +kernel) rfl rfl (ys_ev (nw := true) hT rfl sI) sF ?_
                          refine gb_take 2 rfl (by decide +kernel) rfl rfl (by first | exact ys_blk hT rfl rfl mE rfl rfl | exact ys_row hT rfl rfl mE rfl rfl | exact ys_row0 hT rfl rfl mE rfl rfl) sF ?_
                          refine gb_take 3 rfl (by decide +kernel) rfl rfl (ys_ev (nw := true) hT rfl sI) sF ?_
                          refine gb_take 5 rfl (by decide +kernel) rfl rfl (ys_ev (nw := true) hT rfl sI) sF ?_
                          refine gb_take 6 rfl (by decide +kernel) rfl rfl (ys_ev (nw := true) hT rfl sI) sF ?_
                          refine gb_take 7 rfl (by decide +kernel) rfl rfl (by first | exact ys_blk hT rfl rfl mE rfl rfl | exact ys_row hT rfl rfl mE rfl rfl | exact ys_row0 hT rfl rfl mE rfl rfl) sF ?_
                          refine gb_take 8 rfl (by decide +kernel) rfl rfl (ys_ev (nw := true) hT rfl sI) sF ?_
                          refine gb_only 4 (by decide +kernel) rfl rfl ?_
                          refine mv_call_mod (φ := packF [blk x [.pointer (some ⟨g, 0, none⟩), .pointer (some ⟨c, 0, none⟩)] 76, lrF c ⟨r, mo, now, hit, miss, M⟩, dkF g ⟨sv, lv, S, W⟩]) (ψ := fun q : Value × SecD => packF [blk x [.pointer (some ⟨g, 0, none⟩), .pointer (some ⟨c, 0, none⟩)] 76, lrF c ⟨r, mo, now, hit, miss, delI a M⟩, dkF g ⟨sv, q.1, S, W ++ [(⟨a, q.2⟩ : WrD)]⟩]) (fun w1 hk => by exact cwrite_any x g c r mo now hit miss M sv lv S W a (some ⟨g23, 0, none⟩) 128 128 (zsec.set 0 oc) w1 ho1 (by omega) (by omega) hBk.1.symm hBk (hk.rO (φ := packF [blk x [.pointer (some ⟨g, 0, none⟩), .pointer (some ⟨c, 0, none⟩)] 76, lrF c ⟨r, mo, now, hit, miss, M⟩, dkF g ⟨sv, lv, S, W⟩]) mE) (hk.rR (φ := sl (some ⟨g23, 0, none⟩) 1 (IE .u8) (zsec.set 0 oc)) mE) (fun b hb => hk.disR (packF [blk x [.pointer (some ⟨g, 0, none⟩), .pointer (some ⟨c, 0, none⟩)] 76, lrF c ⟨r, mo, now, hit, miss, M⟩, dkF g ⟨sv, lv, S, W⟩]) mE (sl (some ⟨g23, 0, none⟩) 1 (IE .u8) (zsec.set 0 oc)) mE b hb)) rfl rfl rfl rfl rfl (by kernel_rfl) (by intro _; first | ((repeat (first | with_reducible exact Upd.here _ | with_reducible apply Upd.there)); done) | ((repeat (first | exact Upd.here _ | apply Upd.there)); done) | fail) (fun q1 hq1 => ?_)
                          refine ⟨sF, ?_⟩
                          refine gb_only 9 (by decide +kernel) rfl rfl ?_
                          refine mv_call_mod (φ := dkF g2 ⟨sv2, lv2, S2, W2⟩) (ψ := fun q : Value × SecD => dkF g2 ⟨sv2, q.1, S2, W2 ++ [(⟨a, q.2⟩ : WrD)]⟩) (fun w1 hk => by exact dwrite_any g2 sv2 lv2 S2 W2 a (some ⟨g23, 0, none⟩) 128 128 (zsec.set 0 oc) w1 ho2 (by omega) (by omega) hBk.1.symm hBk (hk.rO (φ := dkF g2 ⟨sv2, lv2, S2, W2⟩) mE) (hk.rR (φ := sl (some ⟨g23, 0, none⟩) 1 (IE .u8) (zsec.set 0 oc)) mE) (fun b hb => hk.disR (dkF g2 ⟨sv2, lv2, S2, W2⟩) mE (sl (some ⟨g23, 0, none⟩) 1 (IE .u8) (zsec.set 0 oc)) mE b hb)) rfl rfl rfl rfl rfl (by kernel_rfl) (by intro _; first | ((repeat (first | with_reducible exact Upd.here _ | with_reducible apply Upd.there)); done) | ((repeat (first | exact Upd.here _ | apply Upd.there)); done) | fail) (fun q2 hq2 => ?_)
                          refine ⟨sF, ?_⟩
                          refine gb_take 10 rfl (by decide +kernel) rfl rfl (ys_ev (nw := true) hT rfl sI) sF ?_
                          refine gb_take 11 rfl (by decide +kernel) rfl rfl (ys_ev (nw := true) hT rfl sI) sF ?_
                          refine gb_nil (by decide +kernel) ?_
                          exact ⟨⟨(q1, q2), hq1, hq2⟩, (by repeat (first | exact trivial | refine ⟨rfl, ?_⟩)), sA, sS⟩
                        · obtain ⟨⟨⟨lv3, d3⟩, lv4, d4⟩, hq1, hq2⟩ := q
                          dsimp only at hq1 hq2 ⊢
                          refine gk_unpack (l := [blk x [.pointer (some ⟨g, 0, none⟩), .pointer (some ⟨c, 0, none⟩)] 76, lrF c ⟨r, mo, now, hit, miss, delI a M⟩, dkF g ⟨sv, lv3, S, W ++ [(⟨a, d3⟩ : WrD)]⟩]) (by repeat (first | with_reducible exact Sel.here | with_reducible apply Sel.there)) ?_
                          refine gk_freeze (.slice rA (rmv a K).length rc2) (fun A => (by first | ((repeat (first | with_reducible exact Upd.here _ | with_reducible apply Upd.there)); done) | ((repeat (first | exact Upd.here _ | apply Upd.there)); done) | fail)) (fun A c3 hv3 hz1 _ _ => ?_)
                          injection hv3 with f1 f2 f3
                          subst f1 f3
                          refine gk_share (φ := sl rA 1 (IE .i64) (keys (rmv a K))) (by repeat (first | with_reducible exact Sel.here | with_reducible apply Sel.there)) ?_
                          (repeat' (first | (refine gG ?_; try intro _) | ((first | refine g_split rfl rfl tE (fun _ => ?_) (fun _ => ?_) | refine gk_cond rfl rfl tE (fun _ => ?_) (fun _ => ?_)) <;> (try first | (exfalso; omega; done) | (rename_i hx; exact absurd rfl hx) | (rename_i hx; cases hx; done)))))
                          have hJ := J2.out (⟨sv, lv3, sv2, lv4, S, S2, W ++ [(⟨a, d3⟩ : WrD)], W2 ++ [(⟨a, d4⟩ : WrD)], delI a M, rmv a K, now, hit, miss⟩, rA, rc2) ⟨hst.write (by omega) hq1 hq2, by rw [hrk] at hz1; exact hz1⟩
                          dsimp only at hJ
                          refine g_wk (by repeat (first | exact trivial | refine ⟨rfl, ?_⟩)) sA sS hJ
                      · have hbad : oa < 0 ∨ (S.length : Int) ≤ oa := by omega
                        have hbad2 : oa < 0 ∨ (S2.length : Int) ≤ oa := by omega
                        refine gk_any [0] (Cut _ (fun _ : Unit => [(0, .int .i64 (n : Nat)), (1, .int .i64 most), (2, .slice (some ⟨b1, o1, none⟩) cn cc), (7, .pointer (some ⟨g, 0, none⟩)), (9, .pointer (some ⟨g2, 0, none⟩)), (13, .pointer (some ⟨x, 0, none⟩)), (15, .slice kA K.length kc), (16, .int .i64 (hit : Nat)), (17, .int .i64 (miss : Nat)), (18, .int .i64 (i : Nat)), (19, .pointer (some ⟨g19, 0, none⟩)), (20, .int .i64 pt), (22, .slice rA (rmv oa K).length rc2), (24, .int .i64 11), (25, .int .i64 11)]) (fun q => [blk x [.pointer (some ⟨g, 0, none⟩), .pointer (some ⟨c, 0, none⟩)] 76, lrF c ⟨r, mo, now, hit, miss, M⟩, dkF g ⟨sv, lv, S, W⟩, dkF g2 ⟨sv2, lv2, S2, W2⟩]) (fun _ => [sl kA 1 (IE .i64) (keys K), sl (some ⟨b1, o1, none⟩) 4 OE CS, allF CS keepF])) rfl rfl (by kernel_rfl) ?_ (cut_k fun q => ?_)
                        · skip
                          refine gb_take 0 rfl (by decide +kernel) rfl rfl (ys_ev (nw := true) hT rfl sI) sF ?_
                          refine gb_take 1 rfl (by decide +kernel) rfl rfl (ys_ev (nw := true) hT rfl sI) sF ?_
                          refine gb_take 2 rfl (by decide +kernel) rfl rfl (by first | exact ys_blk hT rfl rfl mE rfl rfl | exact ys_row hT rfl rfl mE rfl rfl | exact ys_row0 hT rfl rfl mE rfl rfl) sF ?_
                          refine gb_take 3 rfl (by decide +kernel) rfl rfl (ys_ev (nw := true) hT rfl sI) sF ?_
                          refine gb_take 5 rfl (by decide +kernel) rfl rfl (ys_ev (nw := true) hT rfl sI) sF ?_
                          refine gb_take 6 rfl (by decide +kernel) rfl rfl (ys_ev (nw := true) hT rfl sI) sF ?_
                          refine gb_take 7 rfl (by decide +kernel) rfl rfl (by first | exact ys_blk hT rfl rfl mE rfl rfl | exact ys_row hT rfl rfl mE rfl rfl | exact ys_row0 hT rfl rfl mE rfl rfl) sF ?_
                          refine gb_take 8 rfl (by decide +kernel) rfl rfl (ys_ev (nw := true) hT rfl sI) sF ?_
                          refine gb_only 4 (by decide +kernel) rfl rfl ?_
                          refine mv_call_bel (fun w1 hk => cwrite_bad x g c sv lv S W oa (some ⟨g23, 0, none⟩) 128 128 w1 hbad (hk.rO (φ := blk x [.pointer (some ⟨g, 0, none⟩), .pointer (some ⟨c, 0, none⟩)] 76) mE) (hk.rO (φ := dkF g ⟨sv, lv, S, W⟩) mE)) rfl rfl rfl rfl rfl (by kernel_rfl) ?_
                          refine ⟨sF, ?_⟩
                          refine gb_only 9 (by decide +kernel) rfl rfl ?_
                          refine mv_call_bel (fun w1 hk => dwrite_bad g2 sv2 lv2 S2 W2 oa (some ⟨g23, 0, none⟩) 128 128 w1 hbad2 (hk.rO (φ := dkF g2 ⟨sv2, lv2, S2, W2⟩) mE)) rfl rfl rfl rfl rfl (by kernel_rfl) ?_
                          refine ⟨sF, ?_⟩
                          refine gb_take 10 rfl (by decide +kernel) rfl rfl (ys_ev (nw := true) hT rfl sI) sF ?_
                          refine gb_take 11 rfl (by decide +kernel) rfl rfl (ys_ev (nw := true) hT rfl sI) sF ?_
                          refine gb_nil (by decide +kernel) ?_
                          exact ⟨(), (by repeat (first | exact trivial | refine ⟨rfl, ?_⟩)), sA, sS⟩
                        · (repeat' (first | (refine gG ?_; try intro _) | ((first | refine g_split rfl rfl tE (fun _ => ?_) (fun _ => ?_) | refine gk_cond rfl rfl tE (fun _ => ?_) (fun _ => ?_)) <;> (try first | (exfalso; omega; done) | (rename_i hx; exact absurd rfl hx) | (rename_i hx; cases hx; done)))))
                          have hJ := J2.out (⟨sv, lv, sv2, lv2, S, S2, W, W2, M, K, now, hit, miss⟩, kA, kc) ⟨hst.step, hkc⟩
                          dsimp only at hJ
                          refine g_wk (by repeat (first | exact trivial | refine ⟨rfl, ?_⟩)) sA sS hJ
                · --READ
                  as_aux_lemma =>
                    cases hgi : getI oa M with
                    | some xi =>
                      obtain ⟨a, ha1, ha2, hxo, hxL⟩ := hst.item hgi
                      dsimp only at ha1 hxL
                      subst ha1
                      obtain ⟨⟨xA, xn, xc⟩, xL, xw⟩ := xi
                      dsimp only at hxL
                      have hmem : (a : Int) ∈ keys K := List.mem_map.2 ⟨_, hli.get hgi, rfl⟩
                      have hpt0 : 0 ≤ pt := by
                        rcases hP with h | h
                        · exact absurd hmem h.2
                        · exact h.1
                      have hE : xL = dread (S2.map SecD.L) (W2.map WrD.c) a := by
                        rw [hxL, show S.map SecD.L = S2.map SecD.L from hst.eS, show W.map WrD.c = W2.map WrD.c from hst.eW]
                      have hxk : SecOk xL := hxo.k
                      have hx8 : xL.length = 128 := hxk.1
                      have hr1 : (rmv (a : Int) K).length + 1 = K.length := rmv_len_mem hli.nod hmem
                      have hkk1 : keys (rmv (a : Int) K) ++ [(a : Int)] = keys (rmv (a : Int) K ++ [((a : Int), (⟨⟨xA, xn, xc⟩, xL, now + 1⟩ : ItD))]) := by
                        show _ = List.map _ (_ ++ _)
                        rw [List.map_append]
                        rfl
                      have hlk : ((rmv (a : Int) K ++ [((a : Int), (⟨⟨xA, xn, xc⟩, xL, now + 1⟩ : ItD))])).length = K.length := by rw [List.length_append, List.length_singleton]; exact hr1
                      (repeat' (first | (refine gG ?_; try intro _) | ((first | refine g_split rfl rfl tE (fun _ => ?_) (fun _ => ?_) | refine gk_cond rfl rfl tE (fun _ => ?_) (fun _ => ?_)) <;> (try first | (exfalso; omega; done) | (rename_i hx; exact absurd rfl hx) | (rename_i hx; cases hx; done)))))
                      refine g_pack [blk x [.pointer (some ⟨g, 0, none⟩), .pointer (some ⟨c, 0, none⟩)] 76, lrF c ⟨r, mo, now, hit, miss, M⟩, dkF g ⟨sv, lv, S, W⟩] [blk g19 [.int .i64 ok, .int .i64 (a : Nat), .int .u8 oc, .slice oA on oc2] 33, dkF g2 ⟨sv2, lv2, S2, W2⟩, own 0 3 1 (.slice rA (rmv a K).length rc2) (IE .i64) (keys (rmv a K))] sA ?_
                      refine g_mv rfl (mv_call_mod (φ := packF [blk x [.pointer (some ⟨g, 0, none⟩), .pointer (some ⟨c, 0, none⟩)] 76, lrF c ⟨r, mo, now, hit, miss, M⟩, dkF g ⟨sv, lv, S, W⟩]) (ψ := fun s : SlV => packF [blk x [.pointer (some ⟨g, 0, none⟩), .pointer (some ⟨c, 0, none⟩)] 76, lrF c ⟨r, mo, now + 1, hit + 1, miss, setI a ⟨⟨xA, xn, xc⟩, xL, now + 1⟩ M⟩, dkF g ⟨sv, lv, S, W⟩, sl s.A 1 (IE .u8) xL]) (fun w1 hk => by exact cread_hit x g c r mo now hit miss M sv lv S W a xA xn xc xL xw w1 hgi hxo (by omega) (by omega) (hk.rO (φ := packF [blk x [.pointer (some ⟨g, 0, none⟩), .pointer (some ⟨c, 0, none⟩)] 76, lrF c ⟨r, mo, now, hit, miss, M⟩, dkF g ⟨sv, lv, S, W⟩]) mE)) rfl rfl rfl rfl rfl (by kernel_rfl) (by intro _; first | ((repeat (first | with_reducible exact Upd.here _ | with_reducible apply Upd.there)); done) | ((repeat (first | exact Upd.here _ | apply Upd.there)); done) | fail) (fun s1 hs1 => ?_))
                      obtain ⟨yA, yn, yc⟩ := s1
                      dsimp only
                      refine g_unpack (l := [blk x [.pointer (some ⟨g, 0, none⟩), .pointer (some ⟨c, 0, none⟩)] 76, lrF c ⟨r, mo, now + 1, hit + 1, miss, setI a ⟨⟨xA, xn, xc⟩, xL, now + 1⟩ M⟩, dkF g ⟨sv, lv, S, W⟩, sl yA 1 (IE .u8) xL]) (by repeat (first | with_reducible exact Sel.here | with_reducible apply Sel.there)) ?_
                      (repeat (refine gG ?_; try intro _))
                      refine g_mv rfl ?_; refine mv_call_rt (fun w hk => by have hc := dread_any g2 sv2 lv2 S2 W2 a w ho2 (by omega) (by omega) (hk.rO (φ := dkF g2 ⟨sv2, lv2, S2, W2⟩) mE); rw [← hE] at hc; exact hc) rfl rfl rfl rfl rfl (by kernel_rfl) (fun _ => rfl) (fun s2 hs2 => ?_)
                      obtain ⟨zA, zn, zc⟩ := s2
                      dsimp only
                      have hyn : yn = xL.length := hs1.n
                      have hzn : zn = xL.length := hs2.n
                      (repeat' (first | (refine gG ?_; try intro _) | (refine g_mv rfl ?_; first | refine mv_call_bel (fun w hk => bequal_self yA zA yn yc zn zc xL w hyn hzn (hk.pO (sl yA 1 (IE .u8) xL) mE) (hk.pO (sl zA 1 (IE .u8) xL) mE) hxk.2) rfl rfl rfl rfl rfl (by kernel_rfl) ?_) | ((first | refine g_split rfl rfl tE (fun _ => ?_) (fun _ => ?_) | refine gk_cond rfl rfl tE (fun _ => ?_) (fun _ => ?_)) <;> (try first | (exfalso; omega; done) | (rename_i hx; exact absurd rfl hx) | (rename_i hx; cases hx; done)))))
                      refine g_mv rfl (mv_append (L := keys (rmv (a : Int) K)) rfl [(a : Int)] rfl rfl rfl rfl elt_I (by intro _; first | ((repeat (first | with_reducible exact Upd.here _ | with_reducible apply Upd.there)); done) | ((repeat (first | exact Upd.here _ | apply Upd.there)); done) | fail) (src_blk mE rfl) rfl (by intro x j; rfl) (by simp [maxLen]; omega) (by simp; omega) (Nat.zero_le _) (fun v1 => ?_))
                      refine g_ownv v1 mE (fun A5 c5 hv5 hz1 _ _ => ?_)
                      rw [hkk1] at hv5 hz1 ⊢
                      rw [show (keys (rmv (a : Int) K ++ [((a : Int), (⟨⟨xA, xn, xc⟩, xL, now + 1⟩ : ItD))])).length = ((rmv (a : Int) K ++ [((a : Int), (⟨⟨xA, xn, xc⟩, xL, now + 1⟩ : ItD))])).length from List.length_map ..] at hv5 hz1
                      subst hv5
                      refine g_freeze (.slice A5 ((rmv (a : Int) K ++ [((a : Int), (⟨⟨xA, xn, xc⟩, xL, now + 1⟩ : ItD))])).length c5) (fun A => (by first | ((repeat (first | with_reducible exact Upd.here _ | with_reducible apply Upd.there)); done) | ((repeat (first | exact Upd.here _ | apply Upd.there)); done) | fail)) (fun A c3 hv3 _ _ _ => ?_)
                      injection hv3 with f1 f2 f3
                      subst f1 f3
                      refine g_share (φ := sl A5 1 (IE .i64) (keys (rmv (a : Int) K ++ [((a : Int), (⟨⟨xA, xn, xc⟩, xL, now + 1⟩ : ItD))]))) (by repeat (first | with_reducible exact Sel.here | with_reducible apply Sel.there)) ?_
                      (repeat (refine gG ?_; try intro _))
                      refine g_yd rfl rfl (Ys.yd (ys_max (max most 0) rfl rfl rfl (by split <;> omega))) ?_
                      (repeat (refine gG ?_; try intro _))
                      refine g_yd rfl rfl (Ys.yd (ys_min (mo : Int) rfl rfl rfl (by rw [hmoL.out]; split <;> omega))) ?_
                      (repeat' (first | (refine gG ?_; try intro _) | ((first | refine g_split rfl rfl tE (fun _ => ?_) (fun _ => ?_) | refine gk_cond rfl rfl tE (fun _ => ?_) (fun _ => ?_)) <;> (try first | (exfalso; omega; done) | (rename_i hx; exact absurd rfl hx) | (rename_i hx; cases hx; done)))))
                      have hJ := J2.out (⟨sv, lv, sv2, lv2, S, S2, W, W2, setI a ⟨⟨xA, xn, xc⟩, xL, now + 1⟩ M, (rmv (a : Int) K ++ [((a : Int), (⟨⟨xA, xn, xc⟩, xL, now + 1⟩ : ItD))]), now + 1, hit + 1, miss⟩, A5, c5) ⟨hst.hitS hgi, hz1⟩
                      dsimp only at hJ
                      refine g_wk (by repeat (first | exact trivial | refine ⟨rfl, ?_⟩)) sA sS hJ
                    | none =>
                      have hnm : oa ∉ keys K := hli.getN hgi
                      have hpt0 : pt < 0 := by
                        rcases hP with h | h
                        · exact h.1
                        · exact absurd h.2 hnm
                      by_cases hr : 0 ≤ oa ∧ oa < n
                      · obtain ⟨a, rfl⟩ : ∃ a : Nat, oa = a := ⟨oa.toNat, by omega⟩
                        have hE : (dread (S.map SecD.L) (W.map WrD.c) a) = (dread (S2.map SecD.L) (W2.map WrD.c) a) := by
                          rw [show S.map SecD.L = S2.map SecD.L from hst.eS, show W.map WrD.c = W2.map WrD.c from hst.eW]
                        have hxk : SecOk (dread (S.map SecD.L) (W.map WrD.c) a) := dread_ok (fun l hl => by obtain ⟨d, hd, rfl⟩ := List.mem_map.1 hl; exact (ho1.s d hd).k) (fun y hy => by obtain ⟨d, hd, rfl⟩ := List.mem_map.1 hy; exact (ho1.w d hd).1.k) (by rw [List.length_map]; omega)
                        have hx8 : ((dread (S.map SecD.L) (W.map WrD.c) a)).length = 128 := hxk.1
                        (repeat' (first | (refine gG ?_; try intro _) | ((first | refine g_split rfl rfl tE (fun _ => ?_) (fun _ => ?_) | refine gk_cond rfl rfl tE (fun _ => ?_) (fun _ => ?_)) <;> (try first | (exfalso; omega; done) | (rename_i hx; exact absurd rfl hx) | (rename_i hx; cases hx; done)))))
                        refine g_pack [blk x [.pointer (some ⟨g, 0, none⟩), .pointer (some ⟨c, 0, none⟩)] 76, lrF c ⟨r, mo, now, hit, miss, M⟩, dkF g ⟨sv, lv, S, W⟩] [blk g19 [.int .i64 ok, .int .i64 (a : Nat), .int .u8 oc, .slice oA on oc2] 33, dkF g2 ⟨sv2, lv2, S2, W2⟩, own 0 3 1 (.slice rA (rmv a K).length rc2) (IE .i64) (keys (rmv a K))] sA ?_
                        refine g_mv rfl (mv_call_mod (φ := packF [blk x [.pointer (some ⟨g, 0, none⟩), .pointer (some ⟨c, 0, none⟩)] 76, lrF c ⟨r, mo, now, hit, miss, M⟩, dkF g ⟨sv, lv, S, W⟩]) (ψ := fun q : SlV × SlV × List Itm => packF [blk x [.pointer (some ⟨g, 0, none⟩), .pointer (some ⟨c, 0, none⟩)] 76, lrF c ⟨r, mo, now + 1, hit, miss + 1, q.2.2⟩, dkF g ⟨sv, lv, S, W⟩, sl q.1.A 1 (IE .u8) (dread (S.map SecD.L) (W.map WrD.c) a)]) (fun w1 hk => by exact cread_miss x g c r mo now hit miss M K sv lv S W a w1 hli ho1 (by omega) hgi (by omega) (by omega) (by omega) (hk.rO (φ := packF [blk x [.pointer (some ⟨g, 0, none⟩), .pointer (some ⟨c, 0, none⟩)] 76, lrF c ⟨r, mo, now, hit, miss, M⟩, dkF g ⟨sv, lv, S, W⟩]) mE)) rfl rfl rfl rfl rfl (by kernel_rfl) (by intro _; first | ((repeat (first | with_reducible exact Upd.here _ | with_reducible apply Upd.there)); done) | ((repeat (first | exact Upd.here _ | apply Upd.there)); done) | fail) (fun q hq1 => ?_))
                        obtain ⟨⟨yA, yn, yc⟩, u2, M2⟩ := q
                        obtain ⟨hs1, hu2, hli2⟩ := hq1
                        dsimp only at hs1 hu2 hli2 ⊢
                        refine g_unpack (l := [blk x [.pointer (some ⟨g, 0, none⟩), .pointer (some ⟨c, 0, none⟩)] 76, lrF c ⟨r, mo, now + 1, hit, miss + 1, M2⟩, dkF g ⟨sv, lv, S, W⟩, sl yA 1 (IE .u8) (dread (S.map SecD.L) (W.map WrD.c) a)]) (by repeat (first | with_reducible exact Sel.here | with_reducible apply Sel.there)) ?_
                        (repeat (refine gG ?_; try intro _))
                        refine g_mv rfl ?_; refine mv_call_rt (fun w hk => by have hc := dread_any g2 sv2 lv2 S2 W2 a w ho2 (by omega) (by omega) (hk.rO (φ := dkF g2 ⟨sv2, lv2, S2, W2⟩) mE); rw [← hE] at hc; exact hc) rfl rfl rfl rfl rfl (by kernel_rfl) (fun _ => rfl) (fun s2 hs2 => ?_)
                        obtain ⟨zA, zn, zc⟩ := s2
                        dsimp only
                        have hyn : yn = ((dread (S.map SecD.L) (W.map WrD.c) a)).length := hs1.n
                        have hzn : zn = ((dread (S.map SecD.L) (W.map WrD.c) a)).length := hs2.n
                        have hkk1 : keys (rmv (a : Int) K) ++ [(a : Int)] = keys (rmv (a : Int) K ++ [((a : Int), (⟨u2, dread (S.map SecD.L) (W.map WrD.c) a, now + 1⟩ : ItD))]) := by
                          show _ = List.map _ (_ ++ _)
                          rw [List.map_append]
                          rfl
                        have hlk : ((rmv (a : Int) K ++ [((a : Int), (⟨u2, dread (S.map SecD.L) (W.map WrD.c) a, now + 1⟩ : ItD))])).length = (rmv (a : Int) K).length + 1 := by rw [List.length_append, List.length_singleton]
                        (repeat' (first | (refine gG ?_; try intro _) | (refine g_mv rfl ?_; first | refine mv_call_bel (fun w hk => bequal_self yA zA yn yc zn zc (dread (S.map SecD.L) (W.map WrD.c) a) w hyn hzn (hk.pO (sl yA 1 (IE .u8) (dread (S.map SecD.L) (W.map WrD.c) a)) mE) (hk.pO (sl zA 1 (IE .u8) (dread (S.map SecD.L) (W.map WrD.c) a)) mE) hxk.2) rfl rfl rfl rfl rfl (by kernel_rfl) ?_) | ((first | refine g_split rfl rfl tE (fun _ => ?_) (fun _ => ?_) | refine gk_cond rfl rfl tE (fun _ => ?_) (fun _ => ?_)) <;> (try first | (exfalso; omega; done) | (rename_i hx; exact absurd rfl hx) | (rename_i hx; cases hx; done)))))
                        refine g_mv rfl (mv_append (L := keys (rmv (a : Int) K)) rfl [(a : Int)] rfl rfl rfl rfl elt_I (by intro _; first | ((repeat (first | with_reducible exact Upd.here _ | with_reducible apply Upd.there)); done) | ((repeat (first | exact Upd.here _ | apply Upd.there)); done) | fail) (src_blk mE rfl) rfl (by intro x j; rfl) (by simp [maxLen]; omega) (by simp; omega) (Nat.zero_le _) (fun v1 => ?_))
                        refine g_ownv v1 mE (fun A5 c5 hv5 hz1 _ _ => ?_)
                        rw [hkk1] at hv5 hz1 ⊢
                        have hkl : (keys (rmv (a : Int) K ++ [((a : Int), (⟨u2, dread (S.map SecD.L) (W.map WrD.c) a, now + 1⟩ : ItD))])).length = ((rmv (a : Int) K ++ [((a : Int), (⟨u2, dread (S.map SecD.L) (W.map WrD.c) a, now + 1⟩ : ItD))])).length := List.length_map ..
                        rw [hkl] at hv5 hz1
                        subst hv5
                        refine g_freeze (.slice A5 ((rmv (a : Int) K ++ [((a : Int), (⟨u2, dread (S.map SecD.L) (W.map WrD.c) a, now + 1⟩ : ItD))])).length c5) (fun A => (by first | ((repeat (first | with_reducible exact Upd.here _ | with_reducible apply Upd.there)); done) | ((repeat (first | exact Upd.here _ | apply Upd.there)); done) | fail)) (fun A c3 hv3 _ _ _ => ?_)
                        injection hv3 with f1 f2 f3
                        subst f1 f3
                        refine g_share (φ := sl A5 1 (IE .i64) (keys (rmv (a : Int) K ++ [((a : Int), (⟨u2, dread (S.map SecD.L) (W.map WrD.c) a, now + 1⟩ : ItD))]))) (by repeat (first | with_reducible exact Sel.here | with_reducible apply Sel.there)) ?_
                        have hmS := hst.missS hgi (by omega) hu2 hli2
                        (repeat (refine gG ?_; try intro _))
                        refine g_yd rfl rfl (Ys.yd (ys_max (max most 0) rfl rfl rfl (by split <;> omega))) ?_
                        (repeat (refine gG ?_; try intro _))
                        refine g_yd rfl rfl (Ys.yd (ys_min (mo : Int) rfl rfl rfl (by rw [hmoL.out]; split <;> omega))) ?_
                        obtain ⟨KK, hKK⟩ : ∃ KK, (rmv (a : Int) K ++ [((a : Int), (⟨u2, dread (S.map SecD.L) (W.map WrD.c) a, now + 1⟩ : ItD))]) = KK := ⟨_, rfl⟩
                        rw [hKK] at hmS hlk hkl hz1 ⊢
                        by_cases hgt : mo < KK.length
                        · have ht : trim mo KK = KK.tail := if_pos hgt
                          have htl : (trim mo KK).length = KK.length - 1 := by rw [ht, List.length_tail]
                          have d3 : Der [sl A5 1 (IE .i64) (keys KK)] (sl (shA A5 1 c5 1) 1 (IE .i64) (keys (trim mo KK))) := ⟨fun w hw => by
                            have := sl_sub (hw _ (.head _)) 1 c5 (KK.length - 1) (by omega)
                            rw [List.take_of_length_le (by rw [List.length_drop]; omega)] at this
                            rw [ht, show keys KK.tail = (keys KK).drop 1 by rw [List.drop_one]; exact List.map_tail ..]
                            exact this, fun b hb => ⟨_, .head _, sl_sub_S (l := 1) (m := c5) (k := KK.length - 1) (by
                            rw [List.take_of_length_le (by rw [List.length_drop]; omega)]
                            rw [ht, show keys KK.tail = (keys KK).drop 1 by rw [List.drop_one]; exact List.map_tail ..] at hb
                            exact hb)⟩⟩
                          (repeat' (first | (refine gG ?_; try intro _) | ((first | refine g_split rfl rfl tE (fun _ => ?_) (fun _ => ?_) | refine gk_cond rfl rfl tE (fun _ => ?_) (fun _ => ?_)) <;> (try first | (exfalso; omega; done) | (rename_i hx; exact absurd rfl hx) | (rename_i hx; cases hx; done)))))
                          refine g_yd rfl rfl (Ys.yd (ys_slice_l hT 1 rfl rfl rfl rfl rfl (by omega))) ?_
                          refine g_der [sl A5 1 (IE .i64) (keys KK)] d3 sS ?_
                          (repeat (refine gG ?_; try intro _))
                          have hJ := J2.out (⟨sv, lv, sv2, lv2, S, S2, W, W2, M2, trim mo KK, now + 1, hit, miss + 1⟩, shA A5 1 c5 1, c5 - 1) ⟨hmS, by show (trim mo KK).length ≤ c5 - 1; omega⟩
                          dsimp only at hJ
                          rw [htl] at hJ
                          refine g_wk (by repeat (first | exact trivial | refine ⟨rfl, ?_⟩)) sA sS hJ
                        · have ht : trim mo KK = KK := if_neg hgt
                          (repeat' (first | (refine gG ?_; try intro _) | ((first | refine g_split rfl rfl tE (fun _ => ?_) (fun _ => ?_) | refine gk_cond rfl rfl tE (fun _ => ?_) (fun _ => ?_)) <;> (try first | (exfalso; omega; done) | (rename_i hx; exact absurd rfl hx) | (rename_i hx; cases hx; done)))))
                          have hJ := J2.out (⟨sv, lv, sv2, lv2, S, S2, W, W2, M2, trim mo KK, now + 1, hit, miss + 1⟩, A5, c5) ⟨hmS, by show (trim mo KK).length ≤ c5; rw [ht]; exact hz1⟩
                          dsimp only at hJ
                          rw [ht] at hJ
                          refine g_wk (by repeat (first | exact trivial | refine ⟨rfl, ?_⟩)) sA sS hJ
                      · have hbad : oa < 0 ∨ (S.length : Int) ≤ oa := by omega
                        have hbad2 : oa < 0 ∨ (S2.length : Int) ≤ oa := by omega
                        (repeat' (first | (refine gG ?_; try intro _) | ((first | refine g_split rfl rfl tE (fun _ => ?_) (fun _ => ?_) | refine gk_cond rfl rfl tE (fun _ => ?_) (fun _ => ?_)) <;> (try first | (exfalso; omega; done) | (rename_i hx; exact absurd rfl hx) | (rename_i hx; cases hx; done)))))
                        refine g_pack [blk x [.pointer (some ⟨g, 0, none⟩), .pointer (some ⟨c, 0, none⟩)] 76, lrF c ⟨r, mo, now, hit, miss, M⟩, dkF g ⟨sv, lv, S, W⟩] [blk g19 [.int .i64 ok, .int .i64 oa, .int .u8 oc, .slice oA on oc2] 33, dkF g2 ⟨sv2, lv2, S2, W2⟩] sA ?_
                        refine g_mv rfl (mv_call_mod (φ := packF [blk x [.pointer (some ⟨g, 0, none⟩), .pointer (some ⟨c, 0, none⟩)] 76, lrF c ⟨r, mo, now, hit, miss, M⟩, dkF g ⟨sv, lv, S, W⟩]) (ψ := fun _ : Unit => packF [blk x [.pointer (some ⟨g, 0, none⟩), .pointer (some ⟨c, 0, none⟩)] 76, lrF c ⟨r, mo, now, hit, miss + 1, M⟩, dkF g ⟨sv, lv, S, W⟩]) (fun w1 hk => by exact cread_bad x g c r mo now hit miss M sv lv S W oa w1 hgi hbad (by omega) (hk.rO (φ := packF [blk x [.pointer (some ⟨g, 0, none⟩), .pointer (some ⟨c, 0, none⟩)] 76, lrF c ⟨r, mo, now, hit, miss, M⟩, dkF g ⟨sv, lv, S, W⟩]) mE)) rfl rfl rfl rfl rfl (by kernel_rfl) (by intro _; first | ((repeat (first | with_reducible exact Upd.here _ | with_reducible apply Upd.there)); done) | ((repeat (first | exact Upd.here _ | apply Upd.there)); done) | fail) (fun _ _ => ?_))
                        refine g_unpack (l := [blk x [.pointer (some ⟨g, 0, none⟩), .pointer (some ⟨c, 0, none⟩)] 76, lrF c ⟨r, mo, now, hit, miss + 1, M⟩, dkF g ⟨sv, lv, S, W⟩]) (by repeat (first | with_reducible exact Sel.here | with_reducible apply Sel.there)) ?_
                        (repeat' (first | (refine gG ?_; try intro _) | (refine g_mv rfl ?_; first | refine mv_call_bel (fun w hk => dread_bad g2 sv2 lv2 S2 W2 oa w hbad2 (hk.rO (φ := dkF g2 ⟨sv2, lv2, S2, W2⟩) mE)) rfl rfl rfl rfl rfl (by kernel_rfl) ?_) | ((first | refine g_split rfl rfl tE (fun _ => ?_) (fun _ => ?_) | refine gk_cond rfl rfl tE (fun _ => ?_) (fun _ => ?_)) <;> (try first | (exfalso; omega; done) | (rename_i hx; exact absurd rfl hx) | (rename_i hx; cases hx; done)))))
                        (repeat' (first | (refine gG ?_; try intro _) | (refine g_mv rfl ?_; first | refine mv_call_bel (fun w hk => bequal_self none none 0 0 0 0 [] w rfl rfl Sl.nil Sl.nil (fun z hz => by cases hz)) rfl rfl rfl rfl rfl (by kernel_rfl) ?_) | ((first | refine g_split rfl rfl tE (fun _ => ?_) (fun _ => ?_) | refine gk_cond rfl rfl tE (fun _ => ?_) (fun _ => ?_)) <;> (try first | (exfalso; omega; done) | (rename_i hx; exact absurd rfl hx) | (rename_i hx; cases hx; done)))))
                        have hJ := J2.out (⟨sv, lv, sv2, lv2, S, S2, W, W2, M, K, now, hit, miss + 1⟩, kA, kc) ⟨hst.bad, hkc⟩
                        dsimp only at hJ
                        refine g_wk (by repeat (first | exact trivial | refine ⟨rfl, ?_⟩)) sA sS hJ
          case g =>
            rintro ⟨⟨sv, lv, sv2, lv2, S, S2, W, W2, M, K, now, hit, miss⟩, kA, kc⟩ ⟨hst, hkc⟩
            dsimp only at hkc ⊢
            --TOLD
            as_aux_lemma =>
              (repeat' (first | (refine gG ?_; try intro _) | (refine g_mv rfl ?_; first | refine mv_call_bel (fun w hk => ctold_any x g c r mo now hit miss M w (hk.rO (φ := blk x [.pointer (some ⟨g, 0, none⟩), .pointer (some ⟨c, 0, none⟩)] 76) mE) (hk.rO (φ := lrF c ⟨r, mo, now, hit, miss, M⟩) mE)) rfl rfl rfl rfl rfl (by kernel_rfl) ?_) | ((first | refine g_split rfl rfl tE (fun _ => ?_) (fun _ => ?_) | refine gk_cond rfl rfl tE (fun _ => ?_) (fun _ => ?_)) <;> (try first | (exfalso; omega; done) | (rename_i hx; exact absurd rfl hx) | (rename_i hx; cases hx; done)))))
              refine gk_again_sel rfl (sv, lv, sv2, lv2, S, S2, W, W2, M, K, now, hit, miss, kA, kc, i + 1) ⟨hst, hlt, hkc⟩ (by dsimp only; omega) (by repeat (first | exact trivial | refine ⟨rfl, ?_⟩)) sA sS
    · --END
      as_aux_lemma =>
        by_cases hk0 : K.length = 0
        · (repeat' (first | (refine gG ?_; try intro _) | ((first | refine g_split rfl rfl tE (fun _ => ?_) (fun _ => ?_) | refine gk_cond rfl rfl tE (fun _ => ?_) (fun _ => ?_)) <;> (try first | (exfalso; omega; done) | (rename_i hx; exact absurd rfl hx) | (rename_i hx; cases hx; done)))))
          (repeat' (first | (refine gG ?_; try intro _) | (refine g_mv rfl ?_; first | refine mv_call_bel (fun w hk => alive64_any w) rfl rfl rfl rfl rfl (by kernel_rfl) ?_) | ((first | refine g_split rfl rfl tE (fun _ => ?_) (fun _ => ?_) | refine gk_cond rfl rfl tE (fun _ => ?_) (fun _ => ?_)) <;> (try first | (exfalso; omega; done) | (rename_i hx; exact absurd rfl hx) | (rename_i hx; cases hx; done)))))
          refine gk_ret hT rfl rfl (.tmp rfl .nil) (fun w' hk => ?_)
          exact ⟨rfl, hk.toBelow⟩
        · obtain ⟨m, hm⟩ : ∃ m, K.length = m + 1 := ⟨K.length - 1, by omega⟩
          obtain ⟨p, hp⟩ : ∃ p, K[m]? = some p := ⟨K[m]'(by omega), List.getElem?_eq_getElem (by omega)⟩
          have hpm := List.mem_of_getElem? hp
          have hgi := hli.getI_of hpm
          obtain ⟨a, ha1, ha2, hxo, hxL⟩ := hst.it p hpm
          obtain ⟨pq, ⟨xA, xn, xc⟩, xL, xw⟩ := p
          dsimp only at ha1 hxL hgi
          subst ha1
          have hE : xL = (dread (S2.map SecD.L) (W2.map WrD.c) a) := by
            rw [hxL]
            show dread (S.map SecD.L) (W.map WrD.c) a = _
            rw [show S.map SecD.L = S2.map SecD.L from hst.eS, show W.map WrD.c = W2.map WrD.c from hst.eW]
          have hkm : (keys K)[m]? = some (a : Int) := by
            show (K.map (·.1))[m]? = _
            rw [List.getElem?_map, hp]
            rfl
          refine gk_elem (enc := IE .i64) (L := keys K) m mE (by omega) (by decide) (fun b2 o2 y2 eA2 hy2 => ?_)
          subst eA2
          rw [hkm] at hy2
          obtain rfl := Option.some.inj hy2
          rw [hm]
          (repeat' (first | (refine gG ?_; try intro _) | ((first | refine g_split rfl rfl tE (fun _ => ?_) (fun _ => ?_) | refine gk_cond rfl rfl tE (fun _ => ?_) (fun _ => ?_)) <;> (try first | (exfalso; omega; done) | (rename_i hx; exact absurd rfl hx) | (rename_i hx; cases hx; done)))))
          refine g_say 240 (.pointer (some ⟨b2, o2 + m * 1, none⟩)) rfl (by have h9 : (((m + 1 : Nat) : Int) - 1).toNat = m := (by omega); rw [h9]) ?_
          (repeat' (first | (refine gG ?_; try intro _) | ((first | refine g_split rfl rfl tE (fun _ => ?_) (fun _ => ?_) | refine gk_cond rfl rfl tE (fun _ => ?_) (fun _ => ?_)) <;> (try first | (exfalso; omega; done) | (rename_i hx; exact absurd rfl hx) | (rename_i hx; cases hx; done)))))
          refine g_pack [blk x [.pointer (some ⟨g, 0, none⟩), .pointer (some ⟨c, 0, none⟩)] 76, lrF c ⟨r, mo, now, hit, miss, M⟩, dkF g ⟨sv, lv, S, W⟩, dkF g2 ⟨sv2, lv2, S2, W2⟩] [] sA ?_
          refine g_mv rfl (mv_call_mod (φ := packF [blk x [.pointer (some ⟨g, 0, none⟩), .pointer (some ⟨c, 0, none⟩)] 76, lrF c ⟨r, mo, now, hit, miss, M⟩, dkF g ⟨sv, lv, S, W⟩, dkF g2 ⟨sv2, lv2, S2, W2⟩]) (ψ := fun q : Value × SecD => packF [blk x [.pointer (some ⟨g, 0, none⟩), .pointer (some ⟨c, 0, none⟩)] 76, lrF c ⟨r, mo, now + 1, hit + 1, miss, setI a ⟨⟨xA, xn, xc⟩, xL, now + 1⟩ M⟩, dkF g ⟨sv, q.1, S, W ++ [(⟨a, q.2⟩ : WrD)]⟩, dkF g2 ⟨sv2, lv2, S2, W2⟩]) (fun w1 hk => by exact unread_any x g g2 c r mo now hit miss M sv lv sv2 lv2 S S2 W W2 a xA xn xc xw xL w1 ho1 ho2 (by omega) (by omega) (by omega) (by omega) hE hgi hxo (by omega) (by omega) (hk.rO (φ := packF [blk x [.pointer (some ⟨g, 0, none⟩), .pointer (some ⟨c, 0, none⟩)] 76, lrF c ⟨r, mo, now, hit, miss, M⟩, dkF g ⟨sv, lv, S, W⟩, dkF g2 ⟨sv2, lv2, S2, W2⟩]) mE)) rfl rfl rfl rfl rfl (by kernel_rfl) (by intro _; first | ((repeat (first | with_reducible exact Upd.here _ | with_reducible apply Upd.there)); done) | ((repeat (first | exact Upd.here _ | apply Upd.there)); done) | fail) (fun q _ => ?_))
          (repeat' (first | (refine gG ?_; try intro _) | (refine g_mv rfl ?_; first | refine mv_call_bel (fun w hk => alive64_any w) rfl rfl rfl rfl rfl (by kernel_rfl) ?_) | ((first | refine g_split rfl rfl tE (fun _ => ?_) (fun _ => ?_) | refine gk_cond rfl rfl tE (fun _ => ?_) (fun _ => ?_)) <;> (try first | (exfalso; omega; done) | (rename_i hx; exact absurd rfl hx) | (rename_i hx; cases hx; done)))))
          refine gk_ret hT rfl rfl (.tmp rfl .nil) (fun w' hk => ?_)
          exact ⟨rfl, hk.toBelow⟩
end Go.Proofs.Ytajbjbhlpcmddaa.Dk

