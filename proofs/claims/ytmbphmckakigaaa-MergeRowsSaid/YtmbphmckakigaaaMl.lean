/- The law's fine, entry, alive (layer 17). -/
import Derived.Test.YtmbphmckakigaaaMk
import Derived.Test.YtmbphmckakigaaaWe
namespace Go.Proofs.Ytmbphmckakigaaa.Mg
open Go.RowKit Mem Gx Hp Nd Wk
set_option linter.unusedVariables false
set_option linter.unusedSimpArgs false
set_option maxRecDepth 100000
set_option maxHeartbeats 1000000
theorem tB_cong {p q : Prop} (h : p ↔ q) : tB p = tB q := by rw [show p = q from propext h]
theorem adj_all : ∀ (L : List EntD) (a : EntD), (∀ i x y, (a :: L)[i]? = some x → (a :: L)[i + 1]? = some y → ¬ klt y.k x.k) → ∀ z, z ∈ L → ¬ klt z.k a.k
  | [], _, _, z, hz => (by cases hz)
  | b :: L, a, h, z, hz => by
    have h0 := h 0 a b rfl rfl
    rcases List.mem_cons.1 hz with rfl | hz
    · exact h0
    · exact nlt_trans h0 (adj_all L b (fun i x y hx hy => h (i + 1) x y hx hy) z hz)
theorem srt_adj : ∀ (L : List EntD), (∀ i x y, L[i]? = some x → L[i + 1]? = some y → ¬ klt y.k x.k) → Srt L
  | [], _ => List.Pairwise.nil
  | a :: L, h => List.pairwise_cons.2 ⟨adj_all L a h, srt_adj L fun i x y hx hy => h (i + 1) x y hx hy⟩
theorem srt_at {L : List EntD} (h : Srt L) {i : Nat} {x y : EntD} (hx : L[i]? = some x) (hy : L[i + 1]? = some y) : ¬ klt y.k x.k := by
  obtain ⟨h1, e1⟩ := List.getElem?_eq_some_iff.1 hx
  obtain ⟨h2, e2⟩ := List.getElem?_eq_some_iff.1 hy
  have := List.pairwise_iff_getElem.1 h i (i + 1) h1 h2 (by omega)
  rw [e1, e2] at this
  exact this
theorem fine17_any (A : Option Addr) (n c : Nat) (L : List EntD) (w : World) (hn : n = L.length) (h9 : n ≤ 9223372036854775807) (hbd : ∀ e ∈ L, e.k.Bd) (hs : Rd1 w (sl A 4 EE L)) :
    Calls Try.prog 8 [.slice A n c].toArray w fun e w' => e = .returned (.bool (tB (L.length ≤ 30 ∧ (L.length ≤ 30 → Srt L)))) ∧ Below w.heap.size w w' := by
  refine g_enter0 T [] [] [sl A 4 EE L] Try.func8 rfl Try.ntmps8 rfl (Rds.cons hs .nil).kn ?_
  (repeat (refine gG ?_; try intro _))
  refine gk_loop_sel (fun (i : Nat) => (i ≤ n ∧ ∀ j x y, j < i → L[j]? = some x → L[j + 1]? = some y → ¬ klt y.k x.k)) (fun (i : Nat) => [(0, .slice A n c), (3, .int .i64 ((i + 1 : Nat) : Int))]) (fun (i : Nat) => []) (fun (i : Nat) => [sl A 4 EE L]) (fun (i : Nat) => n - i) 0 rfl ⟨Nat.zero_le _, fun j x y hj => absurd hj (Nat.not_lt_zero _)⟩ (by repeat (first | exact trivial | refine ⟨rfl, ?_⟩)) sA sS ?_
  rintro i hI
  replace hI : (i ≤ n ∧ ∀ j x y, j < i → L[j]? = some x → L[j + 1]? = some y → ¬ klt y.k x.k) := hI
  change GK _ _ [(0, .slice A n c), (3, .int .i64 ((i + 1 : Nat) : Int))] [] [sl A 4 EE L]
  obtain ⟨hi0, hI⟩ := hI
  by_cases hlt : i + 1 < n
  · obtain ⟨e, he⟩ : ∃ e, L[i + 1]? = some e := ⟨L[i + 1], List.getElem?_eq_getElem (by omega)⟩
    obtain ⟨e0, he0⟩ : ∃ e, L[i]? = some e := ⟨L[i], List.getElem?_eq_getElem (by omega)⟩
    have hb1 := hbd e (List.mem_of_getElem? he)
    have hb0 := hbd e0 (List.mem_of_getElem? he0)
    refine gk_elem (enc := EE) (L := L) (i + 1) mE (by omega) (by decide) (fun b1 o1 y1 eA hy1 => ?_)
    subst eA
    obtain rfl : e = y1 := by rw [he] at hy1; exact Option.some.inj hy1
    refine gk_elem (enc := EE) (L := L) i mE (by omega) (by decide) (fun b2 o2 y2 eA hy2 => ?_)
    injection eA with eA
    injection eA with e2 e3
    subst e2 e3
    obtain rfl : e0 = y2 := by rw [he0] at hy2; exact Option.some.inj hy2
    by_cases h30 : i + 1 < 30
    · (repeat' (first | (refine gG ?_; try intro _) | ((first | refine g_split rfl rfl tE (fun _ => ?_) (fun _ => ?_) | refine gk_cond rfl rfl tE (fun _ => ?_) (fun _ => ?_)) <;> (try first | (exfalso; omega; done) | (rename_i hx; exact absurd rfl hx) | (rename_i hx; cases hx; done)))))
      by_cases hlk : klt e.k e0.k
      · refine gk_any [0, 1] (Cut _ (fun _ : Unit => [(26, .bool true)]) (fun _ => []) (fun _ => [])) rfl rfl (by kernel_rfl) ?_ (cut_k fun _ => ?_)
        · skip
          refine gb_take 0 rfl (by decide +kernel) rfl rfl (ys_ev (nw := true) hT rfl sI) sF ?_
          refine gb_take 1 rfl (by decide +kernel) rfl rfl (ys_ev (nw := true) hT rfl sI) sF ?_
          refine gb_take 2 rfl (by decide +kernel) rfl rfl (ys_ev (nw := true) hT rfl sI) sF ?_
          try (refine gb_say 16 (.int .i64 (i : Nat)) rfl (by congr 1; omega) ?_)
          refine gb_take 3 rfl (by decide +kernel) rfl rfl (ys_ev (nw := true) hT rfl sI) sF ?_
          refine gb_take 4 rfl (by decide +kernel) rfl rfl (ys_ev (nw := true) hT rfl sI) sF ?_
          refine gb_take 5 rfl (by decide +kernel) rfl rfl (by first | exact ys_blk hT rfl rfl mE rfl rfl | exact ys_row hT rfl rfl mE rfl rfl | exact ys_row0 hT rfl rfl mE rfl rfl) sF ?_
          refine gb_take 6 rfl (by decide +kernel) rfl rfl (ys_ev (nw := true) hT rfl sI) sF ?_
          refine gb_take 7 rfl (by decide +kernel) rfl rfl (ys_ev (nw := true) hT rfl sI) sF ?_
          refine gb_take 8 rfl (by decide +kernel) rfl rfl (ys_ev (nw := true) hT rfl sI) sF ?_
          refine gb_take 9 rfl (by decide +kernel) rfl rfl (ys_ev (nw := true) hT rfl sI) sF ?_
          refine gb_take 10 rfl (by decide +kernel) rfl rfl (by first | exact ys_blk hT rfl rfl mE rfl rfl | exact ys_row hT rfl rfl mE rfl rfl | exact ys_row0 hT rfl rfl mE rfl rfl) sF ?_
          refine gb_only 11 (by decide +kernel) rfl rfl ?_
          refine mv_call_bel (fun w hk => cmp04_any e0.k e.k w hb0 hb1) rfl rfl rfl rfl rfl (by kernel_rfl) ?_
          refine ⟨sF, ?_⟩
          refine gb_take 12 rfl (by decide +kernel) rfl rfl (ys_ev (nw := true) hT rfl sI) sF ?_
          try (refine gb_say 26 (.bool true) rfl (congrArg Value.bool (tB_true (by rw [kcmp_gt hlk]; decide))) ?_)
          refine gb_nil (by decide +kernel) ?_
          exact ⟨(), (by repeat (first | exact trivial | refine ⟨rfl, ?_⟩)), sA, sS⟩
        · (repeat (refine gG ?_; try intro _))
          refine gk_ret hT rfl rfl (.tmp rfl .nil) (fun w' hk => ?_)
          refine ⟨?_, hk.toBelow⟩
          rw [tB_false (fun h => srt_at (h.2 h.1) he0 he hlk)]
          rfl
      · refine gk_any [0, 1] (Cut _ (fun _ : Unit => [(0, .slice (some ⟨b1, o1, none⟩) n c), (3, .int .i64 ((i + 1 : Nat) : Int)), (26, .bool false)]) (fun _ => []) (fun _ => [sl (some ⟨b1, o1, none⟩) 4 EE L])) rfl rfl (by kernel_rfl) ?_ (cut_k fun _ => ?_)
        · skip
          refine gb_take 0 rfl (by decide +kernel) rfl rfl (ys_ev (nw := true) hT rfl sI) sF ?_
          refine gb_take 1 rfl (by decide +kernel) rfl rfl (ys_ev (nw := true) hT rfl sI) sF ?_
          refine gb_take 2 rfl (by decide +kernel) rfl rfl (ys_ev (nw := true) hT rfl sI) sF ?_
          try (refine gb_say 16 (.int .i64 (i : Nat)) rfl (by congr 1; omega) ?_)
          refine gb_take 3 rfl (by decide +kernel) rfl rfl (ys_ev (nw := true) hT rfl sI) sF ?_
          refine gb_take 4 rfl (by decide +kernel) rfl rfl (ys_ev (nw := true) hT rfl sI) sF ?_
          refine gb_take 5 rfl (by decide +kernel) rfl rfl (by first | exact ys_blk hT rfl rfl mE rfl rfl | exact ys_row hT rfl rfl mE rfl rfl | exact ys_row0 hT rfl rfl mE rfl rfl) sF ?_
          refine gb_take 6 rfl (by decide +kernel) rfl rfl (ys_ev (nw := true) hT rfl sI) sF ?_
          refine gb_take 7 rfl (by decide +kernel) rfl rfl (ys_ev (nw := true) hT rfl sI) sF ?_
          refine gb_take 8 rfl (by decide +kernel) rfl rfl (ys_ev (nw := true) hT rfl sI) sF ?_
          refine gb_take 9 rfl (by decide +kernel) rfl rfl (ys_ev (nw := true) hT rfl sI) sF ?_
          refine gb_take 10 rfl (by decide +kernel) rfl rfl (by first | exact ys_blk hT rfl rfl mE rfl rfl | exact ys_row hT rfl rfl mE rfl rfl | exact ys_row0 hT rfl rfl mE rfl rfl) sF ?_
          refine gb_only 11 (by decide +kernel) rfl rfl ?_
          refine mv_call_bel (fun w hk => cmp04_any e0.k e.k w hb0 hb1) rfl rfl rfl rfl rfl (by kernel_rfl) ?_
          refine ⟨sF, ?_⟩
          refine gb_take 12 rfl (by decide +kernel) rfl rfl (ys_ev (nw := true) hT rfl sI) sF ?_
          try (refine gb_say 26 (.bool false) rfl (congrArg Value.bool (tB_false (by have := kcmp_le.2 hlk; omega))) ?_)
          refine gb_nil (by decide +kernel) ?_
          exact ⟨(), (by repeat (first | exact trivial | refine ⟨rfl, ?_⟩)), sA, sS⟩
        · (repeat (refine gG ?_; try intro _))
          refine gk_again_sel rfl (i + 1) ⟨by omega, fun j x y hj hx hy => ?_⟩ (by omega) (by repeat (first | exact trivial | refine ⟨rfl, ?_⟩)) sA sS
          by_cases ej : j = i
          · subst ej
            rw [he0] at hx
            rw [he] at hy
            obtain rfl := Option.some.inj hx
            obtain rfl := Option.some.inj hy
            exact hlk
          · exact hI j x y (by omega) hx hy
    · (repeat' (first | (refine gG ?_; try intro _) | ((first | refine g_split rfl rfl tE (fun _ => ?_) (fun _ => ?_) | refine gk_cond rfl rfl tE (fun _ => ?_) (fun _ => ?_)) <;> (try first | (exfalso; omega; done) | (rename_i hx; exact absurd rfl hx) | (rename_i hx; cases hx; done)))))
      refine gk_ret hT rfl rfl (.tmp rfl .nil) (fun w' hk => ?_)
      refine ⟨?_, hk.toBelow⟩
      exact congrArg (fun q => Ending.returned (.bool q)) (tB_cong ⟨fun h => ⟨by omega, fun _ => absurd h (by omega)⟩, fun h => by have := h.1; omega⟩)
  · (repeat' (first | (refine gG ?_; try intro _) | ((first | refine g_split rfl rfl tE (fun _ => ?_) (fun _ => ?_) | refine gk_cond rfl rfl tE (fun _ => ?_) (fun _ => ?_)) <;> (try first | (exfalso; omega; done) | (rename_i hx; exact absurd rfl hx) | (rename_i hx; cases hx; done)))))
    refine gk_ret hT rfl rfl (.tmp rfl .nil) (fun w' hk => ?_)
    refine ⟨?_, hk.toBelow⟩
    exact congrArg (fun q => Ending.returned (.bool q)) (tB_cong ⟨fun h => ⟨by omega, fun _ => srt_adj L fun j x y hx hy => by
      have := (List.getElem?_eq_some_iff.1 hy).1
      exact hI j x y (by omega) hx hy⟩, fun h => by have := h.1; omega⟩)
theorem entry17_any (s : Nat) (w : World) : Calls Try.prog 36 [.int .u64 s].toArray w fun e w' => e = .returned (⟨⟨0, 0, s⟩, 0⟩ : EntD).val ∧ Below w.heap.size w w' := by
  refine g_enter0 T [] [] [] Try.func36 rfl Try.ntmps36 rfl (Kn.start _) ?_
  (repeat (refine gG ?_; try intro _))
  refine gk_ret hT rfl rfl (.cell rfl mE rfl rfl (.nil)) (fun w' hk => ?_)
  exact ⟨rfl, hk.toBelow⟩
theorem own_slS {w : World} {α : Type} [Inhabited α] {e base sz n c : Nat} {A : Option Addr} {enc : α → Nat → Value} {L : List α} (h : OwnL w base e sz (.slice A n c) enc L) : Sl w A sz enc L := by
  obtain ⟨A', c', e1, hs, _⟩ := OwnL.sl h
  injection e1 with e1 e2 e3
  subst e1
  exact hs
/-- A literal, as a slice that may be read. -/
theorem rd_blk {E : List Nat} {w0 w : World} {O R : List Fact} {g T : Nat} {cs : List Value} (hk : Kn E w0 w O R) (h : blk g cs T ∈ O) {α : Type} [Inhabited α] {sz : Nat} {enc : α → Nat → Value} {M : List α} (he : cs = flatF sz enc M) : Rd1 w (sl (some ⟨g, 0, none⟩) sz enc M) :=
  ⟨src_blk (X := ⟨Try.prog, Gx.T, Try.f14, 0, E, w0, fun _ _ => True, [], none⟩) (R := R) h he w hk, fun b hb => by
    obtain ⟨_, a, ha, hb⟩ := hb
    injection ha with ha
    subst ha
    subst hb
    exact hk.ltO _ h _ rfl⟩
theorem rd_all {w : World} {α : Type} {L : List α} {F : α → Fact} (h : ∀ x, x ∈ L → Rd1 w (F x)) : Rd1 w (allF L F) :=
  Der.rd (l := L.map F) (Der.all fun x hx => Der.mem (List.mem_map_of_mem hx)) fun ψ hψ => by
    obtain ⟨x, hx, rfl⟩ := List.mem_map.1 hψ
    exact h x hx
abbrev ofN (s : Nat) : EntD := ⟨⟨0, 0, s⟩, 0⟩
theorem ofN_lt {a b : Nat} (h : a < b) : klt (ofN a).k (ofN b).k := by unfold klt ofN; dsimp only; omega
theorem ofN_nlt {a b : Nat} (h : b ≤ a) : ¬ klt (ofN a).k (ofN b).k := by unfold klt ofN; dsimp only; omega
theorem ins_o {a b : Nat} (W : List EntD) (h : a ≤ b) : ins (ofN a :: W) (ofN b) = ofN a :: ins W (ofN b) := ins_le (ofN_nlt h)
theorem ins_g {a b : Nat} (h : b < a) : ins [ofN a] (ofN b) = [ofN b, ofN a] := ins_gt fun y hy => by
  obtain rfl := List.mem_singleton.1 hy
  exact ofN_lt h
theorem alive_ins : insAll [[ofN 1, ofN 4], [ofN 2, ofN 3]] = [ofN 1, ofN 2, ofN 3, ofN 4] := by
  show ins (ins (ins (ins [] (ofN 1)) (ofN 4)) (ofN 2)) (ofN 3) = _
  have h1 : ins (ins [] (ofN 1)) (ofN 4) = [ofN 1, ofN 4] := ins_o (a := 1) (b := 4) [] (by omega)
  have h2 : ins [ofN 1, ofN 4] (ofN 2) = [ofN 1, ofN 2, ofN 4] := by rw [ins_o (a := 1) (b := 2) _ (by omega), ins_g (a := 4) (b := 2) (by omega)]
  have h3 : ins [ofN 1, ofN 2, ofN 4] (ofN 3) = [ofN 1, ofN 2, ofN 3, ofN 4] := by rw [ins_o (a := 1) (b := 3) _ (by omega), ins_o (a := 2) (b := 3) _ (by omega), ins_g (a := 4) (b := 3) (by omega)]
  rw [h1, h2, h3]
theorem ofN_ok (b o : Nat) {x y : Nat} (h : x ≤ y) : (⟨⟨some ⟨b, o, none⟩, 2, 2⟩, [ofN x, ofN y]⟩ : RwD).Ok := ⟨⟨rfl, Nat.le_refl 2, (by show 2 ≤ maxLen; decide), fun h => by cases h⟩, List.pairwise_cons.2 ⟨fun z hz => by obtain rfl := List.mem_singleton.1 hz; exact ofN_nlt h, List.pairwise_cons.2 ⟨fun z hz => (by cases hz), List.Pairwise.nil⟩⟩, (by show 2 ≤ 30; omega)⟩
theorem alive17_any (w : World) : Calls Try.prog 14 (#[] : Array Value) w fun e w' => e = .returned (.bool true) ∧ Below w.heap.size w w' := by
  refine g_enter0 T [] [] [] Try.func14 rfl Try.ntmps14 rfl (Kn.start _) ?_
  (repeat' (first | (refine gG ?_; try intro _) | (refine g_mv rfl ?_; first | refine mv_call_bel (fun w hk => entry17_any _ w) rfl rfl rfl rfl rfl (by kernel_rfl) ?_) | ((first | refine g_split rfl rfl tE (fun _ => ?_) (fun _ => ?_) | refine gk_cond rfl rfl tE (fun _ => ?_) (fun _ => ?_)) <;> (try first | (exfalso; omega; done) | (rename_i hx; exact absurd rfl hx) | (rename_i hx; cases hx; done)))))
  rename_i g3 g2 g1
  obtain ⟨RS, hRS⟩ : ∃ RS : List RwD, RS = [⟨⟨some ⟨g3, 0, none⟩, 2, 2⟩, [ofN 1, ofN 4]⟩, ⟨⟨some ⟨g2, 0, none⟩, 2, 2⟩, [ofN 2, ofN 3]⟩] := ⟨_, rfl⟩
  have hins : insAll (RS.map RwD.E) = [ofN 1, ofN 2, ofN 3, ofN 4] := by rw [hRS]; exact alive_ins
  refine g_mv rfl ?_; refine mv_call_rt (fun w hk => rows_any RS (some ⟨g1, 0, none⟩) 2 2 w (by rw [hRS]; rfl) (by rw [hRS]; show 2 ≤ 8; omega) (fun r hr => by
    rw [hRS] at hr
    rcases List.mem_cons.1 hr with rfl | hr
    · exact ofN_ok g3 0 (by decide)
    · obtain rfl := List.mem_singleton.1 hr
      exact ofN_ok g2 0 (by decide)) (by rw [hins]; decide) (.cons (rd_blk hk (g := g1) mE (by rw [hRS]; rfl)) (.cons (rd_all fun r hr => by
    rw [hRS] at hr
    rcases List.mem_cons.1 hr with rfl | hr
    · exact rd_blk hk (g := g3) mE rfl
    · obtain rfl := List.mem_singleton.1 hr
      exact rd_blk hk (g := g2) mE rfl) .nil))) rfl rfl rfl rfl rfl (by kernel_rfl) (fun _ => rfl) (fun v _ => ?_)
  rw [hins]
  refine g_ownv v mE (fun A1 c1 hv1 _ _ _ => ?_)
  subst hv1
  (repeat' (first | (refine gG ?_; try intro _) | (refine g_mv rfl ?_; first | refine mv_call_bel (fun w hk => entry17_any _ w) rfl rfl rfl rfl rfl (by kernel_rfl) ?_) | ((first | refine g_split rfl rfl tE (fun _ => ?_) (fun _ => ?_) | refine gk_cond rfl rfl tE (fun _ => ?_) (fun _ => ?_)) <;> (try first | (exfalso; omega; done) | (rename_i hx; exact absurd rfl hx) | (rename_i hx; cases hx; done)))))
  rename_i g4
  (repeat' (first | (refine gG ?_; try intro _) | (refine g_mv rfl ?_; first | refine mv_call_bel (fun w hk => equal_E A1 (some ⟨g4, 0, none⟩) [ofN 1, ofN 2, ofN 3, ofN 4].length c1 4 4 [ofN 1, ofN 2, ofN 3, ofN 4] [ofN 1, ofN 2, ofN 3, ofN 4] w rfl rfl (by show 4 ≤ 9223372036854775807; omega) (own_slS (hk.pO (own 0 31 4 (.slice A1 [ofN 1, ofN 2, ofN 3, ofN 4].length c1) EE [ofN 1, ofN 2, ofN 3, ofN 4]) mE)) (rd_blk hk (g := g4) mE rfl).1) rfl rfl rfl rfl rfl (by kernel_rfl) ?_) | ((first | refine g_split rfl rfl tE (fun _ => ?_) (fun _ => ?_) | refine gk_cond rfl rfl tE (fun _ => ?_) (fun _ => ?_)) <;> (try first | (exfalso; omega; done) | (rename_i hx; exact absurd rfl hx) | (rename_i hx; cases hx; done)))))
  refine gk_ret hT rfl rfl (.tmp rfl .nil) (fun w' hk => ?_)
  refine ⟨?_, hk.toBelow⟩
  exact congrArg (fun q => Ending.returned (.bool q)) (tB_true rfl)
end Go.Proofs.Ytmbphmckakigaaa.Mg

