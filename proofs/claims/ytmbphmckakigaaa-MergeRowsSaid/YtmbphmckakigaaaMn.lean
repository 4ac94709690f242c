/- The law's walk (layer 17). -/
import Derived.Test.YtmbphmckakigaaaMl
namespace Go.Proofs.Ytmbphmckakigaaa.Mg
open Go.RowKit Mem Gx Hp Nd Wk
set_option linter.unusedVariables false
set_option linter.unusedSimpArgs false
set_option maxRecDepth 100000
set_option maxHeartbeats 1000000
/-- A row, as an argument has it. -/
structure RwD.Arg (r : RwD) : Prop where
  ok : r.s.Ok r.E.length
  bd : ∀ e ∈ r.E, e.k.Bd
theorem insAll_snoc (A : List (List EntD)) (r : List EntD) : insAll (A ++ [r]) = insRow (insAll A) r := by
  unfold insAll
  rw [List.foldl_append]
  rfl
theorem insRow_snoc (W r : List EntD) (e : EntD) : insRow W (r ++ [e]) = ins (insRow W r) e := by
  unfold insRow
  rw [List.foldl_append]
  rfl
theorem keep_end {W : List EntD} {i : Nat} {x : EntD} (h : W[i]? = some x) (h2 : W[i + 1]? = none) : keepS W (i + 1) = keepS W i ++ [x] := by
  show (match W[i]?, W[i + 1]? with | some x, some y => if tB (y.k = x.k) = true then keepS W i else keepS W i ++ [x] | some x, none => keepS W i ++ [x] | none, _ => keepS W i) = _
  rw [h, h2]
theorem keep_same {W : List EntD} {i : Nat} {x y : EntD} (h : W[i]? = some x) (h2 : W[i + 1]? = some y) (hk : y.k = x.k) : keepS W (i + 1) = keepS W i := by
  show (match W[i]?, W[i + 1]? with | some x, some y => if tB (y.k = x.k) = true then keepS W i else keepS W i ++ [x] | some x, none => keepS W i ++ [x] | none, _ => keepS W i) = _
  rw [h, h2]
  show (if _ then _ else _) = _
  rw [if_pos (tB_true hk)]
theorem keep_diff {W : List EntD} {i : Nat} {x y : EntD} (h : W[i]? = some x) (h2 : W[i + 1]? = some y) (hk : ¬ y.k = x.k) : keepS W (i + 1) = keepS W i ++ [x] := by
  show (match W[i]?, W[i + 1]? with | some x, some y => if tB (y.k = x.k) = true then keepS W i else keepS W i ++ [x] | some x, none => keepS W i ++ [x] | none, _ => keepS W i) = _
  rw [h, h2]
  show (if _ then _ else _) = _
  rw [if_neg (by rw [tB_false hk]; decide)]
theorem keep_le (W : List EntD) : ∀ i, (keepS W i).length ≤ i
  | 0 => Nat.le_refl 0
  | i + 1 => by
    have ih := keep_le W i
    cases hx : W[i]? with
    | none =>
      show (match W[i]?, W[i + 1]? with | some x, some y => if tB (y.k = x.k) = true then keepS W i else keepS W i ++ [x] | some x, none => keepS W i ++ [x] | none, _ => keepS W i).length ≤ _
      rw [hx]
      exact Nat.le_succ_of_le ih
    | some x =>
      cases hy : W[i + 1]? with
      | none =>
        rw [keep_end hx hy, List.length_append]
        exact Nat.succ_le_succ ih
      | some y =>
        by_cases hk : y.k = x.k
        · rw [keep_same hx hy hk]
          exact Nat.le_succ_of_le ih
        · rw [keep_diff hx hy hk, List.length_append]
          exact Nat.succ_le_succ ih
theorem equal_self (A A' : Option Addr) (n c n' c' : Nat) (L : List EntD) (w : World) (hn : n = L.length) (hn' : n' = L.length) (h9 : n ≤ 9223372036854775807) (hs : Sl w A 4 EE L) (hs' : Sl w A' 4 EE L) :
    Calls Try.prog 10 [.slice A n c, .slice A' n' c'].toArray w fun e w' => e = .returned (.bool true) ∧ Below w.heap.size w w' := by
  have h := equal_E A A' n c n' c' L L w hn hn' h9 hs hs'
  rwa [tB_true rfl] at h
set_option maxHeartbeats 8000000 in
theorem law17_any (RS : List RwD) (rA : Option Addr) (rn rc : Nat) (w : World) (hrn : rn = RS.length) (harg : ∀ r, r ∈ RS → r.Arg) (hB : Rds w [sl rA 1 RE RS, allF RS rwF]) :
    Calls Try.prog 3 [.slice rA rn rc].toArray w fun e w' => e = .returned (.bool true) ∧ Below w.heap.size w w' := by
  refine g_enter0 T [] [] [sl rA 1 RE RS, allF RS rwF] Try.func3 rfl Try.ntmps3 rfl hB.kn ?_
  by_cases h8 : 8 < rn
  · (repeat' (first | (refine gG ?_; try intro _) | ((first | refine g_split rfl rfl tE (fun _ => ?_) (fun _ => ?_) | refine gk_cond rfl rfl tE (fun _ => ?_) (fun _ => ?_)) <;> (try first | (exfalso; omega; done) | (rename_i hx; exact absurd rfl hx) | (rename_i hx; cases hx; done)))))
    refine gk_ret hT rfl rfl (.tmp rfl .nil) (fun w' hk => ?_)
    exact ⟨rfl, hk.toBelow⟩
  · (repeat' (first | (refine gG ?_; try intro _) | ((first | refine g_split rfl rfl tE (fun _ => ?_) (fun _ => ?_) | refine gk_cond rfl rfl tE (fun _ => ?_) (fun _ => ?_)) <;> (try first | (exfalso; omega; done) | (rename_i hx; exact absurd rfl hx) | (rename_i hx; cases hx; done)))))
    refine gk_own 0 31 4 EE ?_
    refine gk_loop_sel (fun (q : Value × Nat) => match q with | (v, i) => (i ≤ rn ∧ (∀ j r, j < i → RS[j]? = some r → r.Ok) ∧ (insAll ((RS.take i).map RwD.E)).length ≤ 30 * i)) (fun (q : Value × Nat) => match q with | (v, i) => [(0, .slice rA rn rc), (2, .bool false), (3, v), (4, .slice none 0 0), (5, .int .i64 i)]) (fun (q : Value × Nat) => match q with | (v, i) => [own 0 31 4 v EE (insAll ((RS.take i).map RwD.E))]) (fun (q : Value × Nat) => match q with | (v, i) => [sl rA 1 RE RS, allF RS rwF]) (fun (q : Value × Nat) => match q with | (v, i) => rn - i) (.slice none 0 0, 0) rfl ⟨Nat.zero_le _, fun j r hj => absurd hj (Nat.not_lt_zero _), Nat.le_refl _⟩ (by repeat (first | exact trivial | refine ⟨rfl, ?_⟩)) sA sS ?_
    rintro ⟨v, i⟩ hI
    replace hI : (i ≤ rn ∧ (∀ j r, j < i → RS[j]? = some r → r.Ok) ∧ (insAll ((RS.take i).map RwD.E)).length ≤ 30 * i) := hI
    change GK _ _ [(0, .slice rA rn rc), (2, .bool false), (3, v), (4, .slice none 0 0), (5, .int .i64 i)] [own 0 31 4 v EE (insAll ((RS.take i).map RwD.E))] [sl rA 1 RE RS, allF RS rwF]
    obtain ⟨hir, hfine, hwl⟩ := hI
    by_cases hlt : i < rn
    · as_aux_lemma =>
        obtain ⟨r, hr⟩ : ∃ r, RS[i]? = some r := ⟨RS[i], List.getElem?_eq_getElem (by omega)⟩
        have hrm := List.mem_of_getElem? hr
        obtain ⟨rok, rbd⟩ := harg r hrm
        have rder : Der [allF RS rwF] (rwF r) := Der.elem (L := RS) (F := rwF) (x := r) (Der.mem (.head _)) hrm
        have ht1 : (RS.take (i + 1)).map RwD.E = (RS.take i).map RwD.E ++ [r.E] := by
          obtain ⟨h1, h2⟩ := List.getElem?_eq_some_iff.1 hr
          rw [List.take_succ_eq_append_getElem h1, h2, List.map_append]
          rfl
        refine gk_elem (enc := RE) (L := RS) i mE (by omega) (by decide) (fun b1 o1 y1 eA hy1 => ?_)
        subst eA
        obtain rfl : r = y1 := by rw [hr] at hy1; exact Option.some.inj hy1
        refine gk_der [allF RS rwF] rder sS ?_
        obtain ⟨⟨zA, zn, zc⟩, E⟩ := r
        have hzn : zn = E.length := rok.n
        have hzc : zn ≤ zc := rok.c
        have hzm : zc ≤ maxLen := rok.mx
        change GK _ _ _ _ (sl zA 4 EE E :: row b1 (o1 + i * 1) [.slice zA zn zc] :: _)
        have hzm' : zn ≤ 9223372036854775807 := Nat.le_trans hzc hzm
        (repeat' (first | (refine gG ?_; try intro _) | (refine g_mv rfl ?_; first | refine mv_call_bel (fun w hk => fine17_any zA zn zc E w hzn hzm' rbd (hk.rR (φ := sl zA 4 EE E) mE)) rfl rfl rfl rfl rfl (by kernel_rfl) ?_) | ((first | refine g_split rfl rfl tE (fun _ => ?_) (fun _ => ?_) | refine gk_cond rfl rfl tE (fun _ => ?_) (fun _ => ?_)) <;> (try first | (exfalso; omega; done) | (rename_i hx; exact absurd rfl hx) | (rename_i hx; cases hx; done)))))
        · refine gk_ret hT rfl rfl (.tmp rfl .nil) (fun w' hk => ?_)
          exact ⟨rfl, hk.toBelow⟩
        · rename_i hf
          have hf' : E.length ≤ 30 ∧ Srt E := ⟨hf.1, hf.2 hf.1⟩
          refine gk_loop_sel (fun (q : Value × Nat) => match q with | (v, k) => (k ≤ zn)) (fun (q : Value × Nat) => match q with | (v, k) => [(0, .slice (some ⟨b1, o1, none⟩) rn rc), (2, .bool false), (3, v), (4, .slice none 0 0), (5, .int .i64 i), (6, .int .i64 k)]) (fun (q : Value × Nat) => match q with | (v, k) => [own 0 31 4 v EE (insRow (insAll ((RS.take i).map RwD.E)) (E.take k))]) (fun (q : Value × Nat) => match q with | (v, k) => [sl zA 4 EE E, row b1 (o1 + i * 1) [.slice zA zn zc], sl (some ⟨b1, o1, none⟩) 1 RE RS, allF RS rwF]) (fun (q : Value × Nat) => match q with | (v, k) => zn - k) (v, 0) rfl (Nat.zero_le _) (by repeat (first | exact trivial | refine ⟨rfl, ?_⟩)) sA sS ?_
          rintro ⟨v, k⟩ hI
          replace hI : (k ≤ zn) := hI
          change GK _ _ [(0, .slice (some ⟨b1, o1, none⟩) rn rc), (2, .bool false), (3, v), (4, .slice none 0 0), (5, .int .i64 i), (6, .int .i64 k)] [own 0 31 4 v EE (insRow (insAll ((RS.take i).map RwD.E)) (E.take k))] [sl zA 4 EE E, row b1 (o1 + i * 1) [.slice zA zn zc], sl (some ⟨b1, o1, none⟩) 1 RE RS, allF RS rwF]
          by_cases hkl : k < zn
          · obtain ⟨e, he⟩ : ∃ e, E[k]? = some e := ⟨E[k], List.getElem?_eq_getElem (by omega)⟩
            have hebd := rbd e (List.mem_of_getElem? he)
            have hwk : ins (insRow (insAll ((RS.take i).map RwD.E)) (E.take k)) e = insRow (insAll ((RS.take i).map RwD.E)) (E.take (k + 1)) := by
              obtain ⟨h1, h2⟩ := List.getElem?_eq_some_iff.1 he
              rw [List.take_succ_eq_append_getElem h1, h2, insRow_snoc]
            have hws : Srt (insRow (insAll ((RS.take i).map RwD.E)) (E.take k)) := insRow_srt _ (foldRow_srt _ List.Pairwise.nil)
            have hwle : ((insRow (insAll ((RS.take i).map RwD.E)) (E.take k))).length ≤ 1000 := by
              rw [insRow_len]
              have := List.length_take_le' k E
              omega
            have hwbd : ∀ y ∈ (insRow (insAll ((RS.take i).map RwD.E)) (E.take k)), y.k.Bd := fun y hy => by
              rcases insRow_mem hy with h | h
              · exact rbd y (List.mem_of_mem_take h)
              · rcases foldRow_mem h with ⟨r9, h1, h2⟩ | h
                · obtain ⟨r8, h3, rfl⟩ := List.mem_map.1 h1
                  exact (harg r8 (List.mem_of_mem_take h3)).bd y h2
                · cases h
            generalize (insRow (insAll ((RS.take i).map RwD.E)) (E.take k)) = W at hwk hws hwle hwbd ⊢
            refine gk_elem (enc := EE) (L := E) k mE (by omega) (by decide) (fun b2 o2 y2 eA2 hy2 => ?_)
            subst eA2
            obtain rfl : e = y2 := by rw [he] at hy2; exact Option.some.inj hy2
            refine gk_freeze v (fun A => (by first | ((repeat (first | with_reducible exact Upd.here _ | with_reducible apply Upd.there)); done) | ((repeat (first | exact Upd.here _ | apply Upd.there)); done) | fail)) (fun A c hv hc1 hc2 hc3 => ?_)
            subst hv
            refine gk_share (φ := sl A 4 EE W) (by repeat (first | with_reducible exact Sel.here | with_reducible apply Sel.there)) ?_
            (repeat' (first | (refine gG ?_; try intro _) | ((first | refine g_split rfl rfl tE (fun _ => ?_) (fun _ => ?_) | refine gk_cond rfl rfl tE (fun _ => ?_) (fun _ => ?_)) <;> (try first | (exfalso; omega; done) | (rename_i hx; exact absurd rfl hx) | (rename_i hx; cases hx; done)))))
            rename_i g7
            refine gk_loop_sel (fun (p : Nat) => (p ≤ W.length ∧ ∀ m y, p ≤ m → W[m]? = some y → klt e.k y.k)) (fun (p : Nat) => [(0, .slice (some ⟨b1, o1, none⟩) rn rc), (2, .bool false), (3, .slice A W.length c), (4, .slice none 0 0), (5, .int .i64 i), (6, .int .i64 k), (7, .pointer (some ⟨g7, 0, none⟩)), (8, .int .i64 p)]) (fun (p : Nat) => [blk g7 [.int .u16 e.k.v, .int .u32 e.k.b, .int .u64 e.k.s, .int .u32 e.a] 31]) (fun (p : Nat) => [sl A 4 EE W, sl (some ⟨b2, o2, none⟩) 4 EE E, row b1 (o1 + i * 1) [.slice (some ⟨b2, o2, none⟩) zn zc], sl (some ⟨b1, o1, none⟩) 1 RE RS, allF RS rwF]) (fun (p : Nat) => p) W.length rfl ⟨Nat.le_refl _, fun m y hm hy => absurd (List.getElem?_eq_some_iff.1 hy).1 (by omega)⟩ (by repeat (first | exact trivial | refine ⟨rfl, ?_⟩)) sA sS ?_
            rintro p hI
            replace hI : (p ≤ W.length ∧ ∀ m y, p ≤ m → W[m]? = some y → klt e.k y.k) := hI
            change GK _ _ [(0, .slice (some ⟨b1, o1, none⟩) rn rc), (2, .bool false), (3, .slice A W.length c), (4, .slice none 0 0), (5, .int .i64 i), (6, .int .i64 k), (7, .pointer (some ⟨g7, 0, none⟩)), (8, .int .i64 p)] [blk g7 [.int .u16 e.k.v, .int .u32 e.k.b, .int .u64 e.k.s, .int .u32 e.a] 31] [sl A 4 EE W, sl (some ⟨b2, o2, none⟩) 4 EE E, row b1 (o1 + i * 1) [.slice (some ⟨b2, o2, none⟩) zn zc], sl (some ⟨b1, o1, none⟩) 1 RE RS, allF RS rwF]
            obtain ⟨hpl, hgt⟩ := hI
            cases p with
            | zero =>
              as_aux_lemma =>
                obtain ⟨p, hp0⟩ : ∃ p : Nat, p = 0 := ⟨_, rfl⟩
                rw [← hp0] at hpl hgt
                have hle : ∀ y, 0 < p → W[p - 1]? = some y → ¬ klt e.k y.k := fun y hp => absurd hp (by omega)
                refine gk_any [] (Cut _ (fun _ : Unit => [(0, .slice (some ⟨b1, o1, none⟩) rn rc), (2, .bool false), (3, .slice A W.length c), (4, .slice none 0 0), (5, .int .i64 i), (6, .int .i64 k), (7, .pointer (some ⟨g7, 0, none⟩)), (8, .int .i64 ((p : Nat) : Int)), (56, .bool false)]) (fun _ => [blk g7 [.int .u16 e.k.v, .int .u32 e.k.b, .int .u64 e.k.s, .int .u32 e.a] 31]) (fun _ => [sl A 4 EE W, sl (some ⟨b2, o2, none⟩) 4 EE E, row b1 (o1 + i * 1) [.slice (some ⟨b2, o2, none⟩) zn zc], sl (some ⟨b1, o1, none⟩) 1 RE RS, allF RS rwF])) rfl rfl (by kernel_rfl) ?_ (cut_k fun _ => ?_)
                · rw [hp0]
                  refine gb_take 0 rfl (by decide +kernel) rfl rfl (ys_ev (nw := true) hT rfl sI) sF ?_
                  refine gb_take 1 rfl (by decide +kernel) rfl rfl (ys_ev (nw := true) hT rfl sI) sF ?_
                  try (refine gb_say 44 (.bool false) rfl (congrArg Value.bool (tB_false (by omega))) ?_)
                  refine gb_take 2 rfl (by decide +kernel) rfl rfl (ys_ev (nw := true) hT rfl sI) sF ?_
                  first | refine gb_take 3 rfl (by decide +kernel) rfl rfl (ys_ev (nw := true) hT rfl sI) sF ?_ | refine gb_skip 3 rfl (by decide +kernel) rfl rfl sF ?_
                  first | refine gb_take 4 rfl (by decide +kernel) rfl rfl (ys_ev (nw := true) hT rfl sI) sF ?_ | refine gb_skip 4 rfl (by decide +kernel) rfl rfl sF ?_
                  first | refine gb_take 5 rfl (by decide +kernel) rfl rfl (ys_ev (nw := true) hT rfl sI) sF ?_ | refine gb_skip 5 rfl (by decide +kernel) rfl rfl sF ?_
                  first | refine gb_take 6 rfl (by decide +kernel) rfl rfl (ys_ev (nw := true) hT rfl sI) sF ?_ | refine gb_skip 6 rfl (by decide +kernel) rfl rfl sF ?_
                  first | refine gb_take 7 rfl (by decide +kernel) rfl rfl (ys_ev (nw := true) hT rfl sI) sF ?_ | refine gb_skip 7 rfl (by decide +kernel) rfl rfl sF ?_
                  first | refine gb_take 8 rfl (by decide +kernel) rfl rfl (by first | exact ys_blk hT rfl rfl mE rfl rfl | exact ys_row hT rfl rfl mE rfl rfl | exact ys_row0 hT rfl rfl mE rfl rfl) sF ?_ | refine gb_skip 8 rfl (by decide +kernel) rfl rfl sF ?_
                  first | refine gb_take 9 rfl (by decide +kernel) rfl rfl (ys_ev (nw := true) hT rfl sI) sF ?_ | refine gb_skip 9 rfl (by decide +kernel) rfl rfl sF ?_
                  first | refine gb_take 10 rfl (by decide +kernel) rfl rfl (by first | exact ys_blk hT rfl rfl mE rfl rfl | exact ys_row hT rfl rfl mE rfl rfl | exact ys_row0 hT rfl rfl mE rfl rfl) sF ?_ | refine gb_skip 10 rfl (by decide +kernel) rfl rfl sF ?_
                  first | refine gb_skip 11 rfl (by decide +kernel) rfl rfl sF ?_ | (refine gb_only 11 (by decide +kernel) rfl rfl ?_; (first | (refine mv_box rfl rfl rfl rfl ?_; intro _) | (refine mv_alloc rfl hT rfl rfl ?_; intro _) | refine mv_store hT rfl rfl rfl rfl rfl rfl sO rfl ?_ | (refine mv_buildSlice rfl hT rfl rfl rfl rfl rfl rfl rfl rfl ?_; intro _)); refine ⟨sF, ?_⟩)
                  first | refine gb_take 12 rfl (by decide +kernel) rfl rfl (ys_ev (nw := true) hT rfl sI) sF ?_ | refine gb_skip 12 rfl (by decide +kernel) rfl rfl sF ?_
                  refine gb_take 13 rfl (by decide +kernel) rfl rfl (ys_ev (nw := true) hT rfl sI) sF ?_
                  refine gb_nil (by decide +kernel) ?_
                  exact ⟨(), (by repeat (first | exact trivial | refine ⟨rfl, ?_⟩)), sA, sS⟩
                · (repeat (refine gG ?_; try intro _))
                  have hpe : ins W e = W.take p ++ [e] ++ W.drop p := by rw [ins_at hws p hpl hgt hle, List.append_assoc]; rfl
                  have d1 : Der [sl A 4 EE W] (sl (shA A 0 c 4) 4 EE (W.take p)) := ⟨fun w hw => by
                    have := sl_sub (hw _ (.head _)) 0 c p (by omega)
                    show Sl w _ 4 EE (W.take p)
                    simpa using this, fun b hb => ⟨_, .head _, sl_sub_S (l := 0) (m := c) (k := p) (by simpa using hb)⟩⟩
                  have d2 : Der [sl A 4 EE W] (sl (shA A p c 4) 4 EE (W.drop p)) := ⟨fun w hw => by
                    have := sl_sub (hw _ (.head _)) p c (W.length - p) (by omega)
                    show Sl w _ 4 EE (W.drop p)
                    rwa [List.take_of_length_le (by simp)] at this, fun b hb => ⟨_, .head _, sl_sub_S (l := p) (m := c) (k := W.length - p) (by rwa [List.take_of_length_le (by simp)])⟩⟩
                  refine gk_der [sl A 4 EE W] d1 sS ?_
                  refine gk_der [sl A 4 EE W] d2 sS ?_
                  have htk : (W.take p).length = p := by rw [List.length_take]; omega
                  have hdk : (W.drop p).length = W.length - p := by rw [List.length_drop]
                  refine gk_any [0] (Cut _ (fun v1 : Value => [(0, .slice (some ⟨b1, o1, none⟩) rn rc), (2, .bool false), (3, v1), (4, .slice none 0 0), (5, .int .i64 i), (6, .int .i64 k)]) (fun v1 => [own 0 31 4 v1 EE (W.take p ++ [e] ++ W.drop p)]) (fun _ => [sl (some ⟨b2, o2, none⟩) 4 EE E, row b1 (o1 + i * 1) [.slice (some ⟨b2, o2, none⟩) zn zc], sl (some ⟨b1, o1, none⟩) 1 RE RS, allF RS rwF])) rfl rfl (by kernel_rfl) ?_ (cut_k fun v1 => ?_)
                  · skip
                    refine gb_take 1 rfl (by decide +kernel) rfl rfl (ys_ev (nw := true) hT rfl sI) sF ?_
                    refine gb_take 2 rfl (by decide +kernel) rfl rfl (ys_ev (nw := true) hT rfl sI) sF ?_
                    refine gb_take 3 rfl (by decide +kernel) rfl rfl (ys_slice_h hT p rfl rfl rfl rfl rfl (by omega)) sF ?_
                    refine gb_take 5 rfl (by decide +kernel) rfl rfl (by first | exact ys_blk hT rfl rfl mE rfl rfl | exact ys_row hT rfl rfl mE rfl rfl | exact ys_row0 hT rfl rfl mE rfl rfl) sF ?_
                    refine gb_take 8 rfl (by decide +kernel) rfl rfl (ys_ev (nw := true) hT rfl sI) sF ?_
                    refine gb_take 9 rfl (by decide +kernel) rfl rfl (ys_ev (nw := true) hT rfl sI) sF ?_
                    refine gb_take 10 rfl (by decide +kernel) rfl rfl (ys_slice_l hT p rfl rfl rfl rfl rfl hpl) sF ?_
                    refine gb_all (by decide +kernel) ?_
                    refine gball_yes rfl rfl ?_ ?_
                    · refine mv_empty 4 EE rfl hT rfl rfl rfl rfl rfl (fun g9 => ?_)
                      refine ⟨sF, ?_⟩
                      refine gb_all (by decide +kernel) ?_
                      refine gball_not (by decide +kernel) ?_
                      refine gball_not (by decide +kernel) ?_
                      refine gball_not (by decide +kernel) ?_
                      refine gball_not (by decide +kernel) ?_
                      refine gball_yes rfl rfl ?_ ?_
                      · refine mv_append (L := ([] : List EntD)) rfl (W.take p) rfl rfl rfl rfl elt_E (by intro _; first | ((repeat (first | with_reducible exact Upd.here _ | with_reducible apply Upd.there)); done) | ((repeat (first | exact Upd.here _ | apply Upd.there)); done) | fail) (src_R mE) htk.symm oneE (by simp only [maxLen, List.length_nil]; omega) (by simp only [List.length_nil]; omega) (Nat.zero_le _) (fun va => ?_)
                        refine ⟨sF, ?_⟩
                        refine gb_only 6 (by decide +kernel) rfl rfl ?_
                        first | (refine mv_box rfl rfl rfl rfl ?_; intro _) | (refine mv_alloc rfl hT rfl rfl ?_; intro _) | refine mv_store hT rfl rfl rfl rfl rfl rfl sO rfl ?_ | (refine mv_buildSlice rfl hT rfl rfl rfl rfl rfl rfl rfl rfl ?_; intro _)
                        refine ⟨sF, ?_⟩
                        refine gb_only 7 (by decide +kernel) rfl rfl ?_
                        refine mv_append (L := [] ++ W.take p) rfl [e] rfl rfl rfl rfl elt_E (by intro _; first | ((repeat (first | with_reducible exact Upd.here _ | with_reducible apply Upd.there)); done) | ((repeat (first | exact Upd.here _ | apply Upd.there)); done) | fail) (src_blk mE rfl) rfl oneE (by simp only [maxLen, List.length_nil, List.length_cons, List.length_append]; omega) (by simp only [List.length_nil, List.length_cons, List.length_append]; omega) (Nat.zero_le _) (fun vb => ?_)
                        refine ⟨sF, ?_⟩
                        refine gb_only 11 (by decide +kernel) rfl rfl ?_
                        refine mv_append (L := [] ++ W.take p ++ [e]) rfl (W.drop p) rfl rfl rfl rfl elt_E (by intro _; first | ((repeat (first | with_reducible exact Upd.here _ | with_reducible apply Upd.there)); done) | ((repeat (first | exact Upd.here _ | apply Upd.there)); done) | fail) (src_R mE) hdk.symm oneE (by simp only [maxLen, List.length_nil, List.length_cons, List.length_append]; omega) (by simp only [List.length_nil, List.length_cons, List.length_append]; omega) (Nat.zero_le _) (fun vc => ?_)
                        refine ⟨sF, ?_⟩
                        refine gb_take 12 rfl (by decide +kernel) rfl rfl (ys_ev (nw := true) hT rfl sI) sF ?_
                        refine gb_nil (by decide +kernel) ?_
                        exact ⟨vc, (by repeat (first | exact trivial | refine ⟨rfl, ?_⟩)), sA, sS⟩
                      refine gball_not (by decide +kernel) ?_
                      refine gball_yes rfl rfl ?_ ?_
                      · first | (refine mv_box rfl rfl rfl rfl ?_; intro _) | (refine mv_alloc rfl hT rfl rfl ?_; intro _) | refine mv_store hT rfl rfl rfl rfl rfl rfl sO rfl ?_ | (refine mv_buildSlice rfl hT rfl rfl rfl rfl rfl rfl rfl rfl ?_; intro _)
                        refine ⟨sF, ?_⟩
                        refine gb_only 4 (by decide +kernel) rfl rfl ?_
                        refine mv_append (L := ([] : List EntD)) rfl (W.take p) rfl rfl rfl rfl elt_E (by intro _; first | ((repeat (first | with_reducible exact Upd.here _ | with_reducible apply Upd.there)); done) | ((repeat (first | exact Upd.here _ | apply Upd.there)); done) | fail) (src_R mE) htk.symm oneE (by simp only [maxLen, List.length_nil]; omega) (by simp only [List.length_nil]; omega) (Nat.zero_le _) (fun va => ?_)
                        refine ⟨sF, ?_⟩
                        refine gb_only 7 (by decide +kernel) rfl rfl ?_
                        refine mv_append (L := [] ++ W.take p) rfl [e] rfl rfl rfl rfl elt_E (by intro _; first | ((repeat (first | with_reducible exact Upd.here _ | with_reducible apply Upd.there)); done) | ((repeat (first | exact Upd.here _ | apply Upd.there)); done) | fail) (src_blk mE rfl) rfl oneE (by simp only [maxLen, List.length_nil, List.length_cons, List.length_append]; omega) (by simp only [List.length_nil, List.length_cons, List.length_append]; omega) (Nat.zero_le _) (fun vb => ?_)
                        refine ⟨sF, ?_⟩
                        refine gb_only 11 (by decide +kernel) rfl rfl ?_
                        refine mv_append (L := [] ++ W.take p ++ [e]) rfl (W.drop p) rfl rfl rfl rfl elt_E (by intro _; first | ((repeat (first | with_reducible exact Upd.here _ | with_reducible apply Upd.there)); done) | ((repeat (first | exact Upd.here _ | apply Upd.there)); done) | fail) (src_R mE) hdk.symm oneE (by simp only [maxLen, List.length_nil, List.length_cons, List.length_append]; omega) (by simp only [List.length_nil, List.length_cons, List.length_append]; omega) (Nat.zero_le _) (fun vc => ?_)
                        refine ⟨sF, ?_⟩
                        refine gb_take 12 rfl (by decide +kernel) rfl rfl (ys_ev (nw := true) hT rfl sI) sF ?_
                        refine gb_nil (by decide +kernel) ?_
                        exact ⟨vc, (by repeat (first | exact trivial | refine ⟨rfl, ?_⟩)), sA, sS⟩
                      refine gball_not (by decide +kernel) ?_
                      refine gball_not (by decide +kernel) ?_
                      refine gball_not (by decide +kernel) ?_
                      refine gball_not (by decide +kernel) ?_
                      refine gball_not (by decide +kernel) ?_
                      refine gball_not (by decide +kernel) ?_
                      exact gball_end (by decide +kernel)
                    refine gball_not (by decide +kernel) ?_
                    refine gball_not (by decide +kernel) ?_
                    refine gball_not (by decide +kernel) ?_
                    refine gball_not (by decide +kernel) ?_
                    refine gball_not (by decide +kernel) ?_
                    refine gball_yes rfl rfl ?_ ?_
                    · first | (refine mv_box rfl rfl rfl rfl ?_; intro _) | (refine mv_alloc rfl hT rfl rfl ?_; intro _) | refine mv_store hT rfl rfl rfl rfl rfl rfl sO rfl ?_ | (refine mv_buildSlice rfl hT rfl rfl rfl rfl rfl rfl rfl rfl ?_; intro _)
                      refine ⟨sF, ?_⟩
                      refine gb_only 0 (by decide +kernel) rfl rfl ?_
                      refine mv_empty 4 EE rfl hT rfl rfl rfl rfl rfl (fun g9 => ?_)
                      refine ⟨sF, ?_⟩
                      refine gb_only 4 (by decide +kernel) rfl rfl ?_
                      refine mv_append (L := ([] : List EntD)) rfl (W.take p) rfl rfl rfl rfl elt_E (by intro _; first | ((repeat (first | with_reducible exact Upd.here _ | with_reducible apply Upd.there)); done) | ((repeat (first | exact Upd.here _ | apply Upd.there)); done) | fail) (src_R mE) htk.symm oneE (by simp only [maxLen, List.length_nil]; omega) (by simp only [List.length_nil]; omega) (Nat.zero_le _) (fun va => ?_)
                      refine ⟨sF, ?_⟩
                      refine gb_only 7 (by decide +kernel) rfl rfl ?_
                      refine mv_append (L := [] ++ W.take p) rfl [e] rfl rfl rfl rfl elt_E (by intro _; first | ((repeat (first | with_reducible exact Upd.here _ | with_reducible apply Upd.there)); done) | ((repeat (first | exact Upd.here _ | apply Upd.there)); done) | fail) (src_blk mE rfl) rfl oneE (by simp only [maxLen, List.length_nil, List.length_cons, List.length_append]; omega) (by simp only [List.length_nil, List.length_cons, List.length_append]; omega) (Nat.zero_le _) (fun vb => ?_)
                      refine ⟨sF, ?_⟩
                      refine gb_only 11 (by decide +kernel) rfl rfl ?_
                      refine mv_append (L := [] ++ W.take p ++ [e]) rfl (W.drop p) rfl rfl rfl rfl elt_E (by intro _; first | ((repeat (first | with_reducible exact Upd.here _ | with_reducible apply Upd.there)); done) | ((repeat (first | exact Upd.here _ | apply Upd.there)); done) | fail) (src_R mE) hdk.symm oneE (by simp only [maxLen, List.length_nil, List.length_cons, List.length_append]; omega) (by simp only [List.length_nil, List.length_cons, List.length_append]; omega) (Nat.zero_le _) (fun vc => ?_)
                      refine ⟨sF, ?_⟩
                      refine gb_take 12 rfl (by decide +kernel) rfl rfl (ys_ev (nw := true) hT rfl sI) sF ?_
                      refine gb_nil (by decide +kernel) ?_
                      exact ⟨vc, (by repeat (first | exact trivial | refine ⟨rfl, ?_⟩)), sA, sS⟩
                    refine gball_not (by decide +kernel) ?_
                    refine gball_not (by decide +kernel) ?_
                    refine gball_not (by decide +kernel) ?_
                    refine gball_not (by decide +kernel) ?_
                    refine gball_not (by decide +kernel) ?_
                    refine gball_not (by decide +kernel) ?_
                    exact gball_end (by decide +kernel)
                  · rw [← hpe, hwk]
                    (repeat (refine gG ?_; try intro _))
                    refine gk_again_sel rfl (v1, k + 1) (by show k + 1 ≤ zn; omega) (by dsimp only; omega) (by repeat (first | exact trivial | refine ⟨rfl, ?_⟩)) sA sS
            | succ q =>
              obtain ⟨y, hy⟩ : ∃ y, W[q]? = some y := ⟨W[q], List.getElem?_eq_getElem (by omega)⟩
              have hybd : y.k.Bd := hwbd y (List.mem_of_getElem? hy)
              refine gk_elem (enc := EE) (L := W) q mE (by omega) (by decide) (fun b3 o3 y3 eA3 hy3 => ?_)
              subst eA3
              obtain rfl : y = y3 := by rw [hy] at hy3; exact Option.some.inj hy3
              by_cases hye : klt e.k y.k
              · as_aux_lemma =>
                  refine gk_any [0, 1] (Cut _ (fun _ : Unit => [(0, .slice (some ⟨b1, o1, none⟩) rn rc), (2, .bool false), (3, .slice (some ⟨b3, o3, none⟩) W.length c), (4, .slice none 0 0), (5, .int .i64 i), (6, .int .i64 k), (7, .pointer (some ⟨g7, 0, none⟩)), (8, .int .i64 ((q + 1 : Nat) : Int)), (56, .bool true)]) (fun _ => [blk g7 [.int .u16 e.k.v, .int .u32 e.k.b, .int .u64 e.k.s, .int .u32 e.a] 31]) (fun _ => [sl (some ⟨b3, o3, none⟩) 4 EE W, sl (some ⟨b2, o2, none⟩) 4 EE E, row b1 (o1 + i * 1) [.slice (some ⟨b2, o2, none⟩) zn zc], sl (some ⟨b1, o1, none⟩) 1 RE RS, allF RS rwF])) rfl rfl (by kernel_rfl) ?_ (cut_k fun _ => ?_)
                  · skip
                    refine gb_take 0 rfl (by decide +kernel) rfl rfl (ys_ev (nw := true) hT rfl sI) sF ?_
                    refine gb_take 1 rfl (by decide +kernel) rfl rfl (ys_ev (nw := true) hT rfl sI) sF ?_
                    try (refine gb_say 44 (.bool true) rfl (congrArg Value.bool (tB_true (by omega))) ?_)
                    refine gb_take 2 rfl (by decide +kernel) rfl rfl (ys_ev (nw := true) hT rfl sI) sF ?_
                    first | refine gb_take 3 rfl (by decide +kernel) rfl rfl (ys_ev (nw := true) hT rfl sI) sF ?_ | refine gb_skip 3 rfl (by decide +kernel) rfl rfl sF ?_
                    first | refine gb_take 4 rfl (by decide +kernel) rfl rfl (ys_ev (nw := true) hT rfl sI) sF ?_ | refine gb_skip 4 rfl (by decide +kernel) rfl rfl sF ?_
                    first | refine gb_take 5 rfl (by decide +kernel) rfl rfl (ys_ev (nw := true) hT rfl sI) sF ?_ | refine gb_skip 5 rfl (by decide +kernel) rfl rfl sF ?_
                    try (refine gb_say 48 (.int .i64 (q : Int)) rfl (by first | (congr 1; done) | (congr 1; omega)) ?_)
                    first | refine gb_take 6 rfl (by decide +kernel) rfl rfl (ys_ev (nw := true) hT rfl sI) sF ?_ | refine gb_skip 6 rfl (by decide +kernel) rfl rfl sF ?_
                    first | refine gb_take 7 rfl (by decide +kernel) rfl rfl (ys_ev (nw := true) hT rfl sI) sF ?_ | refine gb_skip 7 rfl (by decide +kernel) rfl rfl sF ?_
                    first | refine gb_take 8 rfl (by decide +kernel) rfl rfl (by first | exact ys_blk hT rfl rfl mE rfl rfl | exact ys_row hT rfl rfl mE rfl rfl | exact ys_row0 hT rfl rfl mE rfl rfl) sF ?_ | refine gb_skip 8 rfl (by decide +kernel) rfl rfl sF ?_
                    first | refine gb_take 9 rfl (by decide +kernel) rfl rfl (ys_ev (nw := true) hT rfl sI) sF ?_ | refine gb_skip 9 rfl (by decide +kernel) rfl rfl sF ?_
                    first | refine gb_take 10 rfl (by decide +kernel) rfl rfl (by first | exact ys_blk hT rfl rfl mE rfl rfl | exact ys_row hT rfl rfl mE rfl rfl | exact ys_row0 hT rfl rfl mE rfl rfl) sF ?_ | refine gb_skip 10 rfl (by decide +kernel) rfl rfl sF ?_
                    first | refine gb_skip 11 rfl (by decide +kernel) rfl rfl sF ?_ | (refine gb_only 11 (by decide +kernel) rfl rfl ?_; (refine mv_call_bel (fun w hk => cmp04_any y.k e.k w hybd hebd) rfl rfl rfl rfl rfl (by kernel_rfl) ?_); refine ⟨sF, ?_⟩)
                    first | refine gb_take 12 rfl (by decide +kernel) rfl rfl (ys_ev (nw := true) hT rfl sI) sF ?_ | refine gb_skip 12 rfl (by decide +kernel) rfl rfl sF ?_
                    try (refine gb_say 55 (.bool true) rfl (congrArg Value.bool (tB_true (by rw [kcmp_gt hye]; decide))) ?_)
                    refine gb_take 13 rfl (by decide +kernel) rfl rfl (ys_ev (nw := true) hT rfl sI) sF ?_
                    refine gb_nil (by decide +kernel) ?_
                    exact ⟨(), (by repeat (first | exact trivial | refine ⟨rfl, ?_⟩)), sA, sS⟩
                  · (repeat (refine gG ?_; try intro _))
                    refine gk_say 8 (.int .i64 (q : Int)) rfl (by first | (congr 1; done) | (congr 1; omega)) ?_
                    refine gk_again_sel rfl q ⟨by omega, fun m z hm hz => by
                      by_cases hmq : m = q
                      · subst hmq
                        rw [hy] at hz
                        obtain rfl := Option.some.inj hz
                        exact hye
                      · exact hgt m z (by omega) hz⟩ (by omega) (by repeat (first | exact trivial | refine ⟨rfl, ?_⟩)) sA sS
              · as_aux_lemma =>
                  refine gk_any [0, 1] (Cut _ (fun _ : Unit => [(0, .slice (some ⟨b1, o1, none⟩) rn rc), (2, .bool false), (3, .slice (some ⟨b3, o3, none⟩) W.length c), (4, .slice none 0 0), (5, .int .i64 i), (6, .int .i64 k), (7, .pointer (some ⟨g7, 0, none⟩)), (8, .int .i64 ((q + 1 : Nat) : Int)), (56, .bool false)]) (fun _ => [blk g7 [.int .u16 e.k.v, .int .u32 e.k.b, .int .u64 e.k.s, .int .u32 e.a] 31]) (fun _ => [sl (some ⟨b3, o3, none⟩) 4 EE W, sl (some ⟨b2, o2, none⟩) 4 EE E, row b1 (o1 + i * 1) [.slice (some ⟨b2, o2, none⟩) zn zc], sl (some ⟨b1, o1, none⟩) 1 RE RS, allF RS rwF])) rfl rfl (by kernel_rfl) ?_ (cut_k fun _ => ?_)
                  · skip
                    refine gb_take 0 rfl (by decide +kernel) rfl rfl (ys_ev (nw := true) hT rfl sI) sF ?_
                    refine gb_take 1 rfl (by decide +kernel) rfl rfl (ys_ev (nw := true) hT rfl sI) sF ?_
                    try (refine gb_say 44 (.bool true) rfl (congrArg Value.bool (tB_true (by omega))) ?_)
                    refine gb_take 2 rfl (by decide +kernel) rfl rfl (ys_ev (nw := true) hT rfl sI) sF ?_
                    first | refine gb_take 3 rfl (by decide +kernel) rfl rfl (ys_ev (nw := true) hT rfl sI) sF ?_ | refine gb_skip 3 rfl (by decide +kernel) rfl rfl sF ?_
                    first | refine gb_take 4 rfl (by decide +kernel) rfl rfl (ys_ev (nw := true) hT rfl sI) sF ?_ | refine gb_skip 4 rfl (by decide +kernel) rfl rfl sF ?_
                    first | refine gb_take 5 rfl (by decide +kernel) rfl rfl (ys_ev (nw := true) hT rfl sI) sF ?_ | refine gb_skip 5 rfl (by decide +kernel) rfl rfl sF ?_
                    try (refine gb_say 48 (.int .i64 (q : Int)) rfl (by first | (congr 1; done) | (congr 1; omega)) ?_)
                    first | refine gb_take 6 rfl (by decide +kernel) rfl rfl (ys_ev (nw := true) hT rfl sI) sF ?_ | refine gb_skip 6 rfl (by decide +kernel) rfl rfl sF ?_
                    first | refine gb_take 7 rfl (by decide +kernel) rfl rfl (ys_ev (nw := true) hT rfl sI) sF ?_ | refine gb_skip 7 rfl (by decide +kernel) rfl rfl sF ?_
                    first | refine gb_take 8 rfl (by decide +kernel) rfl rfl (by first | exact ys_blk hT rfl rfl mE rfl rfl | exact ys_row hT rfl rfl mE rfl rfl | exact ys_row0 hT rfl rfl mE rfl rfl) sF ?_ | refine gb_skip 8 rfl (by decide +kernel) rfl rfl sF ?_
                    first | refine gb_take 9 rfl (by decide +kernel) rfl rfl (ys_ev (nw := true) hT rfl sI) sF ?_ | refine gb_skip 9 rfl (by decide +kernel) rfl rfl sF ?_
                    first | refine gb_take 10 rfl (by decide +kernel) rfl rfl (by first | exact ys_blk hT rfl rfl mE rfl rfl | exact ys_row hT rfl rfl mE rfl rfl | exact ys_row0 hT rfl rfl mE rfl rfl) sF ?_ | refine gb_skip 10 rfl (by decide +kernel) rfl rfl sF ?_
                    first | refine gb_skip 11 rfl (by decide +kernel) rfl rfl sF ?_ | (refine gb_only 11 (by decide +kernel) rfl rfl ?_; (refine mv_call_bel (fun w hk => cmp04_any y.k e.k w hybd hebd) rfl rfl rfl rfl rfl (by kernel_rfl) ?_); refine ⟨sF, ?_⟩)
                    first | refine gb_take 12 rfl (by decide +kernel) rfl rfl (ys_ev (nw := true) hT rfl sI) sF ?_ | refine gb_skip 12 rfl (by decide +kernel) rfl rfl sF ?_
                    try (refine gb_say 55 (.bool false) rfl (congrArg Value.bool (tB_false (by have := kcmp_le.2 hye; omega))) ?_)
                    refine gb_take 13 rfl (by decide +kernel) rfl rfl (ys_ev (nw := true) hT rfl sI) sF ?_
                    refine gb_nil (by decide +kernel) ?_
                    exact ⟨(), (by repeat (first | exact trivial | refine ⟨rfl, ?_⟩)), sA, sS⟩
                  · obtain ⟨p, hp0⟩ : ∃ p : Nat, p = q + 1 := ⟨_, rfl⟩
                    rw [← hp0] at hpl hgt ⊢
                    have hle : ∀ y, 0 < p → W[p - 1]? = some y → ¬ klt e.k y.k := fun z _ hz => by
                      rw [hp0, Nat.add_sub_cancel, hy] at hz
                      obtain rfl := Option.some.inj hz
                      exact hye
                    obtain ⟨A, hA⟩ : ∃ A : Option Addr, A = some ⟨b3, o3, none⟩ := ⟨_, rfl⟩
                    rw [← hA] at hc3 ⊢
                    (repeat (refine gG ?_; try intro _))
                    have hpe : ins W e = W.take p ++ [e] ++ W.drop p := by rw [ins_at hws p hpl hgt hle, List.append_assoc]; rfl
                    have d1 : Der [sl A 4 EE W] (sl (shA A 0 c 4) 4 EE (W.take p)) := ⟨fun w hw => by
                      have := sl_sub (hw _ (.head _)) 0 c p (by omega)
                      show Sl w _ 4 EE (W.take p)
                      simpa using this, fun b hb => ⟨_, .head _, sl_sub_S (l := 0) (m := c) (k := p) (by simpa using hb)⟩⟩
                    have d2 : Der [sl A 4 EE W] (sl (shA A p c 4) 4 EE (W.drop p)) := ⟨fun w hw => by
                      have := sl_sub (hw _ (.head _)) p c (W.length - p) (by omega)
                      show Sl w _ 4 EE (W.drop p)
                      rwa [List.take_of_length_le (by simp)] at this, fun b hb => ⟨_, .head _, sl_sub_S (l := p) (m := c) (k := W.length - p) (by rwa [List.take_of_length_le (by simp)])⟩⟩
                    refine gk_der [sl A 4 EE W] d1 sS ?_
                    refine gk_der [sl A 4 EE W] d2 sS ?_
                    have htk : (W.take p).length = p := by rw [List.length_take]; omega
                    have hdk : (W.drop p).length = W.length - p := by rw [List.length_drop]
                    refine gk_any [0] (Cut _ (fun v1 : Value => [(0, .slice (some ⟨b1, o1, none⟩) rn rc), (2, .bool false), (3, v1), (4, .slice none 0 0), (5, .int .i64 i), (6, .int .i64 k)]) (fun v1 => [own 0 31 4 v1 EE (W.take p ++ [e] ++ W.drop p)]) (fun _ => [sl (some ⟨b2, o2, none⟩) 4 EE E, row b1 (o1 + i * 1) [.slice (some ⟨b2, o2, none⟩) zn zc], sl (some ⟨b1, o1, none⟩) 1 RE RS, allF RS rwF])) rfl rfl (by kernel_rfl) ?_ (cut_k fun v1 => ?_)
                    · skip
                      refine gb_take 1 rfl (by decide +kernel) rfl rfl (ys_ev (nw := true) hT rfl sI) sF ?_
                      refine gb_take 2 rfl (by decide +kernel) rfl rfl (ys_ev (nw := true) hT rfl sI) sF ?_
                      refine gb_take 3 rfl (by decide +kernel) rfl rfl (ys_slice_h hT p rfl rfl rfl rfl rfl (by omega)) sF ?_
                      refine gb_take 5 rfl (by decide +kernel) rfl rfl (by first | exact ys_blk hT rfl rfl mE rfl rfl | exact ys_row hT rfl rfl mE rfl rfl | exact ys_row0 hT rfl rfl mE rfl rfl) sF ?_
                      refine gb_take 8 rfl (by decide +kernel) rfl rfl (ys_ev (nw := true) hT rfl sI) sF ?_
                      refine gb_take 9 rfl (by decide +kernel) rfl rfl (ys_ev (nw := true) hT rfl sI) sF ?_
                      refine gb_take 10 rfl (by decide +kernel) rfl rfl (ys_slice_l hT p rfl rfl rfl rfl rfl hpl) sF ?_
                      refine gb_all (by decide +kernel) ?_
                      refine gball_yes rfl rfl ?_ ?_
                      · refine mv_empty 4 EE rfl hT rfl rfl rfl rfl rfl (fun g9 => ?_)
                        refine ⟨sF, ?_⟩
                        refine gb_all (by decide +kernel) ?_
                        refine gball_not (by decide +kernel) ?_
                        refine gball_not (by decide +kernel) ?_
                        refine gball_not (by decide +kernel) ?_
                        refine gball_not (by decide +kernel) ?_
                        refine gball_yes rfl rfl ?_ ?_
                        · refine mv_append (L := ([] : List EntD)) rfl (W.take p) rfl rfl rfl rfl elt_E (by intro _; first | ((repeat (first | with_reducible exact Upd.here _ | with_reducible apply Upd.there)); done) | ((repeat (first | exact Upd.here _ | apply Upd.there)); done) | fail) (src_R mE) htk.symm oneE (by simp only [maxLen, List.length_nil]; omega) (by simp only [List.length_nil]; omega) (Nat.zero_le _) (fun va => ?_)
                          refine ⟨sF, ?_⟩
                          refine gb_only 6 (by decide +kernel) rfl rfl ?_
                          first | (refine mv_box rfl rfl rfl rfl ?_; intro _) | (refine mv_alloc rfl hT rfl rfl ?_; intro _) | refine mv_store hT rfl rfl rfl rfl rfl rfl sO rfl ?_ | (refine mv_buildSlice rfl hT rfl rfl rfl rfl rfl rfl rfl rfl ?_; intro _)
                          refine ⟨sF, ?_⟩
                          refine gb_only 7 (by decide +kernel) rfl rfl ?_
                          refine mv_append (L := [] ++ W.take p) rfl [e] rfl rfl rfl rfl elt_E (by intro _; first | ((repeat (first | with_reducible exact Upd.here _ | with_reducible apply Upd.there)); done) | ((repeat (first | exact Upd.here _ | apply Upd.there)); done) | fail) (src_blk mE rfl) rfl oneE (by simp only [maxLen, List.length_nil, List.length_cons, List.length_append]; omega) (by simp only [List.length_nil, List.length_cons, List.length_append]; omega) (Nat.zero_le _) (fun vb => ?_)
                          refine ⟨sF, ?_⟩
                          refine gb_only 11 (by decide +kernel) rfl rfl ?_
                          refine mv_append (L := [] ++ W.take p ++ [e]) rfl (W.drop p) rfl rfl rfl rfl elt_E (by intro _; first | ((repeat (first | with_reducible exact Upd.here _ | with_reducible apply Upd.there)); done) | ((repeat (first | exact Upd.here _ | apply Upd.there)); done) | fail) (src_R mE) hdk.symm oneE (by simp only [maxLen, List.length_nil, List.length_cons, List.length_append]; omega) (by simp only [List.length_nil, List.length_cons, List.length_append]; omega) (Nat.zero_le _) (fun vc => ?_)
                          refine ⟨sF, ?_⟩
                          refine gb_take 12 rfl (by decide +kernel) rfl rfl (ys_ev (nw := true) hT rfl sI) sF ?_
                          refine gb_nil (by decide +kernel) ?_
                          exact ⟨vc, (by repeat (first | exact trivial | refine ⟨rfl, ?_⟩)), sA, sS⟩
                        refine gball_not (by decide +kernel) ?_
                        refine gball_yes rfl rfl ?_ ?_
                        · first | (refine mv_box rfl rfl rfl rfl ?_; intro _) | (refine mv_alloc rfl hT rfl rfl ?_; intro _) | refine mv_store hT rfl rfl rfl rfl rfl rfl sO rfl ?_ | (refine mv_buildSlice rfl hT rfl rfl rfl rfl rfl rfl rfl rfl ?_; intro _)
                          refine ⟨sF, ?_⟩
                          refine gb_only 4 (by decide +kernel) rfl rfl ?_
                          refine mv_append (L := ([] : List EntD)) rfl (W.take p) rfl rfl rfl rfl elt_E (by intro _; first | ((repeat (first | with_reducible exact Upd.here _ | with_reducible apply Upd.there)); done) | ((repeat (first | exact Upd.here _ | apply Upd.there)); done) | fail) (src_R mE) htk.symm oneE (by simp only [maxLen, List.length_nil]; omega) (by simp only [List.length_nil]; omega) (Nat.zero_le _) (fun va => ?_)
                          refine ⟨sF, ?_⟩
                          refine gb_only 7 (by decide +kernel) rfl rfl ?_
                          refine mv_append (L := [] ++ W.take p) rfl [e] rfl rfl rfl rfl elt_E (by intro _; first | ((repeat (first | with_reducible exact Upd.here _ | with_reducible apply Upd.there)); done) | ((repeat (first | exact Upd.here _ | apply Upd.there)); done) | fail) (src_blk mE rfl) rfl oneE (by simp only [maxLen, List.length_nil, List.length_cons, List.length_append]; omega) (by simp only [List.length_nil, List.length_cons, List.length_append]; omega) (Nat.zero_le _) (fun vb => ?_)
                          refine ⟨sF, ?_⟩
                          refine gb_only 11 (by decide +kernel) rfl rfl ?_
                          refine mv_append (L := [] ++ W.take p ++ [e]) rfl (W.drop p) rfl rfl rfl rfl elt_E (by intro _; first | ((repeat (first | with_reducible exact Upd.here _ | with_reducible apply Upd.there)); done) | ((repeat (first | exact Upd.here _ | apply Upd.there)); done) | fail) (src_R mE) hdk.symm oneE (by simp only [maxLen, List.length_nil, List.length_cons, List.length_append]; omega) (by simp only [List.length_nil, List.length_cons, List.length_append]; omega) (Nat.zero_le _) (fun vc => ?_)
                          refine ⟨sF, ?_⟩
                          refine gb_take 12 rfl (by decide +kernel) rfl rfl (ys_ev (nw := true) hT rfl sI) sF ?_
                          refine gb_nil (by decide +kernel) ?_
                          exact ⟨vc, (by repeat (first | exact trivial | refine ⟨rfl, ?_⟩)), sA, sS⟩
                        refine gball_not (by decide +kernel) ?_
                        refine gball_not (by decide +kernel) ?_
                        refine gball_not (by decide +kernel) ?_
                        refine gball_not (by decide +kernel) ?_
                        refine gball_not (by decide +kernel) ?_
                        refine gball_not (by decide +kernel) ?_
                        exact gball_end (by decide +kernel)
                      refine gball_not (by decide +kernel) ?_
                      refine gball_not (by decide +kernel) ?_
                      refine gball_not (by decide +kernel) ?_
                      refine gball_not (by decide +kernel) ?_
                      refine gball_not (by decide +kernel) ?_
                      refine gball_yes rfl rfl ?_ ?_
                      · first | (refine mv_box rfl rfl rfl rfl ?_; intro _) | (refine mv_alloc rfl hT rfl rfl ?_; intro _) | refine mv_store hT rfl rfl rfl rfl rfl rfl sO rfl ?_ | (refine mv_buildSlice rfl hT rfl rfl rfl rfl rfl rfl rfl rfl ?_; intro _)
                        refine ⟨sF, ?_⟩
                        refine gb_only 0 (by decide +kernel) rfl rfl ?_
                        refine mv_empty 4 EE rfl hT rfl rfl rfl rfl rfl (fun g9 => ?_)
                        refine ⟨sF, ?_⟩
                        refine gb_only 4 (by decide +kernel) rfl rfl ?_
                        refine mv_append (L := ([] : List EntD)) rfl (W.take p) rfl rfl rfl rfl elt_E (by intro _; first | ((repeat (first | with_reducible exact Upd.here _ | with_reducible apply Upd.there)); done) | ((repeat (first | exact Upd.here _ | apply Upd.there)); done) | fail) (src_R mE) htk.symm oneE (by simp only [maxLen, List.length_nil]; omega) (by simp only [List.length_nil]; omega) (Nat.zero_le _) (fun va => ?_)
                        refine ⟨sF, ?_⟩
                        refine gb_only 7 (by decide +kernel) rfl rfl ?_
                        refine mv_append (L := [] ++ W.take p) rfl [e] rfl rfl rfl rfl elt_E (by intro _; first | ((repeat (first | with_reducible exact Upd.here _ | with_reducible apply Upd.there)); done) | ((repeat (first | exact Upd.here _ | apply Upd.there)); done) | fail) (src_blk mE rfl) rfl oneE (by simp only [maxLen, List.length_nil, List.length_cons, List.length_append]; omega) (by simp only [List.length_nil, List.length_cons, List.length_append]; omega) (Nat.zero_le _) (fun vb => ?_)
                        refine ⟨sF, ?_⟩
                        refine gb_only 11 (by decide +kernel) rfl rfl ?_
                        refine mv_append (L := [] ++ W.take p ++ [e]) rfl (W.drop p) rfl rfl rfl rfl elt_E (by intro _; first | ((repeat (first | with_reducible exact Upd.here _ | with_reducible apply Upd.there)); done) | ((repeat (first | exact Upd.here _ | apply Upd.there)); done) | fail) (src_R mE) hdk.symm oneE (by simp only [maxLen, List.length_nil, List.length_cons, List.length_append]; omega) (by simp only [List.length_nil, List.length_cons, List.length_append]; omega) (Nat.zero_le _) (fun vc => ?_)
                        refine ⟨sF, ?_⟩
                        refine gb_take 12 rfl (by decide +kernel) rfl rfl (ys_ev (nw := true) hT rfl sI) sF ?_
                        refine gb_nil (by decide +kernel) ?_
                        exact ⟨vc, (by repeat (first | exact trivial | refine ⟨rfl, ?_⟩)), sA, sS⟩
                      refine gball_not (by decide +kernel) ?_
                      refine gball_not (by decide +kernel) ?_
                      refine gball_not (by decide +kernel) ?_
                      refine gball_not (by decide +kernel) ?_
                      refine gball_not (by decide +kernel) ?_
                      refine gball_not (by decide +kernel) ?_
                      exact gball_end (by decide +kernel)
                    · rw [← hpe, hwk]
                      (repeat (refine gG ?_; try intro _))
                      refine gk_again_sel rfl (v1, k + 1) (by show k + 1 ≤ zn; omega) (by dsimp only; omega) (by repeat (first | exact trivial | refine ⟨rfl, ?_⟩)) sA sS
          · have hkn : k = E.length := by have : k ≤ zn := hI; omega
            rw [hkn, List.take_length, ← insAll_snoc, ← ht1]
            (repeat' (first | (refine gG ?_; try intro _) | ((first | refine g_split rfl rfl tE (fun _ => ?_) (fun _ => ?_) | refine gk_cond rfl rfl tE (fun _ => ?_) (fun _ => ?_)) <;> (try first | (exfalso; omega; done) | (rename_i hx; exact absurd rfl hx) | (rename_i hx; cases hx; done)))))
            refine gk_again_sel rfl (v, i + 1) ⟨by omega, fun j r9 hj hr9 => by
              by_cases hji : j = i
              · subst hji
                rw [hr] at hr9
                obtain rfl := Option.some.inj hr9
                exact ⟨rok, hf'.2, hf'.1⟩
              · exact hfine j r9 (by omega) hr9, by
              rw [ht1, insAll_snoc, insRow_len]
              have h30 : E.length ≤ 30 := hf'.1
              show (insAll ((RS.take i).map RwD.E)).length + E.length ≤ 30 * (i + 1)
              omega⟩ (by dsimp only; omega) (by repeat (first | exact trivial | refine ⟨rfl, ?_⟩)) sA sS
    · (repeat' (first | (refine gG ?_; try intro _) | ((first | refine g_split rfl rfl tE (fun _ => ?_) (fun _ => ?_) | refine gk_cond rfl rfl tE (fun _ => ?_) (fun _ => ?_)) <;> (try first | (exfalso; omega; done) | (rename_i hx; exact absurd rfl hx) | (rename_i hx; cases hx; done)))))
      have hti : RS.take i = RS := List.take_of_length_le (by omega)
      have hok : ∀ r, r ∈ RS → r.Ok := fun r hr => by
        obtain ⟨j, hj⟩ := List.getElem?_of_mem hr
        exact hfine j r (by have := (List.getElem?_eq_some_iff.1 hj).1; omega) hj
      rw [hti] at hwl ⊢
      have hwl2 : (insAll (RS.map RwD.E)).length ≤ 240 := by omega
      obtain ⟨W, hW⟩ : ∃ W, insAll (RS.map RwD.E) = W := ⟨_, rfl⟩
      rw [hW] at hwl2 ⊢
      clear hwl
      refine gk_freeze v (fun A => (by first | ((repeat (first | with_reducible exact Upd.here _ | with_reducible apply Upd.there)); done) | ((repeat (first | exact Upd.here _ | apply Upd.there)); done) | fail)) (fun A c hv hc1 hc2 hc3 => ?_)
      subst hv
      refine gk_share (φ := sl A 4 EE W) (by repeat (first | with_reducible exact Sel.here | with_reducible apply Sel.there)) ?_
      refine gk_own 0 31 4 EE ?_
      refine gk_loop_sel (fun (q : Value × Nat) => match q with | (z, i) => (i ≤ W.length)) (fun (q : Value × Nat) => match q with | (z, i) => [(0, .slice rA rn rc), (3, .slice A W.length c), (4, z), (9, .int .i64 i)]) (fun (q : Value × Nat) => match q with | (z, i) => [own 0 31 4 z EE (keepS W i)]) (fun (q : Value × Nat) => match q with | (z, i) => [sl A 4 EE W, sl rA 1 RE RS, allF RS rwF]) (fun (q : Value × Nat) => match q with | (z, i) => W.length - i) (.slice none 0 0, 0) rfl (Nat.zero_le _) (by repeat (first | exact trivial | refine ⟨rfl, ?_⟩)) sA sS ?_
      rintro ⟨z, i⟩ hI
      replace hI : (i ≤ W.length) := hI
      change GK _ _ [(0, .slice rA rn rc), (3, .slice A W.length c), (4, z), (9, .int .i64 i)] [own 0 31 4 z EE (keepS W i)] [sl A 4 EE W, sl rA 1 RE RS, allF RS rwF]
      by_cases hlt2 : i < W.length
      · as_aux_lemma =>
          obtain ⟨e, he⟩ : ∃ e, W[i]? = some e := ⟨W[i], List.getElem?_eq_getElem (by omega)⟩
          have hkl := keep_le W i
          refine gk_elem (enc := EE) (L := W) i mE (by omega) (by decide) (fun b3 o3 y3 eA3 hy3 => ?_)
          subst eA3
          obtain rfl : e = y3 := by rw [he] at hy3; exact Option.some.inj hy3
          by_cases hl : i + 1 = W.length
          · have hst := keep_end he (List.getElem?_eq_none (by omega))
            generalize keepS W i = K at hkl hst ⊢
            (repeat' (first | (refine gG ?_; try intro _) | ((first | refine g_split rfl rfl tE (fun _ => ?_) (fun _ => ?_) | refine gk_cond rfl rfl tE (fun _ => ?_) (fun _ => ?_)) <;> (try first | (exfalso; omega; done) | (rename_i hx; exact absurd rfl hx) | (rename_i hx; cases hx; done)))))
            refine gk_any [] (Cut _ (fun _ : Unit => [(0, .slice rA rn rc), (3, .slice (some ⟨b3, o3, none⟩) W.length c), (4, z), (9, .int .i64 i), (95, .bool true)]) (fun _ => [own 0 31 4 z EE K]) (fun _ => [row b3 (o3 + i * 4) (encF EE e 0 4), sl (some ⟨b3, o3, none⟩) 4 EE W, sl rA 1 RE RS, allF RS rwF])) rfl rfl (by kernel_rfl) ?_ (cut_k fun _ => ?_)
            · skip
              refine gb_take 0 rfl (by decide +kernel) rfl rfl (ys_ev (nw := true) hT rfl sI) sF ?_
              refine gb_take 1 rfl (by decide +kernel) rfl rfl (ys_ev (nw := true) hT rfl sI) sF ?_
              refine gb_take 2 rfl (by decide +kernel) rfl rfl (ys_ev (nw := true) hT rfl sI) sF ?_
              refine gb_take 3 rfl (by decide +kernel) rfl rfl (ys_ev (nw := true) hT rfl sI) sF ?_
              refine gb_take 4 rfl (by decide +kernel) rfl rfl (ys_ev (nw := true) hT rfl sI) sF ?_
              try (refine gb_say 81 (.bool true) rfl (congrArg Value.bool (tB_true (by omega))) ?_)
              refine gb_take 5 rfl (by decide +kernel) rfl rfl (ys_ev (nw := true) hT rfl sI) sF ?_
              first | refine gb_take 6 rfl (by decide +kernel) rfl rfl (ys_ev (nw := true) hT rfl sI) sF ?_ | refine gb_skip 6 rfl (by decide +kernel) rfl rfl sF ?_
              first | refine gb_take 7 rfl (by decide +kernel) rfl rfl (ys_ev (nw := true) hT rfl sI) sF ?_ | refine gb_skip 7 rfl (by decide +kernel) rfl rfl sF ?_
              first | refine gb_take 8 rfl (by decide +kernel) rfl rfl (ys_ev (nw := true) hT rfl sI) sF ?_ | refine gb_skip 8 rfl (by decide +kernel) rfl rfl sF ?_
              first | refine gb_take 9 rfl (by decide +kernel) rfl rfl (ys_ev (nw := true) hT rfl sI) sF ?_ | refine gb_skip 9 rfl (by decide +kernel) rfl rfl sF ?_
              first | refine gb_take 10 rfl (by decide +kernel) rfl rfl (ys_ev (nw := true) hT rfl sI) sF ?_ | refine gb_skip 10 rfl (by decide +kernel) rfl rfl sF ?_
              first | refine gb_take 11 rfl (by decide +kernel) rfl rfl (by first | exact ys_blk hT rfl rfl mE rfl rfl | exact ys_row hT rfl rfl mE rfl rfl | exact ys_row0 hT rfl rfl mE rfl rfl) sF ?_ | refine gb_skip 11 rfl (by decide +kernel) rfl rfl sF ?_
              first | refine gb_take 12 rfl (by decide +kernel) rfl rfl (ys_ev (nw := true) hT rfl sI) sF ?_ | refine gb_skip 12 rfl (by decide +kernel) rfl rfl sF ?_
              first | refine gb_take 13 rfl (by decide +kernel) rfl rfl (ys_ev (nw := true) hT rfl sI) sF ?_ | refine gb_skip 13 rfl (by decide +kernel) rfl rfl sF ?_
              first | refine gb_take 14 rfl (by decide +kernel) rfl rfl (ys_ev (nw := true) hT rfl sI) sF ?_ | refine gb_skip 14 rfl (by decide +kernel) rfl rfl sF ?_
              first | refine gb_take 15 rfl (by decide +kernel) rfl rfl (ys_ev (nw := true) hT rfl sI) sF ?_ | refine gb_skip 15 rfl (by decide +kernel) rfl rfl sF ?_
              first | refine gb_take 16 rfl (by decide +kernel) rfl rfl (by first | exact ys_blk hT rfl rfl mE rfl rfl | exact ys_row hT rfl rfl mE rfl rfl | exact ys_row0 hT rfl rfl mE rfl rfl) sF ?_ | refine gb_skip 16 rfl (by decide +kernel) rfl rfl sF ?_
              first | refine gb_take 17 rfl (by decide +kernel) rfl rfl (ys_ev (nw := true) hT rfl sI) sF ?_ | refine gb_skip 17 rfl (by decide +kernel) rfl rfl sF ?_
              refine gb_take 18 rfl (by decide +kernel) rfl rfl (ys_ev (nw := true) hT rfl sI) sF ?_
              refine gb_nil (by decide +kernel) ?_
              exact ⟨(), (by repeat (first | exact trivial | refine ⟨rfl, ?_⟩)), sA, sS⟩
            · skip
              (repeat (refine gG ?_; try intro _))
              refine g_mv rfl (mv_append (L := K) rfl [e] rfl rfl rfl rfl elt_E (by intro _; first | ((repeat (first | with_reducible exact Upd.here _ | with_reducible apply Upd.there)); done) | ((repeat (first | exact Upd.here _ | apply Upd.there)); done) | fail) (src_blk mE rfl) rfl oneE (by simp only [maxLen, List.length_cons, List.length_nil]; omega) (by simp only [List.length_cons, List.length_nil]; omega) (Nat.zero_le _) (fun v1 => ?_))
              rw [← hst]
              (repeat (refine gG ?_; try intro _))
              refine gk_again_sel rfl (v1, i + 1) (by show i + 1 ≤ W.length; omega) (by dsimp only; omega) (by repeat (first | exact trivial | refine ⟨rfl, ?_⟩)) sA sS
          · obtain ⟨e2, he2⟩ : ∃ e, W[i + 1]? = some e := ⟨W[i + 1], List.getElem?_eq_getElem (by omega)⟩
            refine gk_elem (enc := EE) (L := W) (i + 1) mE (by omega) (by decide) (fun b4 o4 y4 eA4 hy4 => ?_)
            injection eA4 with eA4
            injection eA4 with e5 e6
            subst e5 e6
            obtain rfl : e2 = y4 := by rw [he2] at hy4; exact Option.some.inj hy4
            by_cases hke : e2.k = e.k
            · have hst := keep_same he he2 hke
              generalize keepS W i = K at hkl hst ⊢
              (repeat' (first | (refine gG ?_; try intro _) | ((first | refine g_split rfl rfl tE (fun _ => ?_) (fun _ => ?_) | refine gk_cond rfl rfl tE (fun _ => ?_) (fun _ => ?_)) <;> (try first | (exfalso; omega; done) | (rename_i hx; exact absurd rfl hx) | (rename_i hx; cases hx; done)))))
              refine gk_any [1, 2] (Cut _ (fun _ : Unit => [(0, .slice rA rn rc), (3, .slice (some ⟨b3, o3, none⟩) W.length c), (4, z), (9, .int .i64 i), (95, .bool false)]) (fun _ => [own 0 31 4 z EE K]) (fun _ => [row b3 (o3 + i * 4) (encF EE e 0 4), sl (some ⟨b3, o3, none⟩) 4 EE W, sl rA 1 RE RS, allF RS rwF])) rfl rfl (by kernel_rfl) ?_ (cut_k fun _ => ?_)
              · skip
                refine gb_take 0 rfl (by decide +kernel) rfl rfl (ys_ev (nw := true) hT rfl sI) sF ?_
                refine gb_take 1 rfl (by decide +kernel) rfl rfl (ys_ev (nw := true) hT rfl sI) sF ?_
                refine gb_take 2 rfl (by decide +kernel) rfl rfl (ys_ev (nw := true) hT rfl sI) sF ?_
                refine gb_take 3 rfl (by decide +kernel) rfl rfl (ys_ev (nw := true) hT rfl sI) sF ?_
                refine gb_take 4 rfl (by decide +kernel) rfl rfl (ys_ev (nw := true) hT rfl sI) sF ?_
                try (refine gb_say 81 (.bool false) rfl (congrArg Value.bool (tB_false (by omega))) ?_)
                refine gb_take 5 rfl (by decide +kernel) rfl rfl (ys_ev (nw := true) hT rfl sI) sF ?_
                first | refine gb_take 6 rfl (by decide +kernel) rfl rfl (ys_ev (nw := true) hT rfl sI) sF ?_ | refine gb_skip 6 rfl (by decide +kernel) rfl rfl sF ?_
                first | refine gb_take 7 rfl (by decide +kernel) rfl rfl (ys_ev (nw := true) hT rfl sI) sF ?_ | refine gb_skip 7 rfl (by decide +kernel) rfl rfl sF ?_
                first | refine gb_take 8 rfl (by decide +kernel) rfl rfl (ys_ev (nw := true) hT rfl sI) sF ?_ | refine gb_skip 8 rfl (by decide +kernel) rfl rfl sF ?_
                try (refine gb_say 85 (.int .i64 ((i + 1 : Nat) : Int)) rfl (by first | (congr 1; done) | (congr 1; omega)) ?_)
                first | refine gb_take 9 rfl (by decide +kernel) rfl rfl (ys_ev (nw := true) hT rfl sI) sF ?_ | refine gb_skip 9 rfl (by decide +kernel) rfl rfl sF ?_
                first | refine gb_take 10 rfl (by decide +kernel) rfl rfl (ys_ev (nw := true) hT rfl sI) sF ?_ | refine gb_skip 10 rfl (by decide +kernel) rfl rfl sF ?_
                first | refine gb_take 11 rfl (by decide +kernel) rfl rfl (by first | exact ys_blk hT rfl rfl mE rfl rfl | exact ys_row hT rfl rfl mE rfl rfl | exact ys_row0 hT rfl rfl mE rfl rfl) sF ?_ | refine gb_skip 11 rfl (by decide +kernel) rfl rfl sF ?_
                first | refine gb_take 12 rfl (by decide +kernel) rfl rfl (ys_ev (nw := true) hT rfl sI) sF ?_ | refine gb_skip 12 rfl (by decide +kernel) rfl rfl sF ?_
                first | refine gb_take 13 rfl (by decide +kernel) rfl rfl (ys_ev (nw := true) hT rfl sI) sF ?_ | refine gb_skip 13 rfl (by decide +kernel) rfl rfl sF ?_
                first | refine gb_take 14 rfl (by decide +kernel) rfl rfl (ys_ev (nw := true) hT rfl sI) sF ?_ | refine gb_skip 14 rfl (by decide +kernel) rfl rfl sF ?_
                first | refine gb_take 15 rfl (by decide +kernel) rfl rfl (ys_ev (nw := true) hT rfl sI) sF ?_ | refine gb_skip 15 rfl (by decide +kernel) rfl rfl sF ?_
                first | refine gb_take 16 rfl (by decide +kernel) rfl rfl (by first | exact ys_blk hT rfl rfl mE rfl rfl | exact ys_row hT rfl rfl mE rfl rfl | exact ys_row0 hT rfl rfl mE rfl rfl) sF ?_ | refine gb_skip 16 rfl (by decide +kernel) rfl rfl sF ?_
                first | refine gb_take 17 rfl (by decide +kernel) rfl rfl (ys_neq rfl rfl rfl rfl rfl (by kernel_rfl)) sF ?_ | refine gb_skip 17 rfl (by decide +kernel) rfl rfl sF ?_
                try (refine gb_say 94 (.bool false) rfl (congrArg Value.bool (tB_false (fun h => h (by rw [hke]; exact ⟨rfl, rfl, rfl, trivial⟩)))) ?_)
                refine gb_take 18 rfl (by decide +kernel) rfl rfl (ys_ev (nw := true) hT rfl sI) sF ?_
                refine gb_nil (by decide +kernel) ?_
                exact ⟨(), (by repeat (first | exact trivial | refine ⟨rfl, ?_⟩)), sA, sS⟩
              · (repeat' (first | (refine gG ?_; try intro _) | ((first | refine g_split rfl rfl tE (fun _ => ?_) (fun _ => ?_) | refine gk_cond rfl rfl tE (fun _ => ?_) (fun _ => ?_)) <;> (try first | (exfalso; omega; done) | (rename_i hx; exact absurd rfl hx) | (rename_i hx; cases hx; done)))))
                rw [← hst]
                refine gk_again_sel rfl (z, i + 1) (by show i + 1 ≤ W.length; omega) (by dsimp only; omega) (by repeat (first | exact trivial | refine ⟨rfl, ?_⟩)) sA sS
            · have hst := keep_diff he he2 hke
              generalize keepS W i = K at hkl hst ⊢
              (repeat' (first | (refine gG ?_; try intro _) | ((first | refine g_split rfl rfl tE (fun _ => ?_) (fun _ => ?_) | refine gk_cond rfl rfl tE (fun _ => ?_) (fun _ => ?_)) <;> (try first | (exfalso; omega; done) | (rename_i hx; exact absurd rfl hx) | (rename_i hx; cases hx; done)))))
              refine gk_any [1, 2] (Cut _ (fun _ : Unit => [(0, .slice rA rn rc), (3, .slice (some ⟨b3, o3, none⟩) W.length c), (4, z), (9, .int .i64 i), (95, .bool true)]) (fun _ => [own 0 31 4 z EE K]) (fun _ => [row b3 (o3 + i * 4) (encF EE e 0 4), sl (some ⟨b3, o3, none⟩) 4 EE W, sl rA 1 RE RS, allF RS rwF])) rfl rfl (by kernel_rfl) ?_ (cut_k fun _ => ?_)
              · skip
                refine gb_take 0 rfl (by decide +kernel) rfl rfl (ys_ev (nw := true) hT rfl sI) sF ?_
                refine gb_take 1 rfl (by decide +kernel) rfl rfl (ys_ev (nw := true) hT rfl sI) sF ?_
                refine gb_take 2 rfl (by decide +kernel) rfl rfl (ys_ev (nw := true) hT rfl sI) sF ?_
                refine gb_take 3 rfl (by decide +kernel) rfl rfl (ys_ev (nw := true) hT rfl sI) sF ?_
                refine gb_take 4 rfl (by decide +kernel) rfl rfl (ys_ev (nw := true) hT rfl sI) sF ?_
                try (refine gb_say 81 (.bool false) rfl (congrArg Value.bool (tB_false (by omega))) ?_)
                refine gb_take 5 rfl (by decide +kernel) rfl rfl (ys_ev (nw := true) hT rfl sI) sF ?_
                first | refine gb_take 6 rfl (by decide +kernel) rfl rfl (ys_ev (nw := true) hT rfl sI) sF ?_ | refine gb_skip 6 rfl (by decide +kernel) rfl rfl sF ?_
                first | refine gb_take 7 rfl (by decide +kernel) rfl rfl (ys_ev (nw := true) hT rfl sI) sF ?_ | refine gb_skip 7 rfl (by decide +kernel) rfl rfl sF ?_
                first | refine gb_take 8 rfl (by decide +kernel) rfl rfl (ys_ev (nw := true) hT rfl sI) sF ?_ | refine gb_skip 8 rfl (by decide +kernel) rfl rfl sF ?_
                try (refine gb_say 85 (.int .i64 ((i + 1 : Nat) : Int)) rfl (by first | (congr 1; done) | (congr 1; omega)) ?_)
                first | refine gb_take 9 rfl (by decide +kernel) rfl rfl (ys_ev (nw := true) hT rfl sI) sF ?_ | refine gb_skip 9 rfl (by decide +kernel) rfl rfl sF ?_
                first | refine gb_take 10 rfl (by decide +kernel) rfl rfl (ys_ev (nw := true) hT rfl sI) sF ?_ | refine gb_skip 10 rfl (by decide +kernel) rfl rfl sF ?_
                first | refine gb_take 11 rfl (by decide +kernel) rfl rfl (by first | exact ys_blk hT rfl rfl mE rfl rfl | exact ys_row hT rfl rfl mE rfl rfl | exact ys_row0 hT rfl rfl mE rfl rfl) sF ?_ | refine gb_skip 11 rfl (by decide +kernel) rfl rfl sF ?_
                first | refine gb_take 12 rfl (by decide +kernel) rfl rfl (ys_ev (nw := true) hT rfl sI) sF ?_ | refine gb_skip 12 rfl (by decide +kernel) rfl rfl sF ?_
                first | refine gb_take 13 rfl (by decide +kernel) rfl rfl (ys_ev (nw := true) hT rfl sI) sF ?_ | refine gb_skip 13 rfl (by decide +kernel) rfl rfl sF ?_
                first | refine gb_take 14 rfl (by decide +kernel) rfl rfl (ys_ev (nw := true) hT rfl sI) sF ?_ | refine gb_skip 14 rfl (by decide +kernel) rfl rfl sF ?_
                first | refine gb_take 15 rfl (by decide +kernel) rfl rfl (ys_ev (nw := true) hT rfl sI) sF ?_ | refine gb_skip 15 rfl (by decide +kernel) rfl rfl sF ?_
                first | refine gb_take 16 rfl (by decide +kernel) rfl rfl (by first | exact ys_blk hT rfl rfl mE rfl rfl | exact ys_row hT rfl rfl mE rfl rfl | exact ys_row0 hT rfl rfl mE rfl rfl) sF ?_ | refine gb_skip 16 rfl (by decide +kernel) rfl rfl sF ?_
                first | refine gb_take 17 rfl (by decide +kernel) rfl rfl (ys_neq rfl rfl rfl rfl rfl (by kernel_rfl)) sF ?_ | refine gb_skip 17 rfl (by decide +kernel) rfl rfl sF ?_
                try (refine gb_say 94 (.bool true) rfl (congrArg Value.bool (tB_true (fun h => hke (key_ext h.1 h.2.1 h.2.2.1)))) ?_)
                refine gb_take 18 rfl (by decide +kernel) rfl rfl (ys_ev (nw := true) hT rfl sI) sF ?_
                refine gb_nil (by decide +kernel) ?_
                exact ⟨(), (by repeat (first | exact trivial | refine ⟨rfl, ?_⟩)), sA, sS⟩
              · skip
                (repeat (refine gG ?_; try intro _))
                refine g_mv rfl (mv_append (L := K) rfl [e] rfl rfl rfl rfl elt_E (by intro _; first | ((repeat (first | with_reducible exact Upd.here _ | with_reducible apply Upd.there)); done) | ((repeat (first | exact Upd.here _ | apply Upd.there)); done) | fail) (src_blk mE rfl) rfl oneE (by simp only [maxLen, List.length_cons, List.length_nil]; omega) (by simp only [List.length_cons, List.length_nil]; omega) (Nat.zero_le _) (fun v1 => ?_))
                rw [← hst]
                (repeat (refine gG ?_; try intro _))
                refine gk_again_sel rfl (v1, i + 1) (by show i + 1 ≤ W.length; omega) (by dsimp only; omega) (by repeat (first | exact trivial | refine ⟨rfl, ?_⟩)) sA sS
      · have hiw : i = W.length := by have : i ≤ W.length := hI; omega
        rw [hiw, keep_all]
        (repeat' (first | (refine gG ?_; try intro _) | ((first | refine g_split rfl rfl tE (fun _ => ?_) (fun _ => ?_) | refine gk_cond rfl rfl tE (fun _ => ?_) (fun _ => ?_)) <;> (try first | (exfalso; omega; done) | (rename_i hx; exact absurd rfl hx) | (rename_i hx; cases hx; done)))))
        refine g_mv rfl ?_; refine mv_call_rt (fun w hk => rows_any RS rA rn rc w hrn (by omega) hok (by rw [hW]; omega) (.cons (hk.rR mE) (.cons (hk.rR mE) .nil))) rfl rfl rfl rfl rfl (by kernel_rfl) (fun _ => rfl) (fun v1 _ => ?_)
        rw [hW]
        refine g_ownv v1 mE (fun A1 c1 hv1 _ _ _ => ?_)
        subst hv1
        (repeat' (first | (refine gG ?_; try intro _) | (refine g_mv rfl ?_; first | refine mv_call_bel (fun w hk => equal_self A1 A W.length c1 W.length c W w rfl rfl (by omega) (own_slS (hk.pO (own 0 31 4 (.slice A1 W.length c1) EE W) mE)) (hk.rR (φ := sl A 4 EE W) mE).1) rfl rfl rfl rfl rfl (by kernel_rfl) ?_) | ((first | refine g_split rfl rfl tE (fun _ => ?_) (fun _ => ?_) | refine gk_cond rfl rfl tE (fun _ => ?_) (fun _ => ?_)) <;> (try first | (exfalso; omega; done) | (rename_i hx; exact absurd rfl hx) | (rename_i hx; cases hx; done)))))
        refine g_mv rfl ?_; refine mv_call_rt (fun w hk => all17_any RS rA rn rc w hrn (by omega) hok (by rw [hW]; omega) (.cons (hk.rR mE) (.cons (hk.rR mE) .nil))) rfl rfl rfl rfl rfl (by kernel_rfl) (fun _ => rfl) (fun v2 _ => ?_)
        rw [hW]
        refine g_ownv v2 mE (fun A2 c2 hv2 _ _ _ => ?_)
        subst hv2
        (repeat' (first | (refine gG ?_; try intro _) | (refine g_mv rfl ?_; first | refine mv_call_bel (fun w hk => equal_self A2 A W.length c2 W.length c W w rfl rfl (by omega) (own_slS (hk.pO (own 0 31 4 (.slice A2 W.length c2) EE W) mE)) (hk.rR (φ := sl A 4 EE W) mE).1) rfl rfl rfl rfl rfl (by kernel_rfl) ?_) | ((first | refine g_split rfl rfl tE (fun _ => ?_) (fun _ => ?_) | refine gk_cond rfl rfl tE (fun _ => ?_) (fun _ => ?_)) <;> (try first | (exfalso; omega; done) | (rename_i hx; exact absurd rfl hx) | (rename_i hx; cases hx; done)))))
        refine g_mv rfl ?_; refine mv_call_rt (fun w hk => last_any RS rA rn rc w hrn (by omega) hok (by rw [hW]; omega) (.cons (hk.rR mE) (.cons (hk.rR mE) .nil))) rfl rfl rfl rfl rfl (by kernel_rfl) (fun _ => rfl) (fun v3 _ => ?_)
        rw [hW]
        refine g_ownv v3 mE (fun A3 c3 hv3 _ _ _ => ?_)
        subst hv3
        refine g_ownv z mE (fun A4 c4 hv4 _ _ _ => ?_)
        subst hv4
        have hll := last_le W W.length
        rw [List.take_length] at hll
        (repeat' (first | (refine gG ?_; try intro _) | (refine g_mv rfl ?_; first | refine mv_call_bel (fun w hk => equal_self A3 A4 (lastS W).length c3 (lastS W).length c4 (lastS W) w rfl rfl (by omega) (own_slS (hk.pO (own 0 31 4 (.slice A3 (lastS W).length c3) EE (lastS W)) mE)) (own_slS (hk.pO (own 0 31 4 (.slice A4 (lastS W).length c4) EE (lastS W)) mE))) rfl rfl rfl rfl rfl (by kernel_rfl) ?_) | ((first | refine g_split rfl rfl tE (fun _ => ?_) (fun _ => ?_) | refine gk_cond rfl rfl tE (fun _ => ?_) (fun _ => ?_)) <;> (try first | (exfalso; omega; done) | (rename_i hx; exact absurd rfl hx) | (rename_i hx; cases hx; done)))))
        (repeat' (first | (refine gG ?_; try intro _) | (refine g_mv rfl ?_; first | refine mv_call_bel (fun w hk => alive17_any w) rfl rfl rfl rfl rfl (by kernel_rfl) ?_) | ((first | refine g_split rfl rfl tE (fun _ => ?_) (fun _ => ?_) | refine gk_cond rfl rfl tE (fun _ => ?_) (fun _ => ?_)) <;> (try first | (exfalso; omega; done) | (rename_i hx; exact absurd rfl hx) | (rename_i hx; cases hx; done)))))
        refine gk_ret hT rfl rfl (.tmp rfl .nil) (fun w' hk => ?_)
        exact ⟨rfl, hk.toBelow⟩
end Go.Proofs.Ytmbphmckakigaaa.Mg

