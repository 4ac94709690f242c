/- Law 36: StoreLoads: the walk. -/
import Derived.Test.YtaghmffgoomebaaGreatStK
namespace Go.Proofs.YtaghmffgoomebaaGreat.St
open Go.RowKit Mem Gx Bytes Dk Al Rf Hp Nd Ch
set_option linter.unusedVariables false
set_option linter.unusedSimpArgs false
set_option maxRecDepth 100000
set_option maxHeartbeats 8000000
theorem rless_b (b : Bool) (x y : KeyD) (h : tB (klt x y) = b) (w : World) : Calls Tryz.prog 7 [x.val, y.val].toArray w fun e w' => e = .returned (.bool b) ∧ Below w.heap.size w w' := h ▸ rless_any x y w
theorem loads_law (aA bA xA : Option Addr) (an ac bn bc sn sc : Nat) (a b : List EntD) (X : List Int) (w : World) (ha : (SlV.mk aA an ac).Ok a.length) (hb : (SlV.mk bA bn bc).Ok b.length) (hs : (SlV.mk xA sn sc).Ok X.length) (hab : ∀ e ∈ a, e.Bd) (hbb : ∀ e ∈ b, e.Bd) (hX : IsB X) (hal : a.length ≤ 1048576) (hbl : b.length ≤ 1048576) (hra : Rd1 w (sl aA 4 EE a)) (hrb : Rd1 w (sl bA 4 EE b)) (hrs : Rd1 w (sl xA 1 (IE .u8) X)) :
    Calls Tryz.prog 3 [.slice aA an ac, .slice bA bn bc, .slice xA sn sc].toArray w fun e w' => e = .returned (.bool true) ∧ Below w.heap.size w w' := by
  obtain ⟨ha1, ha2, ha3, ha4⟩ := ha
  obtain ⟨hb1, hb2, hb3, hb4⟩ := hb
  obtain ⟨hs1, hs2, hs3, hs4⟩ := hs
  dsimp only at ha1 ha2 ha3 ha4 hb1 hb2 hb3 hb4 hs1 hs2 hs3 hs4
  subst ha1 hb1 hs1
  refine g_enter0 T [] [] [sl aA 4 EE a, sl bA 4 EE b, sl xA 1 (IE .u8) X] Tryz.func3 rfl Tryz.ntmps3 rfl (Rds.cons hra (.cons hrb (.cons hrs .nil))).kn ?_
  by_cases hG : (3 ≤ a.length ∧ a.length ≤ 6) ∧ (3 ≤ b.length ∧ b.length ≤ 6) ∧ X.length ≤ 300
  case neg =>
    --<out
    (repeat (refine gG ?_; try intro _))
    refine g_mv rfl ?_; refine mv_call_rt (fun w hk => cloneEs_own aA a.length ac a w rfl (by omega) (hk.pR (sl aA 4 EE a) mE)) rfl rfl rfl rfl rfl (by kernel_rfl) (fun _ => rfl) (fun v1 _ => ?_)
    (repeat (refine gG ?_; try intro _))
    refine g_mv rfl (mv_append (L := a) rfl b rfl rfl rfl rfl Nd.elt_E (by intro _; first | ((repeat (first | with_reducible exact Upd.here _ | with_reducible apply Upd.there)); done) | ((repeat (first | exact Upd.here _ | apply Upd.there)); done) | fail) (src_R mE) rfl (by intro x j; match j with | 0 => rfl | 1 => rfl | 2 => rfl | _ + 3 => rfl) (by simp [maxLen]; omega) (by omega) (Nat.zero_le _) (fun v2 => ?_))
    refine g_freeze v2 (by intro _; first | ((repeat (first | with_reducible exact Upd.here _ | with_reducible apply Upd.there)); done) | ((repeat (first | exact Upd.here _ | apply Upd.there)); done) | fail) (fun lA lc hv _ _ _ => ?_)
    subst hv
    (repeat' (first | (refine gG ?_; try intro _) | ((first | refine g_split rfl rfl tE (fun _ => ?_) (fun _ => ?_) | refine gk_cond rfl rfl tE (fun _ => ?_) (fun _ => ?_)) <;> (try first | (exfalso; omega; done) | (rename_i hx; exact absurd rfl hx) | (rename_i hx; cases hx; done)))))
    all_goals (refine gk_ret hT rfl rfl (.tmp rfl .nil) (fun w' hk => ?_); exact ⟨rfl, hk.toBelow⟩)
    -->out
  obtain ⟨⟨ga1, ga2⟩, ⟨gb1, gb2⟩, gx⟩ := hG
  refine gk_elem (A := aA) (enc := EE) (L := a) 0 mE (by omega) (by decide) (fun ab ao y eA hy => ?_)
  subst eA
  refine gk_elem (A := bA) (enc := EE) (L := b) 0 mE (by omega) (by decide) (fun bb bo z eA hz => ?_)
  subst eA
  obtain ⟨⟨yv, yb, ys⟩, ya⟩ := y
  obtain ⟨⟨zv, zb, zs⟩, za⟩ := z
  (repeat (refine gG ?_; try intro _))
  refine g_mv rfl ?_; refine mv_call_rt (fun w hk => cloneEs_own (some ⟨ab, ao, none⟩) a.length ac a w rfl (by omega) (hk.pR (sl (some ⟨ab, ao, none⟩) 4 EE a) mE)) rfl rfl rfl rfl rfl (by kernel_rfl) (fun _ => rfl) (fun v1 _ => ?_)
  (repeat (refine gG ?_; try intro _))
  refine g_mv rfl (mv_append (L := a) rfl b rfl rfl rfl rfl Nd.elt_E (by intro _; first | ((repeat (first | with_reducible exact Upd.here _ | with_reducible apply Upd.there)); done) | ((repeat (first | exact Upd.here _ | apply Upd.there)); done) | fail) (src_R mE) rfl (by intro x j; match j with | 0 => rfl | 1 => rfl | 2 => rfl | _ + 3 => rfl) (by simp [maxLen]; omega) (by omega) (Nat.zero_le _) (fun v2 => ?_))
  refine g_freeze v2 (by intro _; first | ((repeat (first | with_reducible exact Upd.here _ | with_reducible apply Upd.there)); done) | ((repeat (first | exact Upd.here _ | apply Upd.there)); done) | fail) (fun lA lc hv hl2 hl3 _ => ?_)
  subst hv
  obtain ⟨L, hL⟩ : ∃ L, L = a ++ b := ⟨_, rfl⟩
  have hLl : L.length = a.length + b.length := by rw [hL, List.length_append]
  rw [← hL] at hl2 ⊢
  refine g_share (φ := sl lA 4 EE L) (by repeat (first | with_reducible exact Sel.here | with_reducible apply Sel.there)) ?_
  (repeat' (first | (refine gG ?_; try intro _) | ((first | refine g_split rfl rfl tE (fun _ => ?_) (fun _ => ?_) | refine gk_cond rfl rfl tE (fun _ => ?_) (fun _ => ?_)) <;> (try first | (exfalso; omega; done) | (rename_i hx; exact absurd rfl hx) | (rename_i hx; cases hx; done)))))
  refine gk_loop_sel (fun (i : Nat) => 1 ≤ i ∧ (i ≤ L.length ∨ i = 1) ∧ ∀ j, 0 < j → j < i → j < L.length → klt (L.getD (j - 1) default).k (L.getD j default).k) (fun (i : Nat) => [(0, .slice (some ⟨ab, ao, none⟩) a.length ac), (1, .slice (some ⟨bb, bo, none⟩) b.length bc), (2, .slice xA X.length sc), (7, .slice lA L.length lc), (8, .int .i64 i)]) (fun (i : Nat) => []) (fun (i : Nat) => [sl (some ⟨ab, ao, none⟩) 4 EE a, sl (some ⟨bb, bo, none⟩) 4 EE b, sl xA 1 (IE .u8) X, sl lA 4 EE L]) (fun (i : Nat) => L.length + 1 - i) 1 rfl ⟨Nat.le_refl _, .inr rfl, fun j h1 h2 => by omega⟩ (by repeat (first | exact trivial | refine ⟨rfl, ?_⟩)) sA sS ?_
  rintro i hI
  replace hI : 1 ≤ i ∧ (i ≤ L.length ∨ i = 1) ∧ ∀ j, 0 < j → j < i → j < L.length → klt (L.getD (j - 1) default).k (L.getD j default).k := hI
  change GK _ _ [(0, .slice (some ⟨ab, ao, none⟩) a.length ac), (1, .slice (some ⟨bb, bo, none⟩) b.length bc), (2, .slice xA X.length sc), (7, .slice lA L.length lc), (8, .int .i64 i)] [] [sl (some ⟨ab, ao, none⟩) 4 EE a, sl (some ⟨bb, bo, none⟩) 4 EE b, sl xA 1 (IE .u8) X, sl lA 4 EE L]
  obtain ⟨hi1, hi2, hp⟩ := hI
  (repeat (refine gG ?_; try intro _))
  refine gk_cond rfl rfl (tells_tB _) (fun h1 => ?_) (fun h1 => ?_)
  · --<round
    have hiL : i < L.length := by omega
    obtain ⟨y2, hy2⟩ : ∃ y, L[i]? = some y := ⟨L[i], List.getElem?_eq_getElem hiL⟩
    obtain ⟨x2, hx2⟩ : ∃ x, L[i - 1]? = some x := ⟨L[i - 1], List.getElem?_eq_getElem (by omega)⟩
    refine gk_elem (A := lA) (enc := EE) (L := L) i mE (by omega) (by decide) (fun b0 o0 y' eA hy' => ?_)
    subst eA
    obtain ⟨b2, k2⟩ : ∃ v, tB (klt x2.k y2.k) = v := ⟨_, rfl⟩
    have hxy : klt (L.getD (i - 1) default).k (L.getD i default).k ↔ klt x2.k y2.k := by
      rw [List.getD_eq_getElem?_getD, List.getD_eq_getElem?_getD, hy2, hx2]; rfl
    refine gk_sel (f' := [(0, .slice (some ⟨ab, ao, none⟩) a.length ac), (1, .slice (some ⟨bb, bo, none⟩) b.length bc), (2, .slice xA X.length sc), (7, .slice (some ⟨b0, o0, none⟩) L.length lc), (8, .int .i64 i)]) (O' := []) (R' := [sl (some ⟨ab, ao, none⟩) 4 EE a, sl (some ⟨bb, bo, none⟩) 4 EE b, sl xA 1 (IE .u8) X, sl (some ⟨b0, o0, none⟩) 4 EE L]) (by repeat (first | exact trivial | refine ⟨rfl, ?_⟩)) sA sS ?_
    refine gk_any [3] (Cut _ (fun _ : Unit => [(0, .slice (some ⟨ab, ao, none⟩) a.length ac), (1, .slice (some ⟨bb, bo, none⟩) b.length bc), (2, .slice xA X.length sc), (7, .slice (some ⟨b0, o0, none⟩) L.length lc), (8, .int .i64 i), (69, .bool (!b2))]) (fun _ => []) (fun _ => [sl (some ⟨ab, ao, none⟩) 4 EE a, sl (some ⟨bb, bo, none⟩) 4 EE b, sl xA 1 (IE .u8) X, sl (some ⟨b0, o0, none⟩) 4 EE L])) rfl rfl (by kernel_rfl) ?_ (cut_k fun _ => ?_)
    · skip
      refine gb_take 0 rfl (by decide +kernel) rfl rfl (ys_ev (nw := true) hT rfl sI) sF ?_
      refine gb_take 1 rfl (by decide +kernel) rfl rfl (ys_ev (nw := true) hT rfl sI) sF ?_
      refine gb_take 2 rfl (by decide +kernel) rfl rfl (ys_ev (nw := true) hT rfl sI) sF ?_
      refine gb_take 3 rfl (by decide +kernel) rfl rfl (ys_ev (nw := true) hT rfl sI) sF ?_
      refine gb_take 4 rfl (by decide +kernel) rfl rfl (ys_ev (nw := true) hT rfl sI) sF ?_
      refine gb_take 5 rfl (by decide +kernel) rfl rfl (ys_load_el (o0 := o0) (sz := 4) (enc := EE) (L := L) hT (i - 1) x2 0 rfl rfl rfl (by omega) hx2 (at_sl mE) rfl rfl) sF ?_
      refine gb_take 6 rfl (by decide +kernel) rfl rfl (ys_ev (nw := true) hT rfl sI) sF ?_
      refine gb_take 7 rfl (by decide +kernel) rfl rfl (ys_ev (nw := true) hT rfl sI) sF ?_
      refine gb_take 8 rfl (by decide +kernel) rfl rfl (ys_ev (nw := true) hT rfl sI) sF ?_
      refine gb_take 9 rfl (by decide +kernel) rfl rfl (ys_ev (nw := true) hT rfl sI) sF ?_
      refine gb_take 10 rfl (by decide +kernel) rfl rfl (ys_load_el (o0 := o0) (sz := 4) (enc := EE) (L := L) hT i y2 0 rfl rfl rfl (by omega) hy2 (at_sl mE) rfl rfl) sF ?_
      refine gb_only 11 (by decide +kernel) rfl rfl ?_
      refine mv_call_bel (fun w hk => rless_b b2 x2.k y2.k k2 w) rfl rfl rfl rfl rfl (by kernel_rfl) ?_
      refine ⟨sF, ?_⟩
      refine gb_take 12 rfl (by decide +kernel) rfl rfl (ys_ev (nw := true) hT rfl sI) sF ?_
      refine gb_nil (by decide +kernel) ?_
      exact ⟨(), (by repeat (first | exact trivial | refine ⟨rfl, ?_⟩)), sA, sS⟩
    · cases b2 with
      | false =>
        (repeat (refine gG ?_; try intro _))
        refine gk_ret hT rfl rfl (.tmp rfl .nil) (fun w' hk => ?_)
        exact ⟨rfl, hk.toBelow⟩
      | true =>
        (repeat (refine gG ?_; try intro _))
        refine gk_again_sel rfl (i + 1) ⟨by omega, by omega, fun j j1 j2 j3 => by
          by_cases e : j = i
          · subst e; exact hxy.2 (tB_iff.1 k2)
          · exact hp j j1 (by omega) j3⟩ (by omega) (by repeat (first | exact trivial | refine ⟨rfl, ?_⟩)) sA sS
    -->round
  have hAL : Asc L := fun j j1 j2 => hp j j1 (by omega) j2
  have hAab : Asc (a ++ b) := hL ▸ hAL
  have hAa : Asc a := asc_left hAab
  have hAb : Asc b := asc_right hAab
  have hfa : Tr.fstK a = (⟨yv, yb, ys⟩ : KeyD) := by
    obtain ⟨y2, r, e1, e2⟩ := Tr.fstK_at (B := a) (by omega)
    rw [e1] at hy
    rw [e2, Option.some.inj hy]
  have hfb : Tr.fstK b = (⟨zv, zb, zs⟩ : KeyD) := by
    obtain ⟨y2, r, e1, e2⟩ := Tr.fstK_at (B := b) (by omega)
    rw [e1] at hz
    rw [e2, Option.some.inj hz]
  have hkyz : klt (⟨yv, yb, ys⟩ : KeyD) (⟨zv, zb, zs⟩ : KeyD) := by
    have h1 := asc_lt hAab (a.length - 1) 0 (by rw [List.length_append]; omega)
    rw [show 0 + (a.length - 1) + 1 = a.length by omega, getD_l a b _ 0 (by omega), getD_r a b _ a.length (Nat.le_refl _), Nat.sub_self, List.getD_eq_getElem?_getD, List.getD_eq_getElem?_getD, hy, hz] at h1
    exact h1
  have hby := (hab _ (List.mem_of_getElem? hy)).k
  have hbz := (hbb _ (List.mem_of_getElem? hz)).k
  have hbe : ∀ e ∈ [(⟨⟨yv, yb, ys⟩, 1⟩ : EntD), (⟨⟨zv, zb, zs⟩, 2⟩ : EntD)], e.Bd := fun e he => by
    rcases List.mem_cons.1 he with rfl | he
    · exact ⟨hby, by show (0 : Int) ≤ 1 ∧ (1 : Int) < 4294967296; decide⟩
    · obtain rfl := List.mem_singleton.1 he
      exact ⟨hbz, by show (0 : Int) ≤ 2 ∧ (2 : Int) < 4294967296; decide⟩
  have he0 : ∀ e ∈ [(⟨⟨yv, yb, ys⟩, 1⟩ : EntD), (⟨⟨zv, zb, zs⟩, 2⟩ : EntD)], e.a ≠ 0 := fun e he => by
    rcases List.mem_cons.1 he with rfl | he
    · show (1 : Int) ≠ 0; decide
    · obtain rfl := List.mem_singleton.1 he
      show (2 : Int) ≠ 0; decide
  have hcode0 : Ck.wrongP [a, b] [(⟨⟨yv, yb, ys⟩, 1⟩ : EntD).k, (⟨⟨zv, zb, zs⟩, 2⟩ : EntD).k] ((a.length : Int) + (b.length : Int)) = 0 := (two_code (e1 := (⟨⟨yv, yb, ys⟩, 1⟩ : EntD)) (e2 := (⟨⟨zv, zb, zs⟩, 2⟩ : EntD)) ⟨ga1, ga2⟩ gb2 hkyz hfa).2 ⟨gb1, hfb, hAab⟩
  clear hp hi1 hi2 h1 hAL hAab hfb hby hbz
  (repeat (refine gG ?_; try intro _))
  refine g_mv rfl ?_; refine mv_call_rt (fun w hk => made_any 9 w (by decide)) rfl rfl rfl rfl rfl (by kernel_rfl) (fun _ => rfl) (fun q hq => ?_)
  obtain ⟨g, sv, S, pa, D⟩ := q
  obtain ⟨hD, hSl, _, hSm⟩ := hq
  dsimp only at hD hSl hSm ⊢
  (repeat' (first | (refine gG ?_; try intro _) | ((first | refine g_split rfl rfl tE (fun _ => ?_) (fun _ => ?_) | refine gk_cond rfl rfl tE (fun _ => ?_) (fun _ => ?_)) <;> (try first | (exfalso; omega; done) | (rename_i hx; exact absurd rfl hx) | (rename_i hx; cases hx; done)))))
  rename_i pg
  --<writes
  refine gk_sel (f' := [(0, .slice (some ⟨ab, ao, none⟩) a.length ac), (1, .slice (some ⟨bb, bo, none⟩) b.length bc), (2, .slice xA X.length sc), (7, .slice lA L.length lc), (9, .pointer (some ⟨pg, 0, none⟩))]) (O' := [blk pg [.pointer (some ⟨g, 0, none⟩), .int .i64 ((4 : Nat) : Int)] 35, dkF g ⟨sv, .slice none 0 0, S, []⟩]) (R' := [sl (some ⟨ab, ao, none⟩) 4 EE a, sl (some ⟨bb, bo, none⟩) 4 EE b, sl xA 1 (IE .u8) X, sl lA 4 EE L]) (by repeat (first | exact trivial | refine ⟨rfl, ?_⟩)) sA sS ?_
  refine gk_any [0] (Cut _ (fun q : {q : Value × SecD // q.2.Ok ∧ q.2.L = Page.page 3 (nodeB a)} => [(0, .slice (some ⟨ab, ao, none⟩) a.length ac), (1, .slice (some ⟨bb, bo, none⟩) b.length bc), (2, .slice xA X.length sc), (7, .slice lA L.length lc), (9, .pointer (some ⟨pg, 0, none⟩))]) (fun q => [blk pg [.pointer (some ⟨g, 0, none⟩), .int .i64 ((4 : Nat) : Int)] 35, dkF g ⟨sv, q.1.1, S, [] ++ [(⟨1 + 4 + 1, q.1.2⟩ : WrD)]⟩]) (fun _ => [sl (some ⟨ab, ao, none⟩) 4 EE a, sl (some ⟨bb, bo, none⟩) 4 EE b, sl xA 1 (IE .u8) X, sl lA 4 EE L])) rfl rfl (by kernel_rfl) ?_ (cut_k fun q => ?_)
  · skip
    refine gb_take 0 rfl (by decide +kernel) rfl rfl (by first | exact ys_blk hT rfl rfl mE rfl rfl | exact ys_row hT rfl rfl mE rfl rfl | exact ys_row0 hT rfl rfl mE rfl rfl) sF ?_
    refine gb_take 1 rfl (by decide +kernel) rfl rfl (ys_ev (nw := true) hT rfl sI) sF ?_
    refine gb_only 2 (by decide +kernel) rfl rfl ?_
    (refine mv_call_ret (fun w hk => rput_leaf (some ⟨ab, ao, none⟩) a.length ac a w rfl (by omega) (by omega) hab (hk.pR (sl (some ⟨ab, ao, none⟩) 4 EE a) mE)) rfl rfl rfl rfl rfl (by kernel_rfl) (fun u hu => ?_); obtain ⟨uA, un, uc⟩ := u; obtain ⟨u1, u2, u3, u4⟩ := hu; dsimp only [SlV.v] at u1 ⊢)
    refine ⟨sF, ?_⟩
    refine gb_only 3 (by decide +kernel) rfl rfl ?_
    (refine mv_call_mod (φ := dkF g ⟨sv, .slice none 0 0, S, []⟩) (ψ := fun q : Value × SecD => dkF g ⟨sv, q.1, S, [] ++ [(⟨1 + 4 + 1, q.2⟩ : WrD)]⟩) (fun w1 hk => by exact pwrite_any g 4 sv (.slice none 0 0) S [] 1 uA un uc (Page.page 3 (nodeB a)) w1 hD (Nat.zero_le _) (by decide) (by decide) (by decide) (by omega) u1 (page_sec (.inl rfl) ga2) (hk.rO (φ := dkF g ⟨sv, .slice none 0 0, S, []⟩) mE) (hk.rO (φ := sl uA 1 (IE .u8) (Page.page 3 (nodeB a))) mE) (apart hk (φ := dkF g ⟨sv, .slice none 0 0, S, []⟩) (ψ := sl uA 1 (IE .u8) (Page.page 3 (nodeB a))) (.there (.there .here)) (.head _))) rfl rfl rfl rfl rfl (by kernel_rfl) (by intro _; first | ((repeat (first | with_reducible exact Upd.here _ | with_reducible apply Upd.there)); done) | ((repeat (first | exact Upd.here _ | apply Upd.there)); done) | fail) (fun q hq => ?_))
    refine ⟨sF, ?_⟩
    refine gb_nil (by decide +kernel) ?_
    exact ⟨⟨q, hq⟩, (by repeat (first | exact trivial | refine ⟨rfl, ?_⟩)), sA, sS⟩
  obtain ⟨⟨l1, d1⟩, hd1⟩ := q
  dsimp only at hd1 ⊢
  have hD1 : DkOk S ([] ++ [(⟨1 + 4 + 1, d1⟩ : WrD)]) := ok_w hD hd1.1 (by omega)
  refine gk_any [0] (Cut _ (fun q : {q : Value × SecD // q.2.Ok ∧ q.2.L = Page.page 3 (nodeB b)} => [(0, .slice (some ⟨ab, ao, none⟩) a.length ac), (1, .slice (some ⟨bb, bo, none⟩) b.length bc), (2, .slice xA X.length sc), (7, .slice lA L.length lc), (9, .pointer (some ⟨pg, 0, none⟩))]) (fun q => [blk pg [.pointer (some ⟨g, 0, none⟩), .int .i64 ((4 : Nat) : Int)] 35, dkF g ⟨sv, q.1.1, S, [] ++ [(⟨1 + 4 + 1, d1⟩ : WrD)] ++ [(⟨2 + 4 + 1, q.1.2⟩ : WrD)]⟩]) (fun _ => [sl (some ⟨ab, ao, none⟩) 4 EE a, sl (some ⟨bb, bo, none⟩) 4 EE b, sl xA 1 (IE .u8) X, sl lA 4 EE L])) rfl rfl (by kernel_rfl) ?_ (cut_k fun q => ?_)
  · skip
    refine gb_take 0 rfl (by decide +kernel) rfl rfl (by first | exact ys_blk hT rfl rfl mE rfl rfl | exact ys_row hT rfl rfl mE rfl rfl | exact ys_row0 hT rfl rfl mE rfl rfl) sF ?_
    refine gb_take 1 rfl (by decide +kernel) rfl rfl (ys_ev (nw := true) hT rfl sI) sF ?_
    refine gb_only 2 (by decide +kernel) rfl rfl ?_
    (refine mv_call_ret (fun w hk => rput_leaf (some ⟨bb, bo, none⟩) b.length bc b w rfl (by omega) (by omega) hbb (hk.pR (sl (some ⟨bb, bo, none⟩) 4 EE b) mE)) rfl rfl rfl rfl rfl (by kernel_rfl) (fun u hu => ?_); obtain ⟨uA, un, uc⟩ := u; obtain ⟨u1, u2, u3, u4⟩ := hu; dsimp only [SlV.v] at u1 ⊢)
    refine ⟨sF, ?_⟩
    refine gb_only 3 (by decide +kernel) rfl rfl ?_
    (refine mv_call_mod (φ := dkF g ⟨sv, l1, S, [] ++ [(⟨1 + 4 + 1, d1⟩ : WrD)]⟩) (ψ := fun q : Value × SecD => dkF g ⟨sv, q.1, S, [] ++ [(⟨1 + 4 + 1, d1⟩ : WrD)] ++ [(⟨2 + 4 + 1, q.2⟩ : WrD)]⟩) (fun w1 hk => by exact pwrite_any g 4 sv l1 S ([] ++ [(⟨1 + 4 + 1, d1⟩ : WrD)]) 2 uA un uc (Page.page 3 (nodeB b)) w1 hD1 (by simp) (by decide) (by decide) (by decide) (by omega) u1 (page_sec (.inl rfl) gb2) (hk.rO (φ := dkF g ⟨sv, l1, S, [] ++ [(⟨1 + 4 + 1, d1⟩ : WrD)]⟩) mE) (hk.rO (φ := sl uA 1 (IE .u8) (Page.page 3 (nodeB b))) mE) (apart hk (φ := dkF g ⟨sv, l1, S, [] ++ [(⟨1 + 4 + 1, d1⟩ : WrD)]⟩) (ψ := sl uA 1 (IE .u8) (Page.page 3 (nodeB b))) (.there (.there .here)) (.head _))) rfl rfl rfl rfl rfl (by kernel_rfl) (by intro _; first | ((repeat (first | with_reducible exact Upd.here _ | with_reducible apply Upd.there)); done) | ((repeat (first | exact Upd.here _ | apply Upd.there)); done) | fail) (fun q hq => ?_))
    refine ⟨sF, ?_⟩
    refine gb_nil (by decide +kernel) ?_
    exact ⟨⟨q, hq⟩, (by repeat (first | exact trivial | refine ⟨rfl, ?_⟩)), sA, sS⟩
  obtain ⟨⟨l2, d2⟩, hd2⟩ := q
  dsimp only at hd2 ⊢
  have hD2 : DkOk S ([] ++ [(⟨1 + 4 + 1, d1⟩ : WrD)] ++ [(⟨2 + 4 + 1, d2⟩ : WrD)]) := ok_w hD1 hd2.1 (by omega)
  refine gk_any [0, 2, 3] (Cut _ (fun q : {q : Value × SecD // q.2.Ok ∧ q.2.L = Page.page 4 (nodeB [(⟨⟨yv, yb, ys⟩, 1⟩ : EntD), (⟨⟨zv, zb, zs⟩, 2⟩ : EntD)])} => [(0, .slice (some ⟨ab, ao, none⟩) a.length ac), (1, .slice (some ⟨bb, bo, none⟩) b.length bc), (2, .slice xA X.length sc), (7, .slice lA L.length lc), (9, .pointer (some ⟨pg, 0, none⟩))]) (fun q => [blk pg [.pointer (some ⟨g, 0, none⟩), .int .i64 ((4 : Nat) : Int)] 35, dkF g ⟨sv, q.1.1, S, [] ++ [(⟨1 + 4 + 1, d1⟩ : WrD)] ++ [(⟨2 + 4 + 1, d2⟩ : WrD)] ++ [(⟨3 + 4 + 1, q.1.2⟩ : WrD)]⟩]) (fun _ => [sl (some ⟨ab, ao, none⟩) 4 EE a, sl (some ⟨bb, bo, none⟩) 4 EE b, sl xA 1 (IE .u8) X, sl lA 4 EE L])) rfl rfl (by kernel_rfl) ?_ (cut_k fun q => ?_)
  · skip
    refine gb_take 0 rfl (by decide +kernel) rfl rfl (by first | exact ys_blk hT rfl rfl mE rfl rfl | exact ys_row hT rfl rfl mE rfl rfl | exact ys_row0 hT rfl rfl mE rfl rfl) sF ?_
    refine gb_take 1 rfl (by decide +kernel) rfl rfl (ys_ev (nw := true) hT rfl sI) sF ?_
    refine gb_take 2 rfl (by decide +kernel) rfl rfl (ys_ev (nw := true) hT rfl sI) sF ?_
    refine gb_take 3 rfl (by decide +kernel) rfl rfl (ys_ev (nw := true) hT rfl sI) sF ?_
    refine gb_take 4 rfl (by decide +kernel) rfl rfl (ys_load_el (o0 := ao) (sz := 4) (enc := EE) (L := a) hT 0 _ 0 rfl rfl rfl (by omega) hy (at_sl mE) rfl rfl) sF ?_
    refine gb_take 5 rfl (by decide +kernel) rfl rfl (ys_ev (nw := true) hT rfl sI) sF ?_
    refine gb_take 6 rfl (by decide +kernel) rfl rfl (ys_ev (nw := true) hT rfl sI) sF ?_
    refine gb_take 7 rfl (by decide +kernel) rfl rfl (ys_ev (nw := true) hT rfl sI) sF ?_
    refine gb_take 8 rfl (by decide +kernel) rfl rfl (ys_ev (nw := true) hT rfl sI) sF ?_
    refine gb_take 9 rfl (by decide +kernel) rfl rfl (ys_load_el (o0 := bo) (sz := 4) (enc := EE) (L := b) hT 0 _ 0 rfl rfl rfl (by omega) hz (at_sl mE) rfl rfl) sF ?_
    refine gb_take 10 rfl (by decide +kernel) rfl rfl (ys_ev (nw := true) hT rfl sI) sF ?_
    refine gb_only 11 (by decide +kernel) rfl rfl ?_
    (refine mv_buildSlice (len := 2) rfl hT rfl rfl rfl rfl rfl rfl rfl rfl ?_; intro g6)
    refine ⟨sF, ?_⟩
    refine gb_only 12 (by decide +kernel) rfl rfl ?_
    (refine mv_call_ret (fun w hk => rput_inner (some ⟨g6, 0, none⟩) 2 2 [(⟨⟨yv, yb, ys⟩, 1⟩ : EntD), (⟨⟨zv, zb, zs⟩, 2⟩ : EntD)] w rfl (by decide) (by decide) hbe (sl_of_blk (hk.pO (blk g6 [.int .u16 yv, .int .u32 yb, .int .u64 ys, .int .u32 1, .int .u16 zv, .int .u32 zb, .int .u64 zs, .int .u32 2] 31) mE) rfl)) rfl rfl rfl rfl rfl (by kernel_rfl) (fun u hu => ?_); obtain ⟨uA, un, uc⟩ := u; obtain ⟨u1, u2, u3, u4⟩ := hu; dsimp only [SlV.v] at u1 ⊢)
    refine ⟨sF, ?_⟩
    refine gb_only 13 (by decide +kernel) rfl rfl ?_
    (refine mv_call_mod (φ := dkF g ⟨sv, l2, S, [] ++ [(⟨1 + 4 + 1, d1⟩ : WrD)] ++ [(⟨2 + 4 + 1, d2⟩ : WrD)]⟩) (ψ := fun q : Value × SecD => dkF g ⟨sv, q.1, S, [] ++ [(⟨1 + 4 + 1, d1⟩ : WrD)] ++ [(⟨2 + 4 + 1, d2⟩ : WrD)] ++ [(⟨3 + 4 + 1, q.2⟩ : WrD)]⟩) (fun w1 hk => by exact pwrite_any g 4 sv l2 S ([] ++ [(⟨1 + 4 + 1, d1⟩ : WrD)] ++ [(⟨2 + 4 + 1, d2⟩ : WrD)]) 3 uA un uc (Page.page 4 (nodeB [(⟨⟨yv, yb, ys⟩, 1⟩ : EntD), (⟨⟨zv, zb, zs⟩, 2⟩ : EntD)])) w1 hD2 (by simp) (by decide) (by decide) (by decide) (by omega) u1 (page_sec (.inr rfl) (by simp)) (hk.rO (φ := dkF g ⟨sv, l2, S, [] ++ [(⟨1 + 4 + 1, d1⟩ : WrD)] ++ [(⟨2 + 4 + 1, d2⟩ : WrD)]⟩) mE) (hk.rO (φ := sl uA 1 (IE .u8) (Page.page 4 (nodeB [(⟨⟨yv, yb, ys⟩, 1⟩ : EntD), (⟨⟨zv, zb, zs⟩, 2⟩ : EntD)]))) mE) (apart hk (φ := dkF g ⟨sv, l2, S, [] ++ [(⟨1 + 4 + 1, d1⟩ : WrD)] ++ [(⟨2 + 4 + 1, d2⟩ : WrD)]⟩) (ψ := sl uA 1 (IE .u8) (Page.page 4 (nodeB [(⟨⟨yv, yb, ys⟩, 1⟩ : EntD), (⟨⟨zv, zb, zs⟩, 2⟩ : EntD)]))) (.there (.there (.there .here))) (.head _))) rfl rfl rfl rfl rfl (by kernel_rfl) (by intro _; first | ((repeat (first | with_reducible exact Upd.here _ | with_reducible apply Upd.there)); done) | ((repeat (first | exact Upd.here _ | apply Upd.there)); done) | fail) (fun q hq => ?_))
    refine ⟨sF, ?_⟩
    refine gb_nil (by decide +kernel) ?_
    exact ⟨⟨q, hq⟩, (by repeat (first | exact trivial | refine ⟨rfl, ?_⟩)), sA, sS⟩
  obtain ⟨⟨l3, d3⟩, hd3⟩ := q
  dsimp only at hd3 ⊢
  have h3 : D3 S ([] ++ [(⟨1 + 4 + 1, d1⟩ : WrD)] ++ [(⟨2 + 4 + 1, d2⟩ : WrD)] ++ [(⟨3 + 4 + 1, d3⟩ : WrD)]) a b (⟨⟨yv, yb, ys⟩, 1⟩ : EntD) (⟨⟨zv, zb, zs⟩, 2⟩ : EntD) := d3_of hD hSl hSm hd1 hd2 hd3 ⟨by omega, ga2⟩ ⟨by omega, gb2⟩ hab hbb hAa hAb hbe hkyz he0
  --<load1
  (repeat (refine gG ?_; try intro _))
  refine g_mv rfl ?_; refine mv_call_rt (fun w hk => load_good g sv l3 S ([] ++ [(⟨1 + 4 + 1, d1⟩ : WrD)] ++ [(⟨2 + 4 + 1, d2⟩ : WrD)] ++ [(⟨3 + 4 + 1, d3⟩ : WrD)]) w (⟨⟨yv, yb, ys⟩, 1⟩ : EntD) (⟨⟨zv, zb, zs⟩, 2⟩ : EntD) a b h3.D (by simp) hSl h3.P3 h3.P1 h3.P2 rfl rfl ga2 gb2 (fun e he => (hab e he).k) (fun e he => (hbb e he).k) hcode0 (hk.rO (φ := dkF g ⟨sv, l3, S, [] ++ [(⟨1 + 4 + 1, d1⟩ : WrD)] ++ [(⟨2 + 4 + 1, d2⟩ : WrD)] ++ [(⟨3 + 4 + 1, d3⟩ : WrD)]⟩) mE)) rfl rfl rfl rfl rfl (by kernel_rfl) (fun _ => rfl) (fun q hq => ?_)
  obtain ⟨t1, rv1, A3, c3⟩ := q
  obtain ⟨⟨r1, hr1⟩, hq1, hq2, hq3, hq4⟩ := hq
  dsimp only at hr1 hq1 hq2 hq3 hq4 ⊢
  subst hr1
  (repeat' (first | (refine gG ?_; try intro _) | ((first | refine g_split rfl rfl tE (fun _ => ?_) (fun _ => ?_) | refine gk_cond rfl rfl tE (fun _ => ?_) (fun _ => ?_)) <;> (try first | (exfalso; omega; done) | (rename_i hx; exact absurd rfl hx) | (rename_i hx; cases hx; done)))))
  rename_i g7
  refine g_mv rfl ?_; refine mv_call_bel (fun w hk => calls_b (tB_true rfl) (equal_U A3 (some ⟨g7, 0, none⟩) 3 c3 3 3 [1, 2, 3] [1, 2, 3] w rfl rfl (by decide) (hk.pO (sl A3 1 (IE .u32) [((1 : Nat) : Int), ((2 : Nat) : Int), ((3 : Nat) : Int)]) mE) (sl_of_blk (hk.pO (blk g7 [.int .u32 1, .int .u32 2, .int .u32 3] 26) mE) rfl))) rfl rfl rfl rfl rfl (by kernel_rfl) ?_
  (repeat' (first | (refine gG ?_; try intro _) | ((first | refine g_split rfl rfl tE (fun _ => ?_) (fun _ => ?_) | refine gk_cond rfl rfl tE (fun _ => ?_) (fun _ => ?_)) <;> (try first | (exfalso; omega; done) | (rename_i hx; exact absurd rfl hx) | (rename_i hx; cases hx; done)))))
  refine g_mv rfl ?_; refine mv_call_bel (fun w hk => tlen_any t1 (.pointer r1) ((a.length : Int) + (b.length : Int)) w (hk.rO (φ := blk t1 [.pointer r1, .int .i64 ((a.length : Int) + (b.length : Int))] 55) mE)) rfl rfl rfl rfl rfl (by kernel_rfl) ?_
  (repeat' (first | (refine gG ?_; try intro _) | ((first | refine g_split rfl rfl tE (fun _ => ?_) (fun _ => ?_) | refine gk_cond rfl rfl tE (fun _ => ?_) (fun _ => ?_)) <;> (try first | (exfalso; omega; done) | (rename_i hx; exact absurd rfl hx) | (rename_i hx; cases hx; done)))))
  by_cases h128 : X.length ≠ 128
  · --<size
    refine g_mv rfl ?_; refine mv_call_bel (fun w hk => pwrite_err g sv l3 S ([] ++ [(⟨1 + 4 + 1, d1⟩ : WrD)] ++ [(⟨2 + 4 + 1, d2⟩ : WrD)] ++ [(⟨3 + 4 + 1, d3⟩ : WrD)]) 2 xA X.length sc 12 w (by decide) (by decide) (fun w h => dwrite_size g sv l3 S ([] ++ [(⟨1 + 4 + 1, d1⟩ : WrD)] ++ [(⟨2 + 4 + 1, d2⟩ : WrD)] ++ [(⟨3 + 4 + 1, d3⟩ : WrD)]) (2 + 4 + 1) xA X.length sc w (by omega) (by omega) h128 h) (hk.rO (φ := dkF g ⟨sv, l3, S, [] ++ [(⟨1 + 4 + 1, d1⟩ : WrD)] ++ [(⟨2 + 4 + 1, d2⟩ : WrD)] ++ [(⟨3 + 4 + 1, d3⟩ : WrD)]⟩) mE)) rfl rfl rfl rfl rfl (by kernel_rfl) ?_
    (repeat' (first | (refine gG ?_; try intro _) | (refine g_mv rfl ?_; first | refine mv_call_bel (fun w hk => alive36 w) rfl rfl rfl rfl rfl (by kernel_rfl) ?_) | ((first | refine g_split rfl rfl tE (fun _ => ?_) (fun _ => ?_) | refine gk_cond rfl rfl tE (fun _ => ?_) (fun _ => ?_)) <;> (try first | (exfalso; omega; done) | (rename_i hx; exact absurd rfl hx) | (rename_i hx; cases hx; done)))))
    all_goals (refine gk_ret hT rfl rfl (.tmp rfl .nil) (fun w' hk => ?_); exact ⟨rfl, hk.toBelow⟩)
    -->size
  have h128 : X.length = 128 := Decidable.not_not.1 h128
  have hXo : SecOk X := ⟨h128, hX⟩
  refine g_mv rfl (mv_call_mod (φ := dkF g ⟨sv, l3, S, [] ++ [(⟨1 + 4 + 1, d1⟩ : WrD)] ++ [(⟨2 + 4 + 1, d2⟩ : WrD)] ++ [(⟨3 + 4 + 1, d3⟩ : WrD)]⟩) (ψ := fun q : Value × SecD => dkF g ⟨sv, q.1, S, [] ++ [(⟨1 + 4 + 1, d1⟩ : WrD)] ++ [(⟨2 + 4 + 1, d2⟩ : WrD)] ++ [(⟨3 + 4 + 1, d3⟩ : WrD)] ++ [(⟨2 + 4 + 1, q.2⟩ : WrD)]⟩) (fun w1 hk => by exact pwrite_any g 4 sv l3 S ([] ++ [(⟨1 + 4 + 1, d1⟩ : WrD)] ++ [(⟨2 + 4 + 1, d2⟩ : WrD)] ++ [(⟨3 + 4 + 1, d3⟩ : WrD)]) 2 xA X.length sc X w1 h3.D (by simp) (by decide) (by decide) (by decide) (by omega) rfl hXo (hk.rO (φ := dkF g ⟨sv, l3, S, [] ++ [(⟨1 + 4 + 1, d1⟩ : WrD)] ++ [(⟨2 + 4 + 1, d2⟩ : WrD)] ++ [(⟨3 + 4 + 1, d3⟩ : WrD)]⟩) mE) (hk.rR (φ := sl xA 1 (IE .u8) X) mE) (fun b hb => hk.disR (dkF g ⟨sv, l3, S, [] ++ [(⟨1 + 4 + 1, d1⟩ : WrD)] ++ [(⟨2 + 4 + 1, d2⟩ : WrD)] ++ [(⟨3 + 4 + 1, d3⟩ : WrD)]⟩) mE (sl xA 1 (IE .u8) X) mE b hb)) rfl rfl rfl rfl rfl (by kernel_rfl) (by intro _; first | ((repeat (first | with_reducible exact Upd.here _ | with_reducible apply Upd.there)); done) | ((repeat (first | exact Upd.here _ | apply Upd.there)); done) | fail) (fun q hq => ?_))
  obtain ⟨l4, d4⟩ := q
  dsimp only at hq ⊢
  have h4 : D4 S ([] ++ [(⟨1 + 4 + 1, d1⟩ : WrD)] ++ [(⟨2 + 4 + 1, d2⟩ : WrD)] ++ [(⟨3 + 4 + 1, d3⟩ : WrD)] ++ [(⟨2 + 4 + 1, d4⟩ : WrD)]) a X (⟨⟨yv, yb, ys⟩, 1⟩ : EntD) (⟨⟨zv, zb, zs⟩, 2⟩ : EntD) := d4_of h3 hSl hq
  have hrg := fun w h => rnget_any xA X.length sc X w ⟨rfl, hs2, hs3, hs4⟩ h hX
  (repeat' (first | (refine gG ?_; try intro _) | ((first | refine g_split rfl rfl tE (fun _ => ?_) (fun _ => ?_) | refine gk_cond rfl rfl tE (fun _ => ?_) (fun _ => ?_)) <;> (try first | (exfalso; omega; done) | (rename_i hx; exact absurd rfl hx) | (rename_i hx; cases hx; done)))))
  clear hd1 hd2 hd3 hcode0 hbe he0 h3 hq1 hq2 hq3 hq4
  refine g_wk (f' := [(0, .slice (some ⟨ab, ao, none⟩) a.length ac), (1, .slice (some ⟨bb, bo, none⟩) b.length bc), (2, .slice xA X.length sc), (130, .agg #[.pointer (some ⟨g, 0, none⟩), .int .i64 ((4 : Nat) : Int)])]) (O' := [blk pg [.pointer (some ⟨g, 0, none⟩), .int .i64 ((4 : Nat) : Int)] 35, dkF g ⟨sv, l4, S, [] ++ [(⟨1 + 4 + 1, d1⟩ : WrD)] ++ [(⟨2 + 4 + 1, d2⟩ : WrD)] ++ [(⟨3 + 4 + 1, d3⟩ : WrD)] ++ [(⟨2 + 4 + 1, d4⟩ : WrD)]⟩]) (R' := [sl (some ⟨ab, ao, none⟩) 4 EE a, sl (some ⟨bb, bo, none⟩) 4 EE b, sl xA 1 (IE .u8) X]) (by repeat (first | exact trivial | refine ⟨rfl, ?_⟩)) sA sS ?_
  by_cases hlf : ncode X = 0 ∧ (Page.getS X).1 = 3
  case neg =>
    --<bad
    obtain ⟨er, k1, k2, k3⟩ := load_spoil g sv l4 S ([] ++ [(⟨1 + 4 + 1, d1⟩ : WrD)] ++ [(⟨2 + 4 + 1, d2⟩ : WrD)] ++ [(⟨3 + 4 + 1, d3⟩ : WrD)] ++ [(⟨2 + 4 + 1, d4⟩ : WrD)]) (⟨⟨yv, yb, ys⟩, 1⟩ : EntD) (⟨⟨zv, zb, zs⟩, 2⟩ : EntD) a h4.D (by simp) hSl h4.P3 h4.P1 rfl rfl (by rw [h4.X]; exact hXo) h4.z (by rw [h4.X]; exact hlf)
    rw [h4.X] at k2
    refine g_mv rfl ?_; refine mv_call_bel (fun w hk => k3 w (hk.rO (φ := dkF g ⟨sv, l4, S, [] ++ [(⟨1 + 4 + 1, d1⟩ : WrD)] ++ [(⟨2 + 4 + 1, d2⟩ : WrD)] ++ [(⟨3 + 4 + 1, d3⟩ : WrD)] ++ [(⟨2 + 4 + 1, d4⟩ : WrD)]⟩) mE)) rfl rfl rfl rfl rfl (by kernel_rfl) ?_
    (repeat (refine gG ?_; try intro _))
    refine g_mv rfl ?_; refine mv_call_rt (fun w hk => hrg w (hk.pR (sl xA 1 (IE .u8) X) mE)) rfl rfl rfl rfl rfl (by kernel_rfl) (fun _ => rfl) (fun rr hr => ?_)
    obtain ⟨⟨⟨rA, rn, rc⟩, RM⟩, rl, re⟩ := rr
    obtain ⟨r1, r2, r3, r4⟩ := hr
    obtain ⟨r5, r6, r7, r8⟩ := r1
    dsimp only [SlV.v] at r2 r3 r4 r5 r6 r7 r8 ⊢
    subst r5
    have hRM6 : RM.length ≤ 6 := by
      rw [r3]
      by_cases h0 : ncode X = 0
      · rw [if_pos h0, decN_len]; unfold nB; omega
      · rw [if_neg h0]; exact Nat.zero_le _
    refine g_share (φ := sl rA 4 EE RM) (by repeat (first | with_reducible exact Sel.here | with_reducible apply Sel.there)) ?_
    (repeat (refine gG ?_; try intro _))
    refine g_mv rfl ?_; refine mv_call_rt (fun w hk => cloneEs_own (some ⟨ab, ao, none⟩) a.length ac a w rfl (by omega) (hk.pR (sl (some ⟨ab, ao, none⟩) 4 EE a) mE)) rfl rfl rfl rfl rfl (by kernel_rfl) (fun _ => rfl) (fun v3 _ => ?_)
    (repeat (refine gG ?_; try intro _))
    refine g_mv rfl (mv_append (L := a) rfl RM rfl rfl rfl rfl Nd.elt_E (by intro _; first | ((repeat (first | with_reducible exact Upd.here _ | with_reducible apply Upd.there)); done) | ((repeat (first | exact Upd.here _ | apply Upd.there)); done) | fail) (src_R mE) rfl (by intro x j; match j with | 0 => rfl | 1 => rfl | 2 => rfl | _ + 3 => rfl) (by simp [maxLen]; omega) (by omega) (Nat.zero_le _) (fun v4 => ?_))
    refine g_freeze v4 (by intro _; first | ((repeat (first | with_reducible exact Upd.here _ | with_reducible apply Upd.there)); done) | ((repeat (first | exact Upd.here _ | apply Upd.there)); done) | fail) (fun wA wc hv4 hw2 hw3 _ => ?_)
    subst hv4
    obtain ⟨Wh, hWh⟩ : ∃ Wh, Wh = a ++ RM := ⟨_, rfl⟩
    have hWl : Wh.length = a.length + RM.length := by rw [hWh, List.length_append]
    rw [← hWh] at hw2 ⊢
    refine g_share (φ := sl wA 4 EE Wh) (by repeat (first | with_reducible exact Sel.here | with_reducible apply Sel.there)) ?_
    (repeat (refine gG ?_; try intro _))
    by_cases h0 : ncode X = 0
    · --<kind
      have hre : re = 0 := r2.trans h0
      have hrl : rl = false := by rw [r4, if_pos h0]; exact tB_false fun h => hlf ⟨h0, h⟩
      refine gk_sel (f' := [(0, .slice (some ⟨ab, ao, none⟩) a.length ac), (1, .slice (some ⟨bb, bo, none⟩) b.length bc), (2, .slice xA X.length sc), (15, .pointer none), (16, .slice none 0 0), (17, .int .i64 er), (18, .slice rA RM.length rc), (19, .bool rl), (20, .int .i64 re), (21, .slice wA Wh.length wc)]) (O' := []) (R' := []) (by repeat (first | exact trivial | refine ⟨rfl, ?_⟩)) sA sS ?_
      refine gk_any [] (Cut _ (fun _ : Unit => [(0, .slice (some ⟨ab, ao, none⟩) a.length ac), (1, .slice (some ⟨bb, bo, none⟩) b.length bc), (2, .slice xA X.length sc), (15, .pointer none), (16, .slice none 0 0), (17, .int .i64 er), (20, .int .i64 re), (21, .slice wA Wh.length wc), (22, .bool false)]) (fun _ => []) (fun _ => [])) rfl rfl (by kernel_rfl) ?_ (cut_k fun _ => ?_)
      · skip
        refine gb_take 0 rfl (by decide +kernel) rfl rfl (ys_ev (nw := true) hT rfl sI) sF ?_
        refine gb_take 1 rfl (by decide +kernel) rfl rfl (ys_ev (nw := true) hT rfl sI) sF ?_
        try (refine gb_say 146 (.bool true) rfl (congrArg Value.bool (tB_true hre)) ?_)
        refine gb_take 2 rfl (by decide +kernel) rfl rfl (ys_ev (nw := true) hT rfl sI) sF ?_
        first | refine gb_take 3 rfl (by decide +kernel) rfl rfl (ys_ev (nw := true) hT rfl sI) sF ?_ | refine gb_skip 3 rfl (by decide +kernel) rfl rfl sF ?_
        try (refine gb_say 148 (.bool false) rfl (congrArg Value.bool hrl) ?_)
        refine gb_take 4 rfl (by decide +kernel) rfl rfl (ys_ev (nw := true) hT rfl sI) sF ?_
        refine gb_take 5 rfl (by decide +kernel) rfl rfl (ys_ev (nw := true) hT rfl sI) sF ?_
        first | refine gb_take 6 rfl (by decide +kernel) rfl rfl (ys_ev (nw := true) hT rfl sI) sF ?_ | refine gb_skip 6 rfl (by decide +kernel) rfl rfl sF ?_
        first | refine gb_take 7 rfl (by decide +kernel) rfl rfl (ys_ev (nw := true) hT rfl sI) sF ?_ | refine gb_skip 7 rfl (by decide +kernel) rfl rfl sF ?_
        first | refine gb_take 8 rfl (by decide +kernel) rfl rfl (ys_ev (nw := true) hT rfl sI) sF ?_ | refine gb_skip 8 rfl (by decide +kernel) rfl rfl sF ?_
        refine gb_take 9 rfl (by decide +kernel) rfl rfl (ys_ev (nw := true) hT rfl sI) sF ?_
        refine gb_take 10 rfl (by decide +kernel) rfl rfl (ys_ev (nw := true) hT rfl sI) sF ?_
        first | refine gb_take 11 rfl (by decide +kernel) rfl rfl (ys_ev (nw := true) hT rfl sI) sF ?_ | refine gb_skip 11 rfl (by decide +kernel) rfl rfl sF ?_
        first | refine gb_take 12 rfl (by decide +kernel) rfl rfl (ys_ev (nw := true) hT rfl sI) sF ?_ | refine gb_skip 12 rfl (by decide +kernel) rfl rfl sF ?_
        first | refine gb_take 13 rfl (by decide +kernel) rfl rfl (ys_ev (nw := true) hT rfl sI) sF ?_ | refine gb_skip 13 rfl (by decide +kernel) rfl rfl sF ?_
        first | refine gb_take 14 rfl (by decide +kernel) rfl rfl (by first | exact ys_blk hT rfl rfl mE rfl rfl | exact ys_row hT rfl rfl mE rfl rfl | exact ys_row0 hT rfl rfl mE rfl rfl) sF ?_ | refine gb_skip 14 rfl (by decide +kernel) rfl rfl sF ?_
        first | refine gb_take 15 rfl (by decide +kernel) rfl rfl (ys_ev (nw := true) hT rfl sI) sF ?_ | refine gb_skip 15 rfl (by decide +kernel) rfl rfl sF ?_
        first | refine gb_take 16 rfl (by decide +kernel) rfl rfl (ys_ev (nw := true) hT rfl sI) sF ?_ | refine gb_skip 16 rfl (by decide +kernel) rfl rfl sF ?_
        first | refine gb_take 17 rfl (by decide +kernel) rfl rfl (ys_ev (nw := true) hT rfl sI) sF ?_ | refine gb_skip 17 rfl (by decide +kernel) rfl rfl sF ?_
        first | refine gb_take 18 rfl (by decide +kernel) rfl rfl (by first | exact ys_blk hT rfl rfl mE rfl rfl | exact ys_row hT rfl rfl mE rfl rfl | exact ys_row0 hT rfl rfl mE rfl rfl) sF ?_ | refine gb_skip 18 rfl (by decide +kernel) rfl rfl sF ?_
        first | refine gb_take 19 rfl (by decide +kernel) rfl rfl (ys_ev (nw := true) hT rfl sI) sF ?_ | refine gb_skip 19 rfl (by decide +kernel) rfl rfl sF ?_
        refine gb_take 20 rfl (by decide +kernel) rfl rfl (ys_ev (nw := true) hT rfl sI) sF ?_
        refine gb_take 21 rfl (by decide +kernel) rfl rfl (ys_ev (nw := true) hT rfl sI) sF ?_
        refine gb_nil (by decide +kernel) ?_
        exact ⟨(), (by repeat (first | exact trivial | refine ⟨rfl, ?_⟩)), sA, sS⟩
      · (repeat (refine gG ?_; try intro _))
        refine gk_rounds 1 rfl ?_
        (repeat' (first | (refine gG ?_; try intro _) | (refine g_mv rfl ?_; first | refine mv_call_bel (fun w hk => alive36 w) rfl rfl rfl rfl rfl (by kernel_rfl) ?_) | ((first | refine g_split rfl rfl tE (fun _ => ?_) (fun _ => ?_) | refine gk_cond rfl rfl tE (fun _ => ?_) (fun _ => ?_)) <;> (try first | (exfalso; omega; done) | (rename_i hx; exact absurd rfl hx) | (rename_i hx; cases hx; done)))))
        all_goals (refine gk_ret hT rfl rfl (.tmp rfl .nil) (fun w' hk => ?_); exact ⟨ret_bool (by simp [tB_eq] <;> omega), hk.toBelow⟩)
      -->kind
    · --<code
      have hre : re ≠ 0 := fun h => h0 (r2 ▸ h)
      have her : er = re := (k2 h0).trans r2.symm
      refine gk_sel (f' := [(0, .slice (some ⟨ab, ao, none⟩) a.length ac), (1, .slice (some ⟨bb, bo, none⟩) b.length bc), (2, .slice xA X.length sc), (15, .pointer none), (16, .slice none 0 0), (17, .int .i64 er), (18, .slice rA RM.length rc), (19, .bool rl), (20, .int .i64 re), (21, .slice wA Wh.length wc)]) (O' := []) (R' := []) (by repeat (first | exact trivial | refine ⟨rfl, ?_⟩)) sA sS ?_
      refine gk_any [] (Cut _ (fun _ : Unit => [(0, .slice (some ⟨ab, ao, none⟩) a.length ac), (1, .slice (some ⟨bb, bo, none⟩) b.length bc), (2, .slice xA X.length sc), (15, .pointer none), (16, .slice none 0 0), (17, .int .i64 er), (20, .int .i64 re), (21, .slice wA Wh.length wc), (22, .bool false)]) (fun _ => []) (fun _ => [])) rfl rfl (by kernel_rfl) ?_ (cut_k fun _ => ?_)
      · skip
        refine gb_take 0 rfl (by decide +kernel) rfl rfl (ys_ev (nw := true) hT rfl sI) sF ?_
        refine gb_take 1 rfl (by decide +kernel) rfl rfl (ys_ev (nw := true) hT rfl sI) sF ?_
        try (refine gb_say 146 (.bool false) rfl (congrArg Value.bool (tB_false hre)) ?_)
        refine gb_take 2 rfl (by decide +kernel) rfl rfl (ys_ev (nw := true) hT rfl sI) sF ?_
        first | refine gb_take 3 rfl (by decide +kernel) rfl rfl (ys_ev (nw := true) hT rfl sI) sF ?_ | refine gb_skip 3 rfl (by decide +kernel) rfl rfl sF ?_
        refine gb_take 4 rfl (by decide +kernel) rfl rfl (ys_ev (nw := true) hT rfl sI) sF ?_
        refine gb_take 5 rfl (by decide +kernel) rfl rfl (ys_ev (nw := true) hT rfl sI) sF ?_
        first | refine gb_take 6 rfl (by decide +kernel) rfl rfl (ys_ev (nw := true) hT rfl sI) sF ?_ | refine gb_skip 6 rfl (by decide +kernel) rfl rfl sF ?_
        first | refine gb_take 7 rfl (by decide +kernel) rfl rfl (ys_ev (nw := true) hT rfl sI) sF ?_ | refine gb_skip 7 rfl (by decide +kernel) rfl rfl sF ?_
        first | refine gb_take 8 rfl (by decide +kernel) rfl rfl (ys_ev (nw := true) hT rfl sI) sF ?_ | refine gb_skip 8 rfl (by decide +kernel) rfl rfl sF ?_
        refine gb_take 9 rfl (by decide +kernel) rfl rfl (ys_ev (nw := true) hT rfl sI) sF ?_
        refine gb_take 10 rfl (by decide +kernel) rfl rfl (ys_ev (nw := true) hT rfl sI) sF ?_
        first | refine gb_take 11 rfl (by decide +kernel) rfl rfl (ys_ev (nw := true) hT rfl sI) sF ?_ | refine gb_skip 11 rfl (by decide +kernel) rfl rfl sF ?_
        first | refine gb_take 12 rfl (by decide +kernel) rfl rfl (ys_ev (nw := true) hT rfl sI) sF ?_ | refine gb_skip 12 rfl (by decide +kernel) rfl rfl sF ?_
        first | refine gb_take 13 rfl (by decide +kernel) rfl rfl (ys_ev (nw := true) hT rfl sI) sF ?_ | refine gb_skip 13 rfl (by decide +kernel) rfl rfl sF ?_
        first | refine gb_take 14 rfl (by decide +kernel) rfl rfl (by first | exact ys_blk hT rfl rfl mE rfl rfl | exact ys_row hT rfl rfl mE rfl rfl | exact ys_row0 hT rfl rfl mE rfl rfl) sF ?_ | refine gb_skip 14 rfl (by decide +kernel) rfl rfl sF ?_
        first | refine gb_take 15 rfl (by decide +kernel) rfl rfl (ys_ev (nw := true) hT rfl sI) sF ?_ | refine gb_skip 15 rfl (by decide +kernel) rfl rfl sF ?_
        first | refine gb_take 16 rfl (by decide +kernel) rfl rfl (ys_ev (nw := true) hT rfl sI) sF ?_ | refine gb_skip 16 rfl (by decide +kernel) rfl rfl sF ?_
        first | refine gb_take 17 rfl (by decide +kernel) rfl rfl (ys_ev (nw := true) hT rfl sI) sF ?_ | refine gb_skip 17 rfl (by decide +kernel) rfl rfl sF ?_
        first | refine gb_take 18 rfl (by decide +kernel) rfl rfl (by first | exact ys_blk hT rfl rfl mE rfl rfl | exact ys_row hT rfl rfl mE rfl rfl | exact ys_row0 hT rfl rfl mE rfl rfl) sF ?_ | refine gb_skip 18 rfl (by decide +kernel) rfl rfl sF ?_
        first | refine gb_take 19 rfl (by decide +kernel) rfl rfl (ys_ev (nw := true) hT rfl sI) sF ?_ | refine gb_skip 19 rfl (by decide +kernel) rfl rfl sF ?_
        refine gb_take 20 rfl (by decide +kernel) rfl rfl (ys_ev (nw := true) hT rfl sI) sF ?_
        refine gb_take 21 rfl (by decide +kernel) rfl rfl (ys_ev (nw := true) hT rfl sI) sF ?_
        refine gb_nil (by decide +kernel) ?_
        exact ⟨(), (by repeat (first | exact trivial | refine ⟨rfl, ?_⟩)), sA, sS⟩
      · (repeat (refine gG ?_; try intro _))
        refine gk_rounds 1 rfl ?_
        (repeat' (first | (refine gG ?_; try intro _) | (refine g_mv rfl ?_; first | refine mv_call_bel (fun w hk => alive36 w) rfl rfl rfl rfl rfl (by kernel_rfl) ?_) | ((first | refine g_split rfl rfl tE (fun _ => ?_) (fun _ => ?_) | refine gk_cond rfl rfl tE (fun _ => ?_) (fun _ => ?_)) <;> (try first | (exfalso; omega; done) | (rename_i hx; exact absurd rfl hx) | (rename_i hx; cases hx; done)))))
        all_goals (refine gk_ret hT rfl rfl (.tmp rfl .nil) (fun w' hk => ?_); exact ⟨ret_bool (by simp [tB_eq] <;> omega), hk.toBelow⟩)
      -->code
    -->bad
  obtain ⟨R, hR⟩ : ∃ R, R = entsOf X := ⟨_, rfl⟩
  have hR6 : R.length ≤ 6 := hR ▸ ents_len X
  have hRn := node_of hX hlf.1
  have hR1 : 1 ≤ R.length := hR ▸ hRn.n
  have hRb : ∀ e ∈ R, e.k.Bd := hR ▸ ents_kbd hX
  have P2 : PgOf 3 R (dread (S.map SecD.L) (([] ++ [(⟨1 + 4 + 1, d1⟩ : WrD)] ++ [(⟨2 + 4 + 1, d2⟩ : WrD)] ++ [(⟨3 + 4 + 1, d3⟩ : WrD)] ++ [(⟨2 + 4 + 1, d4⟩ : WrD)]).map WrD.c) (2 + 4 + 1)) := ⟨by rw [h4.X]; exact hXo, by rw [h4.X]; exact hlf.1, by rw [h4.X]; exact hlf.2, by rw [h4.X]; exact hR.symm⟩
  obtain ⟨x0, hx0⟩ : ∃ x, R[0]? = some x := ⟨R[0], List.getElem?_eq_getElem hR1⟩
  obtain ⟨⟨xv, xb, xs⟩, xa⟩ := x0
  have hfR : Tr.fstK R = ⟨xv, xb, xs⟩ := by
    obtain ⟨y2, r, e1, e2⟩ := Tr.fstK_at (B := R) (by omega)
    rw [e1] at hx0
    rw [e2, Option.some.inj hx0]
  have hcode := two_code (a := a) (r := R) (e1 := (⟨⟨yv, yb, ys⟩, 1⟩ : EntD)) (e2 := (⟨⟨zv, zb, zs⟩, 2⟩ : EntD)) ⟨ga1, ga2⟩ hR6 hkyz hfa
  by_cases hc : Ck.wrongP [a, R] [(⟨⟨yv, yb, ys⟩, 1⟩ : EntD).k, (⟨⟨zv, zb, zs⟩, 2⟩ : EntD).k] ((a.length : Int) + (R.length : Int)) = 0
  case pos =>
    --<good
    obtain ⟨c1, c2, c3'⟩ := hcode.1 hc
    refine g_mv rfl ?_; refine mv_call_rt (fun w hk => load_good g sv l4 S ([] ++ [(⟨1 + 4 + 1, d1⟩ : WrD)] ++ [(⟨2 + 4 + 1, d2⟩ : WrD)] ++ [(⟨3 + 4 + 1, d3⟩ : WrD)] ++ [(⟨2 + 4 + 1, d4⟩ : WrD)]) w (⟨⟨yv, yb, ys⟩, 1⟩ : EntD) (⟨⟨zv, zb, zs⟩, 2⟩ : EntD) a R h4.D (by simp) hSl h4.P3 h4.P1 P2 rfl rfl ga2 hR6 (fun e he => (hab e he).k) hRb hc (hk.rO (φ := dkF g ⟨sv, l4, S, [] ++ [(⟨1 + 4 + 1, d1⟩ : WrD)] ++ [(⟨2 + 4 + 1, d2⟩ : WrD)] ++ [(⟨3 + 4 + 1, d3⟩ : WrD)] ++ [(⟨2 + 4 + 1, d4⟩ : WrD)]⟩) mE)) rfl rfl rfl rfl rfl (by kernel_rfl) (fun _ => rfl) (fun q hq => ?_)
    obtain ⟨t2, rv2, A4, c4⟩ := q
    obtain ⟨⟨r2p, hr2p⟩, _⟩ := hq
    dsimp only at hr2p ⊢
    subst hr2p
    (repeat (refine gG ?_; try intro _))
    refine g_mv rfl ?_; refine mv_call_rt (fun w hk => hrg w (hk.pR (sl xA 1 (IE .u8) X) mE)) rfl rfl rfl rfl rfl (by kernel_rfl) (fun _ => rfl) (fun rr hr => ?_)
    obtain ⟨⟨⟨rA, rn, rc⟩, RM⟩, rl, re⟩ := rr
    obtain ⟨r1, r2, r3, r4⟩ := hr
    obtain ⟨r5, r6, r7, r8⟩ := r1
    dsimp only [SlV.v] at r2 r3 r4 r5 r6 r7 r8 ⊢
    subst r5
    have hRM6 : RM.length ≤ 6 := by
      rw [r3]
      by_cases h0 : ncode X = 0
      · rw [if_pos h0, decN_len]; unfold nB; omega
      · rw [if_neg h0]; exact Nat.zero_le _
    refine g_share (φ := sl rA 4 EE RM) (by repeat (first | with_reducible exact Sel.here | with_reducible apply Sel.there)) ?_
    (repeat (refine gG ?_; try intro _))
    refine g_mv rfl ?_; refine mv_call_rt (fun w hk => cloneEs_own (some ⟨ab, ao, none⟩) a.length ac a w rfl (by omega) (hk.pR (sl (some ⟨ab, ao, none⟩) 4 EE a) mE)) rfl rfl rfl rfl rfl (by kernel_rfl) (fun _ => rfl) (fun v3 _ => ?_)
    (repeat (refine gG ?_; try intro _))
    refine g_mv rfl (mv_append (L := a) rfl RM rfl rfl rfl rfl Nd.elt_E (by intro _; first | ((repeat (first | with_reducible exact Upd.here _ | with_reducible apply Upd.there)); done) | ((repeat (first | exact Upd.here _ | apply Upd.there)); done) | fail) (src_R mE) rfl (by intro x j; match j with | 0 => rfl | 1 => rfl | 2 => rfl | _ + 3 => rfl) (by simp [maxLen]; omega) (by omega) (Nat.zero_le _) (fun v4 => ?_))
    refine g_freeze v4 (by intro _; first | ((repeat (first | with_reducible exact Upd.here _ | with_reducible apply Upd.there)); done) | ((repeat (first | exact Upd.here _ | apply Upd.there)); done) | fail) (fun wA wc hv4 hw2 hw3 _ => ?_)
    subst hv4
    obtain ⟨Wh, hWh⟩ : ∃ Wh, Wh = a ++ RM := ⟨_, rfl⟩
    have hWl : Wh.length = a.length + RM.length := by rw [hWh, List.length_append]
    rw [← hWh] at hw2 ⊢
    refine g_share (φ := sl wA 4 EE Wh) (by repeat (first | with_reducible exact Sel.here | with_reducible apply Sel.there)) ?_
    (repeat (refine gG ?_; try intro _))
    rw [if_pos hlf.1] at r3 r4
    have hRM : RM = R := r3.trans hR.symm
    subst hRM
    rw [tB_true hlf.2] at r4
    have hre : re = 0 := r2.trans hlf.1
    refine gk_elem (A := rA) (enc := EE) (L := RM) 0 mE (by omega) (by decide) (fun rb ro x eA hx => ?_)
    subst eA
    obtain ⟨rfl, rfl, rfl⟩ : xv = zv ∧ xb = zb ∧ xs = zs := by
      rw [hfR] at c2
      injection c2 with c2 c4 c5
      exact ⟨c2, c4, c5⟩
    refine gk_sel (f' := [(0, .slice (some ⟨ab, ao, none⟩) a.length ac), (1, .slice (some ⟨bb, bo, none⟩) b.length bc), (2, .slice xA X.length sc), (15, .pointer (some ⟨t2, 0, none⟩)), (17, .int .i64 0), (18, .slice (some ⟨rb, ro, none⟩) RM.length rc), (19, .bool rl), (20, .int .i64 re), (21, .slice wA Wh.length wc)]) (O' := [blk t2 [.pointer r2p, .int .i64 ((a.length : Int) + (RM.length : Int))] 55]) (R' := [sl (some ⟨bb, bo, none⟩) 4 EE b, sl (some ⟨rb, ro, none⟩) 4 EE RM, sl wA 4 EE Wh]) (by repeat (first | exact trivial | refine ⟨rfl, ?_⟩)) sA sS ?_
    refine gk_any [1, 2] (Cut _ (fun _ : Unit => [(0, .slice (some ⟨ab, ao, none⟩) a.length ac), (1, .slice (some ⟨bb, bo, none⟩) b.length bc), (2, .slice xA X.length sc), (15, .pointer (some ⟨t2, 0, none⟩)), (17, .int .i64 0), (21, .slice wA Wh.length wc), (22, .bool true)]) (fun _ => [blk t2 [.pointer r2p, .int .i64 ((a.length : Int) + (RM.length : Int))] 55]) (fun _ => [sl wA 4 EE Wh])) rfl rfl (by kernel_rfl) ?_ (cut_k fun _ => ?_)
    · skip
      refine gb_take 0 rfl (by decide +kernel) rfl rfl (ys_ev (nw := true) hT rfl sI) sF ?_
      refine gb_take 1 rfl (by decide +kernel) rfl rfl (ys_ev (nw := true) hT rfl sI) sF ?_
      try (refine gb_say 146 (.bool true) rfl (congrArg Value.bool (tB_true hre)) ?_)
      refine gb_take 2 rfl (by decide +kernel) rfl rfl (ys_ev (nw := true) hT rfl sI) sF ?_
      first | refine gb_take 3 rfl (by decide +kernel) rfl rfl (ys_ev (nw := true) hT rfl sI) sF ?_ | refine gb_skip 3 rfl (by decide +kernel) rfl rfl sF ?_
      try (refine gb_say 148 (.bool true) rfl (congrArg Value.bool r4) ?_)
      refine gb_take 4 rfl (by decide +kernel) rfl rfl (ys_ev (nw := true) hT rfl sI) sF ?_
      refine gb_take 5 rfl (by decide +kernel) rfl rfl (ys_ev (nw := true) hT rfl sI) sF ?_
      first | refine gb_take 6 rfl (by decide +kernel) rfl rfl (ys_ev (nw := true) hT rfl sI) sF ?_ | refine gb_skip 6 rfl (by decide +kernel) rfl rfl sF ?_
      first | refine gb_take 7 rfl (by decide +kernel) rfl rfl (ys_ev (nw := true) hT rfl sI) sF ?_ | refine gb_skip 7 rfl (by decide +kernel) rfl rfl sF ?_
      first | refine gb_take 8 rfl (by decide +kernel) rfl rfl (ys_ev (nw := true) hT rfl sI) sF ?_ | refine gb_skip 8 rfl (by decide +kernel) rfl rfl sF ?_
      try (refine gb_say 153 (.bool true) rfl (congrArg Value.bool (tB_true (by omega))) ?_)
      refine gb_take 9 rfl (by decide +kernel) rfl rfl (ys_ev (nw := true) hT rfl sI) sF ?_
      refine gb_take 10 rfl (by decide +kernel) rfl rfl (ys_ev (nw := true) hT rfl sI) sF ?_
      first | refine gb_take 11 rfl (by decide +kernel) rfl rfl (ys_ev (nw := true) hT rfl sI) sF ?_ | refine gb_skip 11 rfl (by decide +kernel) rfl rfl sF ?_
      first | refine gb_take 12 rfl (by decide +kernel) rfl rfl (ys_ev (nw := true) hT rfl sI) sF ?_ | refine gb_skip 12 rfl (by decide +kernel) rfl rfl sF ?_
      first | refine gb_take 13 rfl (by decide +kernel) rfl rfl (ys_ev (nw := true) hT rfl sI) sF ?_ | refine gb_skip 13 rfl (by decide +kernel) rfl rfl sF ?_
      first | refine gb_take 14 rfl (by decide +kernel) rfl rfl (ys_load_el (o0 := ro) (sz := 4) (enc := EE) (L := RM) hT 0 _ 0 rfl rfl rfl (by omega) hx0 (at_sl mE) rfl rfl) sF ?_ | refine gb_skip 14 rfl (by decide +kernel) rfl rfl sF ?_
      first | refine gb_take 15 rfl (by decide +kernel) rfl rfl (ys_ev (nw := true) hT rfl sI) sF ?_ | refine gb_skip 15 rfl (by decide +kernel) rfl rfl sF ?_
      first | refine gb_take 16 rfl (by decide +kernel) rfl rfl (ys_ev (nw := true) hT rfl sI) sF ?_ | refine gb_skip 16 rfl (by decide +kernel) rfl rfl sF ?_
      first | refine gb_take 17 rfl (by decide +kernel) rfl rfl (ys_ev (nw := true) hT rfl sI) sF ?_ | refine gb_skip 17 rfl (by decide +kernel) rfl rfl sF ?_
      first | refine gb_take 18 rfl (by decide +kernel) rfl rfl (ys_load_el (o0 := bo) (sz := 4) (enc := EE) (L := b) hT 0 _ 0 rfl rfl rfl (by omega) hz (at_sl mE) rfl rfl) sF ?_ | refine gb_skip 18 rfl (by decide +kernel) rfl rfl sF ?_
      first | refine gb_take 19 rfl (by decide +kernel) rfl rfl (ys_eql rfl rfl rfl rfl rfl (by kernel_rfl)) sF ?_ | refine gb_skip 19 rfl (by decide +kernel) rfl rfl sF ?_
      try (refine gb_say 164 (.bool true) rfl (congrArg Value.bool (tB_true ⟨rfl, rfl, rfl, trivial⟩)) ?_)
      refine gb_take 20 rfl (by decide +kernel) rfl rfl (ys_ev (nw := true) hT rfl sI) sF ?_
      refine gb_take 21 rfl (by decide +kernel) rfl rfl (ys_ev (nw := true) hT rfl sI) sF ?_
      refine gb_nil (by decide +kernel) ?_
      exact ⟨(), (by repeat (first | exact trivial | refine ⟨rfl, ?_⟩)), sA, sS⟩
    (repeat (refine gG ?_; try intro _))
    refine gk_loop_sel (fun (q : Nat × Bool) => match q with | (i, fb) => 1 ≤ i ∧ fb = true) (fun (q : Nat × Bool) => match q with | (i, fb) => [(0, .slice (some ⟨ab, ao, none⟩) a.length ac), (1, .slice (some ⟨bb, bo, none⟩) b.length bc), (2, .slice xA X.length sc), (15, .pointer (some ⟨t2, 0, none⟩)), (17, .int .i64 0), (21, .slice wA Wh.length wc), (22, .bool fb), (23, .int .i64 i)]) (fun (q : Nat × Bool) => match q with | (i, fb) => [blk t2 [.pointer r2p, .int .i64 ((a.length : Int) + (RM.length : Int))] 55]) (fun (q : Nat × Bool) => match q with | (i, fb) => [sl wA 4 EE Wh]) (fun (q : Nat × Bool) => match q with | (i, fb) => Wh.length + 1 - i) (1, true) rfl ⟨Nat.le_refl _, rfl⟩ (by repeat (first | exact trivial | refine ⟨rfl, ?_⟩)) sA sS ?_
    rintro ⟨i, fb⟩ hI
    replace hI : 1 ≤ i ∧ fb = true := hI
    change GK _ _ [(0, .slice (some ⟨ab, ao, none⟩) a.length ac), (1, .slice (some ⟨bb, bo, none⟩) b.length bc), (2, .slice xA X.length sc), (15, .pointer (some ⟨t2, 0, none⟩)), (17, .int .i64 0), (21, .slice wA Wh.length wc), (22, .bool fb), (23, .int .i64 i)] [blk t2 [.pointer r2p, .int .i64 ((a.length : Int) + (RM.length : Int))] 55] [sl wA 4 EE Wh]
    obtain ⟨hi1, rfl⟩ := hI
    by_cases hin : i < Wh.length
    · --<goodr
      obtain ⟨y2, hy2⟩ : ∃ y, Wh[i]? = some y := ⟨Wh[i], List.getElem?_eq_getElem hin⟩
      obtain ⟨x2, hx2⟩ : ∃ x, Wh[i - 1]? = some x := ⟨Wh[i - 1], List.getElem?_eq_getElem (by omega)⟩
      have hkl : klt x2.k y2.k := by
        have h1 := (hWh ▸ c3' : Asc Wh) i (by omega) hin
        rw [List.getD_eq_getElem?_getD, List.getD_eq_getElem?_getD, hy2, hx2] at h1
        exact h1
      refine gk_elem (A := wA) (enc := EE) (L := Wh) i mE (by omega) (by decide) (fun b0 o0 y' eA hy' => ?_)
      subst eA
      (repeat' (first | (refine gG ?_; try intro _) | ((first | refine g_split rfl rfl tE (fun _ => ?_) (fun _ => ?_) | refine gk_cond rfl rfl tE (fun _ => ?_) (fun _ => ?_)) <;> (try first | (exfalso; omega; done) | (rename_i hx; exact absurd rfl hx) | (rename_i hx; cases hx; done)))))
      refine gk_any [2] (Cut _ (fun _ : Unit => [(0, .slice (some ⟨ab, ao, none⟩) a.length ac), (1, .slice (some ⟨bb, bo, none⟩) b.length bc), (2, .slice xA X.length sc), (15, .pointer (some ⟨t2, 0, none⟩)), (17, .int .i64 0), (21, .slice (some ⟨b0, o0, none⟩) Wh.length wc), (22, .bool true), (23, .int .i64 i)]) (fun _ => [blk t2 [.pointer r2p, .int .i64 ((a.length : Int) + (RM.length : Int))] 55]) (fun _ => [sl (some ⟨b0, o0, none⟩) 4 EE Wh])) rfl rfl (by kernel_rfl) ?_ (cut_k fun _ => ?_)
      · skip
        refine gb_take 0 rfl (by decide +kernel) rfl rfl (ys_ev (nw := true) hT rfl sI) sF ?_
        refine gb_take 1 rfl (by decide +kernel) rfl rfl (ys_ev (nw := true) hT rfl sI) sF ?_
        refine gb_take 2 rfl (by decide +kernel) rfl rfl (ys_ev (nw := true) hT rfl sI) sF ?_
        refine gb_take 3 rfl (by decide +kernel) rfl rfl (ys_ev (nw := true) hT rfl sI) sF ?_
        refine gb_take 4 rfl (by decide +kernel) rfl rfl (ys_ev (nw := true) hT rfl sI) sF ?_
        refine gb_take 5 rfl (by decide +kernel) rfl rfl (ys_load_el (o0 := o0) (sz := 4) (enc := EE) (L := Wh) hT (i - 1) x2 0 rfl rfl rfl (by omega) hx2 (at_sl mE) rfl rfl) sF ?_
        refine gb_take 6 rfl (by decide +kernel) rfl rfl (ys_ev (nw := true) hT rfl sI) sF ?_
        refine gb_take 7 rfl (by decide +kernel) rfl rfl (ys_ev (nw := true) hT rfl sI) sF ?_
        refine gb_take 8 rfl (by decide +kernel) rfl rfl (ys_ev (nw := true) hT rfl sI) sF ?_
        refine gb_take 9 rfl (by decide +kernel) rfl rfl (ys_ev (nw := true) hT rfl sI) sF ?_
        refine gb_take 10 rfl (by decide +kernel) rfl rfl (ys_load_el (o0 := o0) (sz := 4) (enc := EE) (L := Wh) hT i y2 0 rfl rfl rfl (by omega) hy2 (at_sl mE) rfl rfl) sF ?_
        refine gb_only 11 (by decide +kernel) rfl rfl ?_
        refine mv_call_bel (fun w hk => rless_b true x2.k y2.k (tB_true hkl) w) rfl rfl rfl rfl rfl (by kernel_rfl) ?_
        refine ⟨sF, ?_⟩
        refine gb_take 12 rfl (by decide +kernel) rfl rfl (ys_ev (nw := true) hT rfl sI) sF ?_
        refine gb_nil (by decide +kernel) ?_
        exact ⟨(), (by repeat (first | exact trivial | refine ⟨rfl, ?_⟩)), sA, sS⟩
      (repeat (refine gG ?_; try intro _))
      refine gk_again_sel rfl (i + 1, true) ⟨by omega, rfl⟩ (by dsimp only; omega) (by repeat (first | exact trivial | refine ⟨rfl, ?_⟩)) sA sS
      -->goodr
    · (repeat' (first | (refine gG ?_; try intro _) | ((first | refine g_split rfl rfl tE (fun _ => ?_) (fun _ => ?_) | refine gk_cond rfl rfl tE (fun _ => ?_) (fun _ => ?_)) <;> (try first | (exfalso; omega; done) | (rename_i hx; exact absurd rfl hx) | (rename_i hx; cases hx; done)))))
      refine g_mv rfl ?_; refine mv_call_bel (fun w hk => tlen_any t2 (.pointer r2p) ((a.length : Int) + (RM.length : Int)) w (hk.rO (φ := blk t2 [.pointer r2p, .int .i64 ((a.length : Int) + (RM.length : Int))] 55) mE)) rfl rfl rfl rfl rfl (by kernel_rfl) ?_
      (repeat' (first | (refine gG ?_; try intro _) | (refine g_mv rfl ?_; first | refine mv_call_bel (fun w hk => alive36 w) rfl rfl rfl rfl rfl (by kernel_rfl) ?_) | ((first | refine g_split rfl rfl tE (fun _ => ?_) (fun _ => ?_) | refine gk_cond rfl rfl tE (fun _ => ?_) (fun _ => ?_)) <;> (try first | (exfalso; omega; done) | (rename_i hx; exact absurd rfl hx) | (rename_i hx; cases hx; done)))))
      all_goals (refine gk_ret hT rfl rfl (.tmp rfl .nil) (fun w' hk => ?_); exact ⟨ret_bool (by simp [tB_eq] <;> omega), hk.toBelow⟩)
    -->good
  --<wrong
  refine g_mv rfl ?_; refine mv_call_bel (fun w hk => load_wrong g sv l4 S ([] ++ [(⟨1 + 4 + 1, d1⟩ : WrD)] ++ [(⟨2 + 4 + 1, d2⟩ : WrD)] ++ [(⟨3 + 4 + 1, d3⟩ : WrD)] ++ [(⟨2 + 4 + 1, d4⟩ : WrD)]) w (⟨⟨yv, yb, ys⟩, 1⟩ : EntD) (⟨⟨zv, zb, zs⟩, 2⟩ : EntD) a R h4.D (by simp) hSl h4.P3 h4.P1 P2 rfl rfl ga2 hR6 (fun e he => (hab e he).k) hRb hc (hk.rO (φ := dkF g ⟨sv, l4, S, [] ++ [(⟨1 + 4 + 1, d1⟩ : WrD)] ++ [(⟨2 + 4 + 1, d2⟩ : WrD)] ++ [(⟨3 + 4 + 1, d3⟩ : WrD)] ++ [(⟨2 + 4 + 1, d4⟩ : WrD)]⟩) mE)) rfl rfl rfl rfl rfl (by kernel_rfl) ?_
  (repeat (refine gG ?_; try intro _))
  refine g_mv rfl ?_; refine mv_call_rt (fun w hk => hrg w (hk.pR (sl xA 1 (IE .u8) X) mE)) rfl rfl rfl rfl rfl (by kernel_rfl) (fun _ => rfl) (fun rr hr => ?_)
  obtain ⟨⟨⟨rA, rn, rc⟩, RM⟩, rl, re⟩ := rr
  obtain ⟨r1, r2, r3, r4⟩ := hr
  obtain ⟨r5, r6, r7, r8⟩ := r1
  dsimp only [SlV.v] at r2 r3 r4 r5 r6 r7 r8 ⊢
  subst r5
  have hRM6 : RM.length ≤ 6 := by
    rw [r3]
    by_cases h0 : ncode X = 0
    · rw [if_pos h0, decN_len]; unfold nB; omega
    · rw [if_neg h0]; exact Nat.zero_le _
  refine g_share (φ := sl rA 4 EE RM) (by repeat (first | with_reducible exact Sel.here | with_reducible apply Sel.there)) ?_
  (repeat (refine gG ?_; try intro _))
  refine g_mv rfl ?_; refine mv_call_rt (fun w hk => cloneEs_own (some ⟨ab, ao, none⟩) a.length ac a w rfl (by omega) (hk.pR (sl (some ⟨ab, ao, none⟩) 4 EE a) mE)) rfl rfl rfl rfl rfl (by kernel_rfl) (fun _ => rfl) (fun v3 _ => ?_)
  (repeat (refine gG ?_; try intro _))
  refine g_mv rfl (mv_append (L := a) rfl RM rfl rfl rfl rfl Nd.elt_E (by intro _; first | ((repeat (first | with_reducible exact Upd.here _ | with_reducible apply Upd.there)); done) | ((repeat (first | exact Upd.here _ | apply Upd.there)); done) | fail) (src_R mE) rfl (by intro x j; match j with | 0 => rfl | 1 => rfl | 2 => rfl | _ + 3 => rfl) (by simp [maxLen]; omega) (by omega) (Nat.zero_le _) (fun v4 => ?_))
  refine g_freeze v4 (by intro _; first | ((repeat (first | with_reducible exact Upd.here _ | with_reducible apply Upd.there)); done) | ((repeat (first | exact Upd.here _ | apply Upd.there)); done) | fail) (fun wA wc hv4 hw2 hw3 _ => ?_)
  subst hv4
  obtain ⟨Wh, hWh⟩ : ∃ Wh, Wh = a ++ RM := ⟨_, rfl⟩
  have hWl : Wh.length = a.length + RM.length := by rw [hWh, List.length_append]
  rw [← hWh] at hw2 ⊢
  refine g_share (φ := sl wA 4 EE Wh) (by repeat (first | with_reducible exact Sel.here | with_reducible apply Sel.there)) ?_
  (repeat (refine gG ?_; try intro _))
  rw [if_pos hlf.1] at r3 r4
  have hRM : RM = R := r3.trans hR.symm
  subst hRM
  rw [tB_true hlf.2] at r4
  have hre : re = 0 := r2.trans hlf.1
  refine gk_elem (A := rA) (enc := EE) (L := RM) 0 mE (by omega) (by decide) (fun rb ro x eA hx => ?_)
  subst eA
  by_cases hR3 : 3 ≤ RM.length
  case neg =>
    --<short
    obtain ⟨ff, hff⟩ : ∃ ff, ff = false := ⟨_, rfl⟩
    refine gk_sel (f' := [(0, .slice (some ⟨ab, ao, none⟩) a.length ac), (1, .slice (some ⟨bb, bo, none⟩) b.length bc), (2, .slice xA X.length sc), (15, .pointer none), (16, .slice none 0 0), (17, .int .i64 21), (18, .slice (some ⟨rb, ro, none⟩) RM.length rc), (19, .bool rl), (20, .int .i64 re), (21, .slice wA Wh.length wc)]) (O' := []) (R' := [sl (some ⟨bb, bo, none⟩) 4 EE b, sl (some ⟨rb, ro, none⟩) 4 EE RM, sl wA 4 EE Wh]) (by repeat (first | exact trivial | refine ⟨rfl, ?_⟩)) sA sS ?_
    refine gk_any [0, 1] (Cut _ (fun _ : Unit => [(0, .slice (some ⟨ab, ao, none⟩) a.length ac), (1, .slice (some ⟨bb, bo, none⟩) b.length bc), (2, .slice xA X.length sc), (15, .pointer none), (16, .slice none 0 0), (17, .int .i64 21), (20, .int .i64 re), (21, .slice wA Wh.length wc), (22, .bool ff)]) (fun _ => []) (fun _ => [sl wA 4 EE Wh])) rfl rfl (by kernel_rfl) ?_ (cut_k fun _ => ?_)
    · skip
      refine gb_take 0 rfl (by decide +kernel) rfl rfl (ys_ev (nw := true) hT rfl sI) sF ?_
      refine gb_take 1 rfl (by decide +kernel) rfl rfl (ys_ev (nw := true) hT rfl sI) sF ?_
      try (refine gb_say 146 (.bool true) rfl (congrArg Value.bool (tB_true hre)) ?_)
      refine gb_take 2 rfl (by decide +kernel) rfl rfl (ys_ev (nw := true) hT rfl sI) sF ?_
      first | refine gb_take 3 rfl (by decide +kernel) rfl rfl (ys_ev (nw := true) hT rfl sI) sF ?_ | refine gb_skip 3 rfl (by decide +kernel) rfl rfl sF ?_
      try (refine gb_say 148 (.bool true) rfl (congrArg Value.bool r4) ?_)
      refine gb_take 4 rfl (by decide +kernel) rfl rfl (ys_ev (nw := true) hT rfl sI) sF ?_
      refine gb_take 5 rfl (by decide +kernel) rfl rfl (ys_ev (nw := true) hT rfl sI) sF ?_
      first | refine gb_take 6 rfl (by decide +kernel) rfl rfl (ys_ev (nw := true) hT rfl sI) sF ?_ | refine gb_skip 6 rfl (by decide +kernel) rfl rfl sF ?_
      first | refine gb_take 7 rfl (by decide +kernel) rfl rfl (ys_ev (nw := true) hT rfl sI) sF ?_ | refine gb_skip 7 rfl (by decide +kernel) rfl rfl sF ?_
      first | refine gb_take 8 rfl (by decide +kernel) rfl rfl (ys_ev (nw := true) hT rfl sI) sF ?_ | refine gb_skip 8 rfl (by decide +kernel) rfl rfl sF ?_
      try (refine gb_say 153 (.bool false) rfl (congrArg Value.bool (tB_false (by omega))) ?_)
      refine gb_take 9 rfl (by decide +kernel) rfl rfl (ys_ev (nw := true) hT rfl sI) sF ?_
      refine gb_take 10 rfl (by decide +kernel) rfl rfl (ys_ev (nw := true) hT rfl sI) sF ?_
      first | refine gb_take 11 rfl (by decide +kernel) rfl rfl (ys_ev (nw := true) hT rfl sI) sF ?_ | refine gb_skip 11 rfl (by decide +kernel) rfl rfl sF ?_
      first | refine gb_take 12 rfl (by decide +kernel) rfl rfl (ys_ev (nw := true) hT rfl sI) sF ?_ | refine gb_skip 12 rfl (by decide +kernel) rfl rfl sF ?_
      first | refine gb_take 13 rfl (by decide +kernel) rfl rfl (ys_ev (nw := true) hT rfl sI) sF ?_ | refine gb_skip 13 rfl (by decide +kernel) rfl rfl sF ?_
      first | refine gb_take 14 rfl (by decide +kernel) rfl rfl (ys_load_el (o0 := ro) (sz := 4) (enc := EE) (L := RM) hT 0 _ 0 rfl rfl rfl (by omega) hx0 (at_sl mE) rfl rfl) sF ?_ | refine gb_skip 14 rfl (by decide +kernel) rfl rfl sF ?_
      first | refine gb_take 15 rfl (by decide +kernel) rfl rfl (ys_ev (nw := true) hT rfl sI) sF ?_ | refine gb_skip 15 rfl (by decide +kernel) rfl rfl sF ?_
      first | refine gb_take 16 rfl (by decide +kernel) rfl rfl (ys_ev (nw := true) hT rfl sI) sF ?_ | refine gb_skip 16 rfl (by decide +kernel) rfl rfl sF ?_
      first | refine gb_take 17 rfl (by decide +kernel) rfl rfl (ys_ev (nw := true) hT rfl sI) sF ?_ | refine gb_skip 17 rfl (by decide +kernel) rfl rfl sF ?_
      first | refine gb_take 18 rfl (by decide +kernel) rfl rfl (ys_load_el (o0 := bo) (sz := 4) (enc := EE) (L := b) hT 0 _ 0 rfl rfl rfl (by omega) hz (at_sl mE) rfl rfl) sF ?_ | refine gb_skip 18 rfl (by decide +kernel) rfl rfl sF ?_
      first | refine gb_take 19 rfl (by decide +kernel) rfl rfl (ys_eql rfl rfl rfl rfl rfl (by kernel_rfl)) sF ?_ | refine gb_skip 19 rfl (by decide +kernel) rfl rfl sF ?_
      refine gb_take 20 rfl (by decide +kernel) rfl rfl (ys_ev (nw := true) hT rfl sI) sF ?_
      refine gb_take 21 rfl (by decide +kernel) rfl rfl (ys_ev (nw := true) hT rfl sI) sF ?_
      refine gb_nil (by decide +kernel) ?_
      (subst hff; exact ⟨(), (by repeat (first | exact trivial | refine ⟨rfl, ?_⟩)), sA, sS⟩)
    subst hff
    (repeat (refine gG ?_; try intro _))
    refine gk_rounds 1 rfl ?_
    (repeat' (first | (refine gG ?_; try intro _) | (refine g_mv rfl ?_; first | refine mv_call_bel (fun w hk => alive36 w) rfl rfl rfl rfl rfl (by kernel_rfl) ?_) | ((first | refine g_split rfl rfl tE (fun _ => ?_) (fun _ => ?_) | refine gk_cond rfl rfl tE (fun _ => ?_) (fun _ => ?_)) <;> (try first | (exfalso; omega; done) | (rename_i hx; exact absurd rfl hx) | (rename_i hx; cases hx; done)))))
    all_goals (refine gk_ret hT rfl rfl (.tmp rfl .nil) (fun w' hk => ?_); exact ⟨ret_bool (by simp [tB_eq] <;> omega), hk.toBelow⟩)
    -->short
  by_cases hkk : xv = zv ∧ xb = zb ∧ xs = zs
  case neg =>
    --<key
    obtain ⟨ff, hff⟩ : ∃ ff, ff = false := ⟨_, rfl⟩
    refine gk_sel (f' := [(0, .slice (some ⟨ab, ao, none⟩) a.length ac), (1, .slice (some ⟨bb, bo, none⟩) b.length bc), (2, .slice xA X.length sc), (15, .pointer none), (16, .slice none 0 0), (17, .int .i64 21), (18, .slice (some ⟨rb, ro, none⟩) RM.length rc), (19, .bool rl), (20, .int .i64 re), (21, .slice wA Wh.length wc)]) (O' := []) (R' := [sl (some ⟨bb, bo, none⟩) 4 EE b, sl (some ⟨rb, ro, none⟩) 4 EE RM, sl wA 4 EE Wh]) (by repeat (first | exact trivial | refine ⟨rfl, ?_⟩)) sA sS ?_
    refine gk_any [0, 1] (Cut _ (fun _ : Unit => [(0, .slice (some ⟨ab, ao, none⟩) a.length ac), (1, .slice (some ⟨bb, bo, none⟩) b.length bc), (2, .slice xA X.length sc), (15, .pointer none), (16, .slice none 0 0), (17, .int .i64 21), (20, .int .i64 re), (21, .slice wA Wh.length wc), (22, .bool ff)]) (fun _ => []) (fun _ => [sl wA 4 EE Wh])) rfl rfl (by kernel_rfl) ?_ (cut_k fun _ => ?_)
    · skip
      refine gb_take 0 rfl (by decide +kernel) rfl rfl (ys_ev (nw := true) hT rfl sI) sF ?_
      refine gb_take 1 rfl (by decide +kernel) rfl rfl (ys_ev (nw := true) hT rfl sI) sF ?_
      try (refine gb_say 146 (.bool true) rfl (congrArg Value.bool (tB_true hre)) ?_)
      refine gb_take 2 rfl (by decide +kernel) rfl rfl (ys_ev (nw := true) hT rfl sI) sF ?_
      first | refine gb_take 3 rfl (by decide +kernel) rfl rfl (ys_ev (nw := true) hT rfl sI) sF ?_ | refine gb_skip 3 rfl (by decide +kernel) rfl rfl sF ?_
      try (refine gb_say 148 (.bool true) rfl (congrArg Value.bool r4) ?_)
      refine gb_take 4 rfl (by decide +kernel) rfl rfl (ys_ev (nw := true) hT rfl sI) sF ?_
      refine gb_take 5 rfl (by decide +kernel) rfl rfl (ys_ev (nw := true) hT rfl sI) sF ?_
      first | refine gb_take 6 rfl (by decide +kernel) rfl rfl (ys_ev (nw := true) hT rfl sI) sF ?_ | refine gb_skip 6 rfl (by decide +kernel) rfl rfl sF ?_
      first | refine gb_take 7 rfl (by decide +kernel) rfl rfl (ys_ev (nw := true) hT rfl sI) sF ?_ | refine gb_skip 7 rfl (by decide +kernel) rfl rfl sF ?_
      first | refine gb_take 8 rfl (by decide +kernel) rfl rfl (ys_ev (nw := true) hT rfl sI) sF ?_ | refine gb_skip 8 rfl (by decide +kernel) rfl rfl sF ?_
      try (refine gb_say 153 (.bool true) rfl (congrArg Value.bool (tB_true (by omega))) ?_)
      refine gb_take 9 rfl (by decide +kernel) rfl rfl (ys_ev (nw := true) hT rfl sI) sF ?_
      refine gb_take 10 rfl (by decide +kernel) rfl rfl (ys_ev (nw := true) hT rfl sI) sF ?_
      first | refine gb_take 11 rfl (by decide +kernel) rfl rfl (ys_ev (nw := true) hT rfl sI) sF ?_ | refine gb_skip 11 rfl (by decide +kernel) rfl rfl sF ?_
      first | refine gb_take 12 rfl (by decide +kernel) rfl rfl (ys_ev (nw := true) hT rfl sI) sF ?_ | refine gb_skip 12 rfl (by decide +kernel) rfl rfl sF ?_
      first | refine gb_take 13 rfl (by decide +kernel) rfl rfl (ys_ev (nw := true) hT rfl sI) sF ?_ | refine gb_skip 13 rfl (by decide +kernel) rfl rfl sF ?_
      first | refine gb_take 14 rfl (by decide +kernel) rfl rfl (ys_load_el (o0 := ro) (sz := 4) (enc := EE) (L := RM) hT 0 _ 0 rfl rfl rfl (by omega) hx0 (at_sl mE) rfl rfl) sF ?_ | refine gb_skip 14 rfl (by decide +kernel) rfl rfl sF ?_
      first | refine gb_take 15 rfl (by decide +kernel) rfl rfl (ys_ev (nw := true) hT rfl sI) sF ?_ | refine gb_skip 15 rfl (by decide +kernel) rfl rfl sF ?_
      first | refine gb_take 16 rfl (by decide +kernel) rfl rfl (ys_ev (nw := true) hT rfl sI) sF ?_ | refine gb_skip 16 rfl (by decide +kernel) rfl rfl sF ?_
      first | refine gb_take 17 rfl (by decide +kernel) rfl rfl (ys_ev (nw := true) hT rfl sI) sF ?_ | refine gb_skip 17 rfl (by decide +kernel) rfl rfl sF ?_
      first | refine gb_take 18 rfl (by decide +kernel) rfl rfl (ys_load_el (o0 := bo) (sz := 4) (enc := EE) (L := b) hT 0 _ 0 rfl rfl rfl (by omega) hz (at_sl mE) rfl rfl) sF ?_ | refine gb_skip 18 rfl (by decide +kernel) rfl rfl sF ?_
      first | refine gb_take 19 rfl (by decide +kernel) rfl rfl (ys_eql rfl rfl rfl rfl rfl (by kernel_rfl)) sF ?_ | refine gb_skip 19 rfl (by decide +kernel) rfl rfl sF ?_
      try (refine gb_say 164 (.bool false) rfl (congrArg Value.bool (tB_false (fun h => hkk ⟨h.1, h.2.1, h.2.2.1⟩))) ?_)
      refine gb_take 20 rfl (by decide +kernel) rfl rfl (ys_ev (nw := true) hT rfl sI) sF ?_
      refine gb_take 21 rfl (by decide +kernel) rfl rfl (ys_ev (nw := true) hT rfl sI) sF ?_
      refine gb_nil (by decide +kernel) ?_
      (subst hff; exact ⟨(), (by repeat (first | exact trivial | refine ⟨rfl, ?_⟩)), sA, sS⟩)
    subst hff
    (repeat (refine gG ?_; try intro _))
    refine gk_rounds 1 rfl ?_
    (repeat' (first | (refine gG ?_; try intro _) | (refine g_mv rfl ?_; first | refine mv_call_bel (fun w hk => alive36 w) rfl rfl rfl rfl rfl (by kernel_rfl) ?_) | ((first | refine g_split rfl rfl tE (fun _ => ?_) (fun _ => ?_) | refine gk_cond rfl rfl tE (fun _ => ?_) (fun _ => ?_)) <;> (try first | (exfalso; omega; done) | (rename_i hx; exact absurd rfl hx) | (rename_i hx; cases hx; done)))))
    all_goals (refine gk_ret hT rfl rfl (.tmp rfl .nil) (fun w' hk => ?_); exact ⟨ret_bool (by simp [tB_eq] <;> omega), hk.toBelow⟩)
    -->key
  --<order
  have hnA : ¬ Asc Wh := fun h => hc (hcode.2 ⟨hR3, by rw [hfR, hkk.1, hkk.2.1, hkk.2.2], hWh ▸ h⟩)
  obtain ⟨ff, hff⟩ : ∃ ff, ff = true := ⟨_, rfl⟩
  refine gk_sel (f' := [(0, .slice (some ⟨ab, ao, none⟩) a.length ac), (1, .slice (some ⟨bb, bo, none⟩) b.length bc), (2, .slice xA X.length sc), (15, .pointer none), (16, .slice none 0 0), (17, .int .i64 21), (18, .slice (some ⟨rb, ro, none⟩) RM.length rc), (19, .bool rl), (20, .int .i64 re), (21, .slice wA Wh.length wc)]) (O' := []) (R' := [sl (some ⟨bb, bo, none⟩) 4 EE b, sl (some ⟨rb, ro, none⟩) 4 EE RM, sl wA 4 EE Wh]) (by repeat (first | exact trivial | refine ⟨rfl, ?_⟩)) sA sS ?_
  refine gk_any [0, 1] (Cut _ (fun _ : Unit => [(0, .slice (some ⟨ab, ao, none⟩) a.length ac), (1, .slice (some ⟨bb, bo, none⟩) b.length bc), (2, .slice xA X.length sc), (15, .pointer none), (16, .slice none 0 0), (17, .int .i64 21), (20, .int .i64 re), (21, .slice wA Wh.length wc), (22, .bool ff)]) (fun _ => []) (fun _ => [sl wA 4 EE Wh])) rfl rfl (by kernel_rfl) ?_ (cut_k fun _ => ?_)
  · skip
    refine gb_take 0 rfl (by decide +kernel) rfl rfl (ys_ev (nw := true) hT rfl sI) sF ?_
    refine gb_take 1 rfl (by decide +kernel) rfl rfl (ys_ev (nw := true) hT rfl sI) sF ?_
    try (refine gb_say 146 (.bool true) rfl (congrArg Value.bool (tB_true hre)) ?_)
    refine gb_take 2 rfl (by decide +kernel) rfl rfl (ys_ev (nw := true) hT rfl sI) sF ?_
    first | refine gb_take 3 rfl (by decide +kernel) rfl rfl (ys_ev (nw := true) hT rfl sI) sF ?_ | refine gb_skip 3 rfl (by decide +kernel) rfl rfl sF ?_
    try (refine gb_say 148 (.bool true) rfl (congrArg Value.bool r4) ?_)
    refine gb_take 4 rfl (by decide +kernel) rfl rfl (ys_ev (nw := true) hT rfl sI) sF ?_
    refine gb_take 5 rfl (by decide +kernel) rfl rfl (ys_ev (nw := true) hT rfl sI) sF ?_
    first | refine gb_take 6 rfl (by decide +kernel) rfl rfl (ys_ev (nw := true) hT rfl sI) sF ?_ | refine gb_skip 6 rfl (by decide +kernel) rfl rfl sF ?_
    first | refine gb_take 7 rfl (by decide +kernel) rfl rfl (ys_ev (nw := true) hT rfl sI) sF ?_ | refine gb_skip 7 rfl (by decide +kernel) rfl rfl sF ?_
    first | refine gb_take 8 rfl (by decide +kernel) rfl rfl (ys_ev (nw := true) hT rfl sI) sF ?_ | refine gb_skip 8 rfl (by decide +kernel) rfl rfl sF ?_
    try (refine gb_say 153 (.bool true) rfl (congrArg Value.bool (tB_true (by omega))) ?_)
    refine gb_take 9 rfl (by decide +kernel) rfl rfl (ys_ev (nw := true) hT rfl sI) sF ?_
    refine gb_take 10 rfl (by decide +kernel) rfl rfl (ys_ev (nw := true) hT rfl sI) sF ?_
    first | refine gb_take 11 rfl (by decide +kernel) rfl rfl (ys_ev (nw := true) hT rfl sI) sF ?_ | refine gb_skip 11 rfl (by decide +kernel) rfl rfl sF ?_
    first | refine gb_take 12 rfl (by decide +kernel) rfl rfl (ys_ev (nw := true) hT rfl sI) sF ?_ | refine gb_skip 12 rfl (by decide +kernel) rfl rfl sF ?_
    first | refine gb_take 13 rfl (by decide +kernel) rfl rfl (ys_ev (nw := true) hT rfl sI) sF ?_ | refine gb_skip 13 rfl (by decide +kernel) rfl rfl sF ?_
    first | refine gb_take 14 rfl (by decide +kernel) rfl rfl (ys_load_el (o0 := ro) (sz := 4) (enc := EE) (L := RM) hT 0 _ 0 rfl rfl rfl (by omega) hx0 (at_sl mE) rfl rfl) sF ?_ | refine gb_skip 14 rfl (by decide +kernel) rfl rfl sF ?_
    first | refine gb_take 15 rfl (by decide +kernel) rfl rfl (ys_ev (nw := true) hT rfl sI) sF ?_ | refine gb_skip 15 rfl (by decide +kernel) rfl rfl sF ?_
    first | refine gb_take 16 rfl (by decide +kernel) rfl rfl (ys_ev (nw := true) hT rfl sI) sF ?_ | refine gb_skip 16 rfl (by decide +kernel) rfl rfl sF ?_
    first | refine gb_take 17 rfl (by decide +kernel) rfl rfl (ys_ev (nw := true) hT rfl sI) sF ?_ | refine gb_skip 17 rfl (by decide +kernel) rfl rfl sF ?_
    first | refine gb_take 18 rfl (by decide +kernel) rfl rfl (ys_load_el (o0 := bo) (sz := 4) (enc := EE) (L := b) hT 0 _ 0 rfl rfl rfl (by omega) hz (at_sl mE) rfl rfl) sF ?_ | refine gb_skip 18 rfl (by decide +kernel) rfl rfl sF ?_
    first | refine gb_take 19 rfl (by decide +kernel) rfl rfl (ys_eql rfl rfl rfl rfl rfl (by kernel_rfl)) sF ?_ | refine gb_skip 19 rfl (by decide +kernel) rfl rfl sF ?_
    try (refine gb_say 164 (.bool true) rfl (congrArg Value.bool (tB_true ⟨hkk.1, hkk.2.1, hkk.2.2, trivial⟩)) ?_)
    refine gb_take 20 rfl (by decide +kernel) rfl rfl (ys_ev (nw := true) hT rfl sI) sF ?_
    refine gb_take 21 rfl (by decide +kernel) rfl rfl (ys_ev (nw := true) hT rfl sI) sF ?_
    refine gb_nil (by decide +kernel) ?_
    (subst hff; exact ⟨(), (by repeat (first | exact trivial | refine ⟨rfl, ?_⟩)), sA, sS⟩)
  subst hff
  (repeat (refine gG ?_; try intro _))
  refine gk_loop_sel (fun (q : Nat × Bool) => match q with | (i, fb) => 1 ≤ i ∧ (i ≤ Wh.length ∨ i = 1) ∧ fb = tB (∀ j, 0 < j → j < i → j < Wh.length → klt (Wh.getD (j - 1) default).k (Wh.getD j default).k)) (fun (q : Nat × Bool) => match q with | (i, fb) => [(0, .slice (some ⟨ab, ao, none⟩) a.length ac), (1, .slice (some ⟨bb, bo, none⟩) b.length bc), (2, .slice xA X.length sc), (15, .pointer none), (16, .slice none 0 0), (17, .int .i64 21), (20, .int .i64 re), (21, .slice wA Wh.length wc), (22, .bool fb), (23, .int .i64 i)]) (fun (q : Nat × Bool) => match q with | (i, fb) => []) (fun (q : Nat × Bool) => match q with | (i, fb) => [sl wA 4 EE Wh]) (fun (q : Nat × Bool) => match q with | (i, fb) => Wh.length + 1 - i) (1, true) rfl ⟨Nat.le_refl _, .inr rfl, (tB_true (fun j h1 h2 => by omega)).symm⟩ (by repeat (first | exact trivial | refine ⟨rfl, ?_⟩)) sA sS ?_
  rintro ⟨i, fb⟩ hI
  replace hI : 1 ≤ i ∧ (i ≤ Wh.length ∨ i = 1) ∧ fb = tB (∀ j, 0 < j → j < i → j < Wh.length → klt (Wh.getD (j - 1) default).k (Wh.getD j default).k) := hI
  change GK _ _ [(0, .slice (some ⟨ab, ao, none⟩) a.length ac), (1, .slice (some ⟨bb, bo, none⟩) b.length bc), (2, .slice xA X.length sc), (15, .pointer none), (16, .slice none 0 0), (17, .int .i64 21), (20, .int .i64 re), (21, .slice wA Wh.length wc), (22, .bool fb), (23, .int .i64 i)] [] [sl wA 4 EE Wh]
  obtain ⟨hi1, hi2, hfb⟩ := hI
  by_cases hin : i < Wh.length
  · cases fb with
    | true =>
      --<orderr
      have hp := tB_iff.1 hfb.symm
      obtain ⟨y2, hy2⟩ : ∃ y, Wh[i]? = some y := ⟨Wh[i], List.getElem?_eq_getElem hin⟩
      obtain ⟨x2, hx2⟩ : ∃ x, Wh[i - 1]? = some x := ⟨Wh[i - 1], List.getElem?_eq_getElem (by omega)⟩
      have hxy : klt (Wh.getD (i - 1) default).k (Wh.getD i default).k ↔ klt x2.k y2.k := by
        rw [List.getD_eq_getElem?_getD, List.getD_eq_getElem?_getD, hy2, hx2]; rfl
      obtain ⟨b2, k2⟩ : ∃ v, tB (klt x2.k y2.k) = v := ⟨_, rfl⟩
      refine gk_elem (A := wA) (enc := EE) (L := Wh) i mE (by omega) (by decide) (fun b0 o0 y' eA hy' => ?_)
      subst eA
      (repeat' (first | (refine gG ?_; try intro _) | ((first | refine g_split rfl rfl tE (fun _ => ?_) (fun _ => ?_) | refine gk_cond rfl rfl tE (fun _ => ?_) (fun _ => ?_)) <;> (try first | (exfalso; omega; done) | (rename_i hx; exact absurd rfl hx) | (rename_i hx; cases hx; done)))))
      refine gk_any [1] (Cut _ (fun _ : Unit => [(0, .slice (some ⟨ab, ao, none⟩) a.length ac), (1, .slice (some ⟨bb, bo, none⟩) b.length bc), (2, .slice xA X.length sc), (15, .pointer none), (16, .slice none 0 0), (17, .int .i64 21), (20, .int .i64 re), (21, .slice (some ⟨b0, o0, none⟩) Wh.length wc), (22, .bool b2), (23, .int .i64 i)]) (fun _ => []) (fun _ => [sl (some ⟨b0, o0, none⟩) 4 EE Wh])) rfl rfl (by kernel_rfl) ?_ (cut_k fun _ => ?_)
      · skip
        refine gb_take 0 rfl (by decide +kernel) rfl rfl (ys_ev (nw := true) hT rfl sI) sF ?_
        refine gb_take 1 rfl (by decide +kernel) rfl rfl (ys_ev (nw := true) hT rfl sI) sF ?_
        refine gb_take 2 rfl (by decide +kernel) rfl rfl (ys_ev (nw := true) hT rfl sI) sF ?_
        refine gb_take 3 rfl (by decide +kernel) rfl rfl (ys_ev (nw := true) hT rfl sI) sF ?_
        refine gb_take 4 rfl (by decide +kernel) rfl rfl (ys_ev (nw := true) hT rfl sI) sF ?_
        refine gb_take 5 rfl (by decide +kernel) rfl rfl (ys_load_el (o0 := o0) (sz := 4) (enc := EE) (L := Wh) hT (i - 1) x2 0 rfl rfl rfl (by omega) hx2 (at_sl mE) rfl rfl) sF ?_
        refine gb_take 6 rfl (by decide +kernel) rfl rfl (ys_ev (nw := true) hT rfl sI) sF ?_
        refine gb_take 7 rfl (by decide +kernel) rfl rfl (ys_ev (nw := true) hT rfl sI) sF ?_
        refine gb_take 8 rfl (by decide +kernel) rfl rfl (ys_ev (nw := true) hT rfl sI) sF ?_
        refine gb_take 9 rfl (by decide +kernel) rfl rfl (ys_ev (nw := true) hT rfl sI) sF ?_
        refine gb_take 10 rfl (by decide +kernel) rfl rfl (ys_load_el (o0 := o0) (sz := 4) (enc := EE) (L := Wh) hT i y2 0 rfl rfl rfl (by omega) hy2 (at_sl mE) rfl rfl) sF ?_
        refine gb_only 11 (by decide +kernel) rfl rfl ?_
        refine mv_call_bel (fun w hk => rless_b b2 x2.k y2.k k2 w) rfl rfl rfl rfl rfl (by kernel_rfl) ?_
        refine ⟨sF, ?_⟩
        refine gb_take 12 rfl (by decide +kernel) rfl rfl (ys_ev (nw := true) hT rfl sI) sF ?_
        refine gb_nil (by decide +kernel) ?_
        exact ⟨(), (by repeat (first | exact trivial | refine ⟨rfl, ?_⟩)), sA, sS⟩
      (repeat (refine gG ?_; try intro _))
      refine gk_again_sel rfl (i + 1, b2) ⟨by omega, by omega, by
        cases b2 with
        | true => exact (tB_true fun j j1 j2 j3 => by
          by_cases e : j = i
          · subst e; exact hxy.2 (tB_iff.1 k2)
          · exact hp j j1 (by omega) j3).symm
        | false => exact (tB_false fun h => by
          have := hxy.1 (h i (by omega) (by omega) hin)
          rw [tB_true this] at k2; cases k2).symm⟩ (by dsimp only; omega) (by repeat (first | exact trivial | refine ⟨rfl, ?_⟩)) sA sS
      -->orderr
    | false =>
      (repeat' (first | (refine gG ?_; try intro _) | (refine g_mv rfl ?_; first | refine mv_call_bel (fun w hk => alive36 w) rfl rfl rfl rfl rfl (by kernel_rfl) ?_) | ((first | refine g_split rfl rfl tE (fun _ => ?_) (fun _ => ?_) | refine gk_cond rfl rfl tE (fun _ => ?_) (fun _ => ?_)) <;> (try first | (exfalso; omega; done) | (rename_i hx; exact absurd rfl hx) | (rename_i hx; cases hx; done)))))
      all_goals (refine gk_ret hT rfl rfl (.tmp rfl .nil) (fun w' hk => ?_); exact ⟨ret_bool (by simp [tB_eq] <;> omega), hk.toBelow⟩)
  · have hfb2 : fb = false := hfb.trans (tB_false fun h => hnA fun j j1 j2 => h j j1 (by omega) j2)
    subst hfb2
    (repeat' (first | (refine gG ?_; try intro _) | (refine g_mv rfl ?_; first | refine mv_call_bel (fun w hk => alive36 w) rfl rfl rfl rfl rfl (by kernel_rfl) ?_) | ((first | refine g_split rfl rfl tE (fun _ => ?_) (fun _ => ?_) | refine gk_cond rfl rfl tE (fun _ => ?_) (fun _ => ?_)) <;> (try first | (exfalso; omega; done) | (rename_i hx; exact absurd rfl hx) | (rename_i hx; cases hx; done)))))
    all_goals (refine gk_ret hT rfl rfl (.tmp rfl .nil) (fun w' hk => ?_); exact ⟨ret_bool (by simp [tB_eq] <;> omega), hk.toBelow⟩)
  -->wrong
  -->load1
  -->writes
end Go.Proofs.YtaghmffgoomebaaGreat.St
