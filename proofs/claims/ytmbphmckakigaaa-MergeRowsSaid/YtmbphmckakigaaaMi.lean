/- merge.All as an iterator: rows as one. -/
import Derived.Test.YtmbphmckakigaaaMg2
import Derived.Test.YtmbphmckakigaaaGxW
namespace Go.Proofs.Ytmbphmckakigaaa.Mg
open Go.RowKit Mem Gx Hp Nd
set_option linter.unusedVariables false
set_option linter.unusedSimpArgs false
set_option maxRecDepth 100000
set_option maxHeartbeats 1000000
instance : Inhabited RwD := ⟨⟨⟨none, 0, 0⟩, []⟩⟩
def RE : RwD → Nat → Value := fun x _ => .slice x.s.A x.s.n x.s.c
/-- A row, as an argument has it. -/
structure RwD.Ok (r : RwD) : Prop where
  ok : r.s.Ok r.E.length
  srt : Srt r.E
  few : r.E.length ≤ 30
def mgR (RS : List RwD) (rA : Option Addr) (rn rc bt : Nat) : List Fact := [blk bt [.slice rA rn rc] 22, sl rA 1 RE RS, allF RS rwF]
theorem hok_row {RS : List RwD} {r : RwD} {i : Nat} (hr : r ∈ RS) (ho : r.Ok) (hne : r.E ≠ []) : HOk RS ⟨r.s, r.E, i⟩ := ⟨ho.ok, hne, Der.elem (L := RS) (F := rwF) (x := r) (Der.mem (.head _)) hr⟩
theorem sub_ok {s : SlV} {m : Nat} (h : s.Ok m) (k sz : Nat) (hk : k ≤ m) : (SlV.mk (shA s.A k s.c sz) (s.n - k) (s.c - k)).Ok (m - k) := by
  obtain ⟨h1, h2, h3, h4⟩ := h
  refine ⟨by show s.n - k = _; omega, by show s.n - k ≤ s.c - k; omega, by show s.c - k ≤ _; omega, fun h => ?_⟩
  show s.c - k = 0
  have h : shA s.A k s.c sz = none := h
  unfold shA at h
  split at h
  · omega
  · have : s.A = none := by
      cases hA : s.A with
      | none => rfl
      | some y => rw [hA] at h; cases h
    have := h4 this
    omega
theorem hok_tail {RS : List RwD} {s : SlV} {e : EntD} {t : List EntD} {i : Nat} (h : HOk RS ⟨s, e :: t, i⟩) (hne : t ≠ []) : HOk RS ⟨⟨shA s.A 1 s.c 4, s.n - 1, s.c - 1⟩, t, i⟩ := by
  obtain ⟨ok, _, der⟩ := h
  have hn : s.n = t.length + 1 := ok.n
  have hc : s.n ≤ s.c := ok.c
  refine ⟨sub_ok (m := t.length + 1) ok 1 4 (by omega), hne, ?_⟩
  have d1 : Der [sl s.A 4 EE (e :: t)] (sl (shA s.A 1 s.c 4) 4 EE t) := by
    refine ⟨fun w hw => ?_, fun b hb => ⟨_, .head _, sl_sub_S (l := 1) (m := s.c) (k := t.length) (by simpa using hb)⟩⟩
    have := sl_sub (hw _ (.head _)) 1 s.c t.length (by show t.length + 1 ≤ s.c; omega)
    show Sl w _ 4 EE t
    simpa using this
  exact d1.trans fun ψ hψ => by
    obtain rfl := List.mem_singleton.1 hψ
    exact der
theorem all_iter (RS : List RwD) (rA : Option Addr) (rn rc bt : Nat) (w1 : World) (hrn : rn = RS.length) (h8 : RS.length ≤ 8) (hok : ∀ r, r ∈ RS → r.Ok) (hB : Rds w1 (mgR RS rA rn rc bt)) :
    IterOk Try.prog 58 [.pointer (some ⟨bt, 0, none⟩)] (fun e : EntD => [e.val]) (insAll (RS.map RwD.E)) (mgR RS rA rn rc bt) w1 := by
  intro l τ Γ Iv Dn t0 h0 hΓ hdis hY
  unfold mgR at hB hdis
  refine g_enter0 T (finE (Γ t0) w1) [Γ t0] [blk bt [.slice rA rn rc] 22, sl rA 1 RE RS, allF RS rwF] Try.func58 rfl Try.ntmps58 rfl (Kn.startM hΓ (fun b hb => (finE_mem hΓ.2 b).2 hb) (fun ψ hψ => ⟨hB.mem hψ, fun b h1 => hdis ψ hψ b h1⟩)) ?_
  refine gk_rowR (g := bt) mE ?_
  (repeat (refine gG ?_; try intro _))
  rename_i g3
  refine gk_own 0 109 2 HE ?_
  refine gk_loop_sel (fun (q : Value × (List HdD) × Nat) => match q with | (v, L, i) => (HR RS L ((RS.take i).map RwD.E) ∧ i ≤ rn ∧ L.length ≤ i)) (fun (q : Value × (List HdD) × Nat) => match q with | (v, L, i) => [(0, .func (.yield l) #[] #[]), (3, .pointer (some ⟨g3, 0, none⟩)), (7, .slice rA rn rc), (8, .int .i64 rn), (9, .int .i64 i)]) (fun (q : Value × (List HdD) × Nat) => match q with | (v, L, i) => [own 0 109 2 v HE L, blk g3 [v] 107, Γ t0]) (fun (q : Value × (List HdD) × Nat) => match q with | (v, L, i) => [blk bt [.slice rA rn rc] 22, sl rA 1 RE RS, allF RS rwF]) (fun (q : Value × (List HdD) × Nat) => match q with | (v, L, i) => rn - i) (.slice none 0 0, [], 0) rfl ⟨HR.start RS, Nat.zero_le _, Nat.le_refl _⟩ (by repeat (first | exact trivial | refine ⟨rfl, ?_⟩)) sA sS ?_
  rintro ⟨v, L, i⟩ hI
  replace hI : (HR RS L ((RS.take i).map RwD.E) ∧ i ≤ rn ∧ L.length ≤ i) := hI
  change GK _ _ [(0, .func (.yield l) #[] #[]), (3, .pointer (some ⟨g3, 0, none⟩)), (7, .slice rA rn rc), (8, .int .i64 rn), (9, .int .i64 i)] [own 0 109 2 v HE L, blk g3 [v] 107, Γ t0] [blk bt [.slice rA rn rc] 22, sl rA 1 RE RS, allF RS rwF]
  obtain ⟨hHR, hir, hLi⟩ := hI
  by_cases hlt : i < rn
  · obtain ⟨r, hr⟩ : ∃ r, RS[i]? = some r := ⟨RS[i], List.getElem?_eq_getElem (by omega)⟩
    have hrm := List.mem_of_getElem? hr
    have hro := hok r hrm
    have htl : ((RS.take i).map RwD.E).length = i := by rw [List.length_map, List.length_take]; omega
    have ht1 : (RS.take (i + 1)).map RwD.E = (RS.take i).map RwD.E ++ [r.E] := by
      obtain ⟨h1, h2⟩ := List.getElem?_eq_some_iff.1 hr
      rw [List.take_succ_eq_append_getElem h1, h2, List.map_append]
      rfl
    have hnx0 : r.E = [] → HR RS L ((RS.take (i + 1)).map RwD.E) := fun h => by rw [ht1, h]; exact hHR.push0
    have hnx1 : r.E ≠ [] → HR RS (L ++ [⟨r.s, r.E, i⟩]) ((RS.take (i + 1)).map RwD.E) := fun h => by
      have := hHR.push1 (s := r.s) (E := r.E) (by rw [htl]; exact hok_row hrm hro h) hro.srt
      rw [htl] at this
      rw [ht1]
      exact this
    have hrn' : r.s.n = r.E.length := hro.ok.n
    refine gk_elem (enc := RE) (L := RS) i mE (by omega) (by decide) (fun b1 o1 y1 eA hy1 => ?_)
    subst eA
    obtain rfl : r = y1 := by rw [hr] at hy1; exact Option.some.inj hy1
    obtain ⟨⟨zA, zn, zc⟩, E⟩ := r
    dsimp only at hnx0 hnx1 hrn'
    change GK _ _ _ _ (row b1 (o1 + i * 1) [.slice zA zn zc] :: _)
    by_cases hE : E = []
    · have hz0 : zn = 0 := by rw [hrn', hE]; rfl
      (repeat' (first | (refine gG ?_; try intro _) | ((first | refine g_split rfl rfl tE (fun _ => ?_) (fun _ => ?_) | refine gk_cond rfl rfl tE (fun _ => ?_) (fun _ => ?_)) <;> (try first | (exfalso; omega; done) | (rename_i hx; exact absurd rfl hx) | (rename_i hx; cases hx; done)))))
      refine gk_again_sel rfl (v, L, i + 1) ⟨hnx0 hE, hlt, by omega⟩ (by dsimp only; omega) (by repeat (first | exact trivial | refine ⟨rfl, ?_⟩)) sA sS
    · have hz0 : 0 < zn := by rw [hrn']; exact List.length_pos_iff.2 hE
      (repeat' (first | (refine gG ?_; try intro _) | ((first | refine g_split rfl rfl tE (fun _ => ?_) (fun _ => ?_) | refine gk_cond rfl rfl tE (fun _ => ?_) (fun _ => ?_)) <;> (try first | (exfalso; omega; done) | (rename_i hx; exact absurd rfl hx) | (rename_i hx; cases hx; done)))))
      refine g_mv rfl (mv_append (L := L) rfl [(⟨⟨zA, zn, zc⟩, E, i⟩ : HdD)] rfl rfl rfl rfl elt_H (by intro _; first | ((repeat (first | with_reducible exact Upd.here _ | with_reducible apply Upd.there)); done) | ((repeat (first | exact Upd.here _ | apply Upd.there)); done) | fail) (src_blk mE rfl) rfl oneH (by simp only [maxLen, List.length_cons, List.length_nil]; omega) (by simp only [List.length_cons, List.length_nil]; omega) (Nat.zero_le _) (fun v1 => ?_))
      refine g_ownv v1 mE (fun A1 c1 hv1 _ _ _ => ?_)
      subst hv1
      (repeat (refine gG ?_; try intro _))
      refine gk_again_sel rfl (.slice A1 (L ++ [(⟨⟨zA, zn, zc⟩, E, i⟩ : HdD)]).length c1, L ++ [(⟨⟨zA, zn, zc⟩, E, i⟩ : HdD)], i + 1) ⟨hnx1 hE, hlt, by rw [List.length_append]; simp only [List.length_cons, List.length_nil]; omega⟩ (by dsimp only; omega) (by repeat (first | exact trivial | refine ⟨rfl, ?_⟩)) sA sS
  · have hin : i = RS.length := by omega
    rw [hin, List.take_length] at hHR
    (repeat' (first | (refine gG ?_; try intro _) | ((first | refine g_split rfl rfl tE (fun _ => ?_) (fun _ => ?_) | refine gk_cond rfl rfl tE (fun _ => ?_) (fun _ => ?_)) <;> (try first | (exfalso; omega; done) | (rename_i hx; exact absurd rfl hx) | (rename_i hx; cases hx; done)))))
    refine g_yd rfl rfl (Ys.yd (ys_makeIface rfl rfl (by kernel_rfl))) ?_
    refine g_pack (mhL g3 v L) [Γ t0] (sA : SelAll [blk g3 [v] 107, own 0 109 2 v HE L, Γ t0] _) ?_
    refine g_mv rfl (mv_call_mod (φ := mhF g3 v L) (ψ := fun L' => mhF g3 v L') (fun w hk => hinit_any (mhHO RS g3) v L w (hk.rO (φ := mhF g3 v L) mE) (hk.rds (l := [allF RS rwF]) sS) (fun ψ hψ b hb => by
      obtain rfl := List.mem_singleton.1 hψ
      exact hk.disR (mhF g3 v L) mE (allF RS rwF) mE b hb) trivial (by omega) (fun z hz => (hHR.ok z hz).1)) rfl rfl rfl rfl rfl (by kernel_rfl) (by intro _; first | ((repeat (first | with_reducible exact Upd.here _ | with_reducible apply Upd.there)); done) | ((repeat (first | exact Upd.here _ | apply Upd.there)); done) | fail) (fun L1 hI => ?_))
    obtain ⟨hp1, hh1⟩ := hI
    have hL1 := hp1.length_eq
    (repeat (refine gG ?_; try intro _))
    refine gk_loop_sel (fun (q : Value × (List HdD) × (List (List EntD)) × Nat × τ) => match q with | (v, L, rem, m, t) => (HR RS L rem ∧ HeapN ltH L L.length ∧ L.length ≤ 8 ∧ insAll rem = (insAll (RS.map RwD.E)).drop m ∧ m ≤ (insAll (RS.map RwD.E)).length ∧ Iv m t)) (fun (q : Value × (List HdD) × (List (List EntD)) × Nat × τ) => match q with | (v, L, rem, m, t) => [(0, .func (.yield l) #[] #[]), (3, .pointer (some ⟨g3, 0, none⟩))]) (fun (q : Value × (List HdD) × (List (List EntD)) × Nat × τ) => match q with | (v, L, rem, m, t) => [mhF g3 v L, Γ t]) (fun (q : Value × (List HdD) × (List (List EntD)) × Nat × τ) => match q with | (v, L, rem, m, t) => [blk bt [.slice rA rn rc] 22, sl rA 1 RE RS, allF RS rwF]) (fun (q : Value × (List HdD) × (List (List EntD)) × Nat × τ) => match q with | (v, L, rem, m, t) => (insAll rem).length) (v, L1, RS.map RwD.E, 0, t0) rfl ⟨hHR.perm hp1, hh1, by omega, rfl, Nat.zero_le _, h0⟩ (by repeat (first | exact trivial | refine ⟨rfl, ?_⟩)) sA sS ?_
    rintro ⟨v, L, rem, m, t⟩ hI
    replace hI : (HR RS L rem ∧ HeapN ltH L L.length ∧ L.length ≤ 8 ∧ insAll rem = (insAll (RS.map RwD.E)).drop m ∧ m ≤ (insAll (RS.map RwD.E)).length ∧ Iv m t) := hI
    change GK _ _ [(0, .func (.yield l) #[] #[]), (3, .pointer (some ⟨g3, 0, none⟩))] [mhF g3 v L, Γ t] [blk bt [.slice rA rn rc] 22, sl rA 1 RE RS, allF RS rwF]
    obtain ⟨hHR, hh, hL8, hrem, hm, hiv⟩ := hI
    refine gk_unpack (by repeat (first | with_reducible exact Sel.here | with_reducible apply Sel.there)) ?_
    cases L with
    | nil =>
      have hmd : (insAll (RS.map RwD.E)).length ≤ m := by
        rw [insAll_nil hHR.nil] at hrem
        exact List.drop_eq_nil_iff.1 hrem.symm
      obtain rfl : m = (insAll (RS.map RwD.E)).length := by omega
      change GK _ _ _ [blk g3 [v] 107, own 0 109 2 v HE ([] : List HdD), Γ t] _
      (repeat (refine gG ?_; try intro _))
      refine g_ownv v mE (fun A1 c1 hv1 _ _ _ => ?_)
      subst hv1
      (repeat' (first | (refine gG ?_; try intro _) | ((first | refine g_split rfl rfl tE (fun _ => ?_) (fun _ => ?_) | refine gk_cond rfl rfl tE (fun _ => ?_) (fun _ => ?_)) <;> (try first | (exfalso; omega; done) | (rename_i hx; exact absurd rfl hx) | (rename_i hx; cases hx; done)))))
      refine gk_fin hT rfl rfl .nil (fun w' hk => ?_)
      exact ⟨⟨_, rfl⟩, t, hk.outM (fun b hb => finE_in b hb) mE, .inl hiv⟩
    | cons x L2 =>
      obtain ⟨hx1, hx4⟩ := hHR.ok x (.head _)
      obtain ⟨e, t', hxE⟩ : ∃ e t', x.E = e :: t' := by
        cases h : x.E with
        | nil => exact absurd h hx1.ne
        | cons e t => exact ⟨e, t, rfl⟩
      have hroot : ∀ y, y ∈ x :: L2 → ¬ ltH y x := fun y hy => by
        obtain ⟨k, hk⟩ := List.getElem?_of_mem hy
        exact hh.root lt_head (Nat.le_refl _) (x := x) rfl k (List.getElem?_eq_some_iff.1 hk).1 y hk
      have hnext := hHR.next hxE hroot
      rw [hnext] at hrem
      have hxm : (insAll (RS.map RwD.E))[m]? = some e := by
        have : ((insAll (RS.map RwD.E)).drop m)[0]? = some e := by rw [← hrem]; rfl
        rw [List.getElem?_drop] at this
        exact this
      have hm1 := (List.getElem?_eq_some_iff.1 hxm).1
      have hrem' : insAll (rem.set x.i t') = (insAll (RS.map RwD.E)).drop (m + 1) := by
        have := congrArg (List.drop 1) hrem
        rw [List.drop_drop] at this
        exact this
      have hmu : (insAll (rem.set x.i t')).length < (insAll rem).length := by rw [hnext, List.length_cons]; omega
      have hst1 : ∀ s : SlV, HOk RS ⟨s, t', x.i⟩ → HR RS (⟨s, t', x.i⟩ :: L2) (rem.set x.i t') := fun s h => hHR.step1 hxE h
      have hst0 : ∀ (z : HdD) (L' : List HdD), t' = [] → z.i = x.i → (L' ++ [z]).Perm (z :: L2) → HR RS L' (rem.set x.i t') := fun z L' h1 h2 h3 => by subst h1; exact hHR.step0 hxE h2 h3
      obtain ⟨⟨zA, zn, zc⟩, E, xi⟩ := x
      dsimp only at hxE
      subst hxE
      have hzn : zn = t'.length + 1 := hx1.ok.n
      have hzc : zn ≤ zc := hx1.ok.c
      change GK _ _ _ [blk g3 [v] 107, own 0 109 2 v HE (⟨⟨zA, zn, zc⟩, e :: t', xi⟩ :: L2), Γ t] _
      refine gk_own0 v mE (by simp) (fun b c hv hc1 hc2 => ?_)
      subst hv
      refine gk_der [allF RS rwF] hx1.der sS ?_
      refine gk_elem (enc := EE) (L := e :: t') 0 mE (by simp) (by decide) (fun zb zo y eA hy => ?_)
      replace eA : zA = some ⟨zb, zo, none⟩ := eA
      subst eA
      obtain rfl : e = y := Option.some.inj hy
      have hN : (⟨⟨some ⟨zb, zo, none⟩, zn, zc⟩, e :: t', xi⟩ :: L2 : List HdD).length = L2.length + 1 := rfl
      (repeat' (first | (refine gG ?_; try intro _) | ((first | refine g_split rfl rfl tE (fun _ => ?_) (fun _ => ?_) | refine gk_cond rfl rfl tE (fun _ => ?_) (fun _ => ?_)) <;> (try first | (exfalso; omega; done) | (rename_i hx; exact absurd rfl hx) | (rename_i hx; cases hx; done)))))
      refine g_yd rfl rfl ((ys_load_el (S := [own 0 109 2 (.slice (some ⟨b, 0, none⟩) (⟨⟨some ⟨zb, zo, none⟩, zn, zc⟩, e :: t', xi⟩ :: L2 : List HdD).length c) HE (⟨⟨some ⟨zb, zo, none⟩, zn, zc⟩, e :: t', xi⟩ :: L2)]) (o0 := 0) (sz := 2) (enc := HE) (L := ⟨⟨some ⟨zb, zo, none⟩, zn, zc⟩, e :: t', xi⟩ :: L2) hT 0 ⟨⟨some ⟨zb, zo, none⟩, zn, zc⟩, e :: t', xi⟩ 0 rfl rfl rfl rfl rfl (at_own mE) rfl rfl).ydS sF) ?_
      refine g_say 32 (.slice (some ⟨zb, zo, none⟩) zn zc) rfl rfl ?_
      (repeat (refine gG ?_; try intro _))
      rename_i g6
      replace hmu : (insAll (rem.set xi t')).length < (insAll rem).length := hmu
      replace hrem' : insAll (rem.set xi t') = (insAll (RS.map RwD.E)).drop (m + 1) := hrem'
      have hN' : ((⟨⟨shA (some ⟨zb, zo, none⟩) 1 zc 4, zn - 1, zc - 1⟩, t', xi⟩ : HdD) :: L2).length = L2.length + 1 := rfl
      change GK _ _ _ [blk g6 [.int .u16 e.k.v, .int .u32 e.k.b, .int .u64 e.k.s, .int .u32 e.a] 31, blk g3 [(.slice (some ⟨b, 0, none⟩) ((⟨⟨some ⟨zb, zo, none⟩, zn, zc⟩, e :: t', xi⟩ : HdD) :: L2).length c)] 107, own 0 109 2 (.slice (some ⟨b, 0, none⟩) ((⟨⟨some ⟨zb, zo, none⟩, zn, zc⟩, e :: t', xi⟩ : HdD) :: L2).length c) HE ((⟨⟨some ⟨zb, zo, none⟩, zn, zc⟩, e :: t', xi⟩ : HdD) :: L2), Γ t] _
      refine gk_any [1] (Cut _ (fun _ : Unit => [(0, .func (.yield l) #[] #[]), (3, .pointer (some ⟨g3, 0, none⟩)), (6, .pointer (some ⟨g6, 0, none⟩))]) (fun _ => [blk g6 [.int .u16 e.k.v, .int .u32 e.k.b, .int .u64 e.k.s, .int .u32 e.a] 31, blk g3 [(.slice (some ⟨b, 0, none⟩) ((⟨⟨some ⟨zb, zo, none⟩, zn, zc⟩, e :: t', xi⟩ : HdD) :: L2).length c)] 107, own 0 109 2 (.slice (some ⟨b, 0, none⟩) ((⟨⟨some ⟨zb, zo, none⟩, zn, zc⟩, e :: t', xi⟩ : HdD) :: L2).length c) HE ((⟨⟨shA (some ⟨zb, zo, none⟩) 1 zc 4, zn - 1, zc - 1⟩, t', xi⟩ : HdD) :: L2), Γ t]) (fun _ => [blk bt [.slice rA rn rc] 22, sl rA 1 RE RS, allF RS rwF])) rfl rfl (by kernel_rfl) ?_ (cut_k fun _ => ?_)
      · skip
        refine gb_take 0 rfl (by decide +kernel) rfl rfl (by first | exact ys_blk hT rfl rfl mE rfl rfl | exact ys_row hT rfl rfl mE rfl rfl | exact ys_row0 hT rfl rfl mE rfl rfl) sF ?_
        refine gb_take 1 rfl (by decide +kernel) rfl rfl (by first | exact ys_blk hT rfl rfl mE rfl rfl | exact ys_row hT rfl rfl mE rfl rfl | exact ys_row0 hT rfl rfl mE rfl rfl) sF ?_
        refine gb_take 2 rfl (by decide +kernel) rfl rfl (ys_ev (nw := true) hT rfl sI) sF ?_
        refine gb_take 3 rfl (by decide +kernel) rfl rfl (ys_ev (nw := true) hT rfl sI) sF ?_
        refine gb_only 4 (by decide +kernel) rfl rfl ?_
        refine mv_yd rfl ((ys_load_el (S := [own 0 109 2 (.slice (some ⟨b, 0, none⟩) ((⟨⟨some ⟨zb, zo, none⟩, zn, zc⟩, e :: t', xi⟩ : HdD) :: L2).length c) HE ((⟨⟨some ⟨zb, zo, none⟩, zn, zc⟩, e :: t', xi⟩ : HdD) :: L2)]) (o0 := 0) (sz := 2) (enc := HE) (L := (⟨⟨some ⟨zb, zo, none⟩, zn, zc⟩, e :: t', xi⟩ : HdD) :: L2) hT 0 (⟨⟨some ⟨zb, zo, none⟩, zn, zc⟩, e :: t', xi⟩ : HdD) 0 rfl rfl rfl rfl rfl (at_own mE) rfl rfl).ydS sF) ?_
        refine ⟨sF, ?_⟩
        try (refine gb_say 39 (.slice (some ⟨zb, zo, none⟩) zn zc) rfl rfl ?_)
        refine gb_take 5 rfl (by decide +kernel) rfl rfl (ys_slice_l hT 1 rfl rfl rfl rfl rfl (by omega)) sF ?_
        refine gb_take 6 rfl (by decide +kernel) rfl rfl (ys_ev (nw := true) hT rfl sI) sF ?_
        refine gb_take 7 rfl (by decide +kernel) rfl rfl (ys_ev (nw := true) hT rfl sI) sF ?_
        refine gb_only 8 (by decide +kernel) rfl rfl ?_
        refine mv_store_own (α := HdD) (sz := 2) (enc := HE) (L := (⟨⟨some ⟨zb, zo, none⟩, zn, zc⟩, e :: t', xi⟩ : HdD) :: L2) hT 0 0 (⟨⟨some ⟨zb, zo, none⟩, zn, zc⟩, e :: t', xi⟩ : HdD) (⟨⟨shA (some ⟨zb, zo, none⟩) 1 zc 4, zn - 1, zc - 1⟩, t', xi⟩ : HdD) rfl rfl rfl rfl rfl rfl rfl rfl (by decide) (fun b hb hne => (by have h1 : b = 1 := (by omega); subst h1; rfl)) rfl (by first | ((repeat (first | with_reducible exact Upd.here _ | with_reducible apply Upd.there)); done) | ((repeat (first | exact Upd.here _ | apply Upd.there)); done) | fail) rfl ?_
        refine ⟨sF, ?_⟩
        refine gb_nil (by decide +kernel) ?_
        exact ⟨(), (by repeat (first | exact trivial | refine ⟨rfl, ?_⟩)), sA, sS⟩
      · (repeat (refine gG ?_; try intro _))
        refine g_yd rfl rfl ((ys_load_el (S := [own 0 109 2 (.slice (some ⟨b, 0, none⟩) ((⟨⟨some ⟨zb, zo, none⟩, zn, zc⟩, e :: t', xi⟩ : HdD) :: L2).length c) HE ((⟨⟨shA (some ⟨zb, zo, none⟩) 1 zc 4, zn - 1, zc - 1⟩, t', xi⟩ : HdD) :: L2)]) (o0 := 0) (sz := 2) (enc := HE) (L := (⟨⟨shA (some ⟨zb, zo, none⟩) 1 zc 4, zn - 1, zc - 1⟩, t', xi⟩ : HdD) :: L2) hT 0 (⟨⟨shA (some ⟨zb, zo, none⟩) 1 zc 4, zn - 1, zc - 1⟩, t', xi⟩ : HdD) 0 rfl rfl rfl rfl rfl (at_own mE) rfl rfl).ydS sF) ?_
        refine g_say 46 (.slice (shA (some ⟨zb, zo, none⟩) 1 zc 4) (zn - 1) (zc - 1)) rfl rfl ?_
        by_cases ht' : t' = []
        · have hzn1 : zn - 1 = 0 := by rw [hzn, ht']; rfl
          (repeat' (first | (refine gG ?_; try intro _) | ((first | refine g_split rfl rfl tE (fun _ => ?_) (fun _ => ?_) | refine gk_cond rfl rfl tE (fun _ => ?_) (fun _ => ?_)) <;> (try first | (exfalso; omega; done) | (rename_i hx; exact absurd rfl hx) | (rename_i hx; cases hx; done)))))
          refine g_yd rfl rfl (Ys.yd (ys_makeIface rfl rfl (by kernel_rfl))) ?_
          refine g_pack (mhL g3 (.slice (some ⟨b, 0, none⟩) ((⟨⟨some ⟨zb, zo, none⟩, zn, zc⟩, e :: t', xi⟩ : HdD) :: L2).length c) ((⟨⟨shA (some ⟨zb, zo, none⟩) 1 zc 4, zn - 1, zc - 1⟩, t', xi⟩ : HdD) :: L2)) [blk g6 [.int .u16 e.k.v, .int .u32 e.k.b, .int .u64 e.k.s, .int .u32 e.a] 31, Γ t] (sA : SelAll [blk g3 [(.slice (some ⟨b, 0, none⟩) ((⟨⟨some ⟨zb, zo, none⟩, zn, zc⟩, e :: t', xi⟩ : HdD) :: L2).length c)] 107, own 0 109 2 (.slice (some ⟨b, 0, none⟩) ((⟨⟨some ⟨zb, zo, none⟩, zn, zc⟩, e :: t', xi⟩ : HdD) :: L2).length c) HE ((⟨⟨shA (some ⟨zb, zo, none⟩) 1 zc 4, zn - 1, zc - 1⟩, t', xi⟩ : HdD) :: L2), blk g6 [.int .u16 e.k.v, .int .u32 e.k.b, .int .u64 e.k.s, .int .u32 e.a] 31, Γ t] _) ?_
          refine g_mv rfl (mv_call_mod (φ := mhF g3 (.slice (some ⟨b, 0, none⟩) ((⟨⟨some ⟨zb, zo, none⟩, zn, zc⟩, e :: t', xi⟩ : HdD) :: L2).length c) ((⟨⟨shA (some ⟨zb, zo, none⟩) 1 zc 4, zn - 1, zc - 1⟩, t', xi⟩ : HdD) :: L2)) (ψ := fun q : Value × List HdD × HdD => mhF g3 q.1 q.2.1) (fun w hk => hpop_any (mhHO RS g3) (.slice (some ⟨b, 0, none⟩) ((⟨⟨some ⟨zb, zo, none⟩, zn, zc⟩, e :: t', xi⟩ : HdD) :: L2).length c) ((⟨⟨shA (some ⟨zb, zo, none⟩) 1 zc 4, zn - 1, zc - 1⟩, t', xi⟩ : HdD) :: L2) ((⟨⟨some ⟨zb, zo, none⟩, zn, zc⟩, e :: t', xi⟩ : HdD) :: L2) w (hk.rO (φ := mhF g3 (.slice (some ⟨b, 0, none⟩) ((⟨⟨some ⟨zb, zo, none⟩, zn, zc⟩, e :: t', xi⟩ : HdD) :: L2).length c) ((⟨⟨shA (some ⟨zb, zo, none⟩) 1 zc 4, zn - 1, zc - 1⟩, t', xi⟩ : HdD) :: L2)) mE) (hk.rds (l := [allF RS rwF]) sS) (fun ψ hψ b9 hb => by
            obtain rfl := List.mem_singleton.1 hψ
            exact hk.disR (mhF g3 (.slice (some ⟨b, 0, none⟩) ((⟨⟨some ⟨zb, zo, none⟩, zn, zc⟩, e :: t', xi⟩ : HdD) :: L2).length c) ((⟨⟨shA (some ⟨zb, zo, none⟩) 1 zc 4, zn - 1, zc - 1⟩, t', xi⟩ : HdD) :: L2)) mE (allF RS rwF) mE b9 hb) trivial (by omega) (by omega) rfl hh (fun k hk0 => by
              cases k with
              | zero => exact absurd rfl hk0
              | succ k => rfl) (fun k z hk0 hz => by
              cases k with
              | zero => exact absurd hk0 (Nat.lt_irrefl _)
              | succ k => exact (hHR.ok z (.tail _ (List.mem_of_getElem? hz))).1)) rfl rfl rfl rfl rfl (by kernel_rfl) (by intro _; first | ((repeat (first | with_reducible exact Upd.here _ | with_reducible apply Upd.there)); done) | ((repeat (first | exact Upd.here _ | apply Upd.there)); done) | fail) (fun q hI => ?_))
          obtain ⟨qv, qL, qx⟩ := q
          obtain ⟨hq0, hqp, hhq⟩ := hI
          replace hqp : (qL ++ [qx]).Perm ((⟨⟨shA (some ⟨zb, zo, none⟩) 1 zc 4, zn - 1, zc - 1⟩, t', xi⟩ : HdD) :: L2) := hqp
          replace hhq : HeapN ltH qL qL.length := hhq
          obtain rfl : (⟨⟨shA (some ⟨zb, zo, none⟩) 1 zc 4, zn - 1, zc - 1⟩, t', xi⟩ : HdD) = qx := Option.some.inj hq0
          have hHq := hst0 (⟨⟨shA (some ⟨zb, zo, none⟩) 1 zc 4, zn - 1, zc - 1⟩, t', xi⟩ : HdD) qL ht' rfl hqp
          have hq8 : qL.length ≤ 8 := by
            have := hqp.length_eq
            rw [List.length_append] at this
            simp only [List.length_cons, List.length_nil] at this hL8
            omega
          (repeat (refine gG ?_; try intro _))
          refine g_yield Γ t (fun b t2 => (b = true → Iv (m + 1) t2) ∧ (b = false → Dn t2)) rfl rfl rfl rfl rfl rfl (fun w hk => hY m e t w hxm hiv (hk.outM (fun b hb => finE_in b hb) mE)) (by intro _; first | ((repeat (first | with_reducible exact Upd.here _ | with_reducible apply Upd.there)); done) | ((repeat (first | exact Upd.here _ | apply Upd.there)); done) | fail) (fun b t2 hJ => ?_)
          cases b with
          | true =>
            (repeat (refine gG ?_; try intro _))
            refine gk_again_sel rfl (qv, qL, rem.set xi t', m + 1, t2) ⟨hHq, hhq, hq8, hrem', hm1, hJ.1 rfl⟩ (by dsimp only; omega) (by repeat (first | exact trivial | refine ⟨rfl, ?_⟩)) sA sS
          | false =>
            (repeat (refine gG ?_; try intro _))
            refine gk_ret hT rfl rfl .nil (fun w' hk => ?_)
            exact ⟨⟨_, rfl⟩, t2, hk.outM (fun b hb => finE_in b hb) mE, .inr (hJ.2 rfl)⟩
        · have hzn1 : 0 < zn - 1 := by rw [hzn]; have := List.length_pos_iff.2 ht'; omega
          have hXN := hok_tail hx1 ht'
          (repeat' (first | (refine gG ?_; try intro _) | ((first | refine g_split rfl rfl tE (fun _ => ?_) (fun _ => ?_) | refine gk_cond rfl rfl tE (fun _ => ?_) (fun _ => ?_)) <;> (try first | (exfalso; omega; done) | (rename_i hx; exact absurd rfl hx) | (rename_i hx; cases hx; done)))))
          refine g_yd rfl rfl (Ys.yd (ys_makeIface rfl rfl (by kernel_rfl))) ?_
          refine g_pack (mhL g3 (.slice (some ⟨b, 0, none⟩) ((⟨⟨some ⟨zb, zo, none⟩, zn, zc⟩, e :: t', xi⟩ : HdD) :: L2).length c) ((⟨⟨shA (some ⟨zb, zo, none⟩) 1 zc 4, zn - 1, zc - 1⟩, t', xi⟩ : HdD) :: L2)) [blk g6 [.int .u16 e.k.v, .int .u32 e.k.b, .int .u64 e.k.s, .int .u32 e.a] 31, Γ t] (sA : SelAll [blk g3 [(.slice (some ⟨b, 0, none⟩) ((⟨⟨some ⟨zb, zo, none⟩, zn, zc⟩, e :: t', xi⟩ : HdD) :: L2).length c)] 107, own 0 109 2 (.slice (some ⟨b, 0, none⟩) ((⟨⟨some ⟨zb, zo, none⟩, zn, zc⟩, e :: t', xi⟩ : HdD) :: L2).length c) HE ((⟨⟨shA (some ⟨zb, zo, none⟩) 1 zc 4, zn - 1, zc - 1⟩, t', xi⟩ : HdD) :: L2), blk g6 [.int .u16 e.k.v, .int .u32 e.k.b, .int .u64 e.k.s, .int .u32 e.a] 31, Γ t] _) ?_
          refine g_mv rfl (mv_call_mod (φ := mhF g3 (.slice (some ⟨b, 0, none⟩) ((⟨⟨some ⟨zb, zo, none⟩, zn, zc⟩, e :: t', xi⟩ : HdD) :: L2).length c) ((⟨⟨shA (some ⟨zb, zo, none⟩) 1 zc 4, zn - 1, zc - 1⟩, t', xi⟩ : HdD) :: L2)) (ψ := fun q : List HdD => mhF g3 (.slice (some ⟨b, 0, none⟩) ((⟨⟨some ⟨zb, zo, none⟩, zn, zc⟩, e :: t', xi⟩ : HdD) :: L2).length c) q) (fun w hk => hfix_any (mhHO RS g3) (.slice (some ⟨b, 0, none⟩) ((⟨⟨some ⟨zb, zo, none⟩, zn, zc⟩, e :: t', xi⟩ : HdD) :: L2).length c) ((⟨⟨shA (some ⟨zb, zo, none⟩) 1 zc 4, zn - 1, zc - 1⟩, t', xi⟩ : HdD) :: L2) ((⟨⟨some ⟨zb, zo, none⟩, zn, zc⟩, e :: t', xi⟩ : HdD) :: L2) 0 w (hk.rO (φ := mhF g3 (.slice (some ⟨b, 0, none⟩) ((⟨⟨some ⟨zb, zo, none⟩, zn, zc⟩, e :: t', xi⟩ : HdD) :: L2).length c) ((⟨⟨shA (some ⟨zb, zo, none⟩) 1 zc 4, zn - 1, zc - 1⟩, t', xi⟩ : HdD) :: L2)) mE) (hk.rds (l := [allF RS rwF]) sS) (fun ψ hψ b9 hb => by
            obtain rfl := List.mem_singleton.1 hψ
            exact hk.disR (mhF g3 (.slice (some ⟨b, 0, none⟩) ((⟨⟨some ⟨zb, zo, none⟩, zn, zc⟩, e :: t', xi⟩ : HdD) :: L2).length c) ((⟨⟨shA (some ⟨zb, zo, none⟩) 1 zc 4, zn - 1, zc - 1⟩, t', xi⟩ : HdD) :: L2)) mE (allF RS rwF) mE b9 hb) trivial (by omega) (by omega) rfl hh (fun k hk0 => by
              cases k with
              | zero => exact absurd rfl hk0
              | succ k => rfl) (fun z hz => by
              rcases List.mem_cons.1 hz with rfl | hz
              · exact hXN
              · exact (hHR.ok z (.tail _ hz)).1)) rfl rfl rfl rfl rfl (by kernel_rfl) (by intro _; first | ((repeat (first | with_reducible exact Upd.here _ | with_reducible apply Upd.there)); done) | ((repeat (first | exact Upd.here _ | apply Upd.there)); done) | fail) (fun qL hI => ?_))
          obtain ⟨hqp, hhq⟩ := hI
          replace hqp : qL.Perm ((⟨⟨shA (some ⟨zb, zo, none⟩) 1 zc 4, zn - 1, zc - 1⟩, t', xi⟩ : HdD) :: L2) := hqp
          replace hhq : HeapN ltH qL qL.length := hhq
          have hHq := (hst1 _ hXN).perm hqp
          have hq8 : qL.length ≤ 8 := by
            have := hqp.length_eq
            simp only [List.length_cons, List.length_nil] at this hL8
            omega
          generalize ((.slice (some ⟨b, 0, none⟩) ((⟨⟨some ⟨zb, zo, none⟩, zn, zc⟩, e :: t', xi⟩ : HdD) :: L2).length c) : Value) = qv
          (repeat (refine gG ?_; try intro _))
          refine g_yield Γ t (fun b t2 => (b = true → Iv (m + 1) t2) ∧ (b = false → Dn t2)) rfl rfl rfl rfl rfl rfl (fun w hk => hY m e t w hxm hiv (hk.outM (fun b hb => finE_in b hb) mE)) (by intro _; first | ((repeat (first | with_reducible exact Upd.here _ | with_reducible apply Upd.there)); done) | ((repeat (first | exact Upd.here _ | apply Upd.there)); done) | fail) (fun b t2 hJ => ?_)
          cases b with
          | true =>
            (repeat (refine gG ?_; try intro _))
            refine gk_again_sel rfl (qv, qL, rem.set xi t', m + 1, t2) ⟨hHq, hhq, hq8, hrem', hm1, hJ.1 rfl⟩ (by dsimp only; omega) (by repeat (first | exact trivial | refine ⟨rfl, ?_⟩)) sA sS
          | false =>
            (repeat (refine gG ?_; try intro _))
            refine gk_ret hT rfl rfl .nil (fun w' hk => ?_)
            exact ⟨⟨_, rfl⟩, t2, hk.outM (fun b hb => finE_in b hb) mE, .inr (hJ.2 rfl)⟩
end Go.Proofs.Ytmbphmckakigaaa.Mg

