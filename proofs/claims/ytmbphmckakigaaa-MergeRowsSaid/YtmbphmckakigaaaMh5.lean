/- What is left of rows: Swap, Pop; they are heaps. -/
import Derived.Test.YtmbphmckakigaaaMh4
namespace Go.Proofs.Ytmbphmckakigaaa.Mg
open Go.RowKit Mem Gx Hp Nd
set_option linter.unusedVariables false
set_option linter.unusedSimpArgs false
set_option maxRecDepth 100000
set_option maxHeartbeats 1000000
/-- The row in its block. -/
abbrev mhL (g : Nat) (v : Value) (L : List HdD) : List Fact := [blk g [v] 107, own 0 109 2 v HE L]
abbrev mhF (g : Nat) (v : Value) (L : List HdD) : Fact := packF (mhL g v L)
theorem mh_fin (g : Nat) (v : Value) (L : List HdD) : ∀ b, (mhF g v L).S b ↔ b ∈ g :: ownE v := fun b => by
  constructor
  · rintro ⟨φ, hφ, hb⟩
    rcases List.mem_cons.1 hφ with rfl | hφ
    · have : b = g := hb
      rw [this]
      exact .head _
    · obtain rfl := List.mem_singleton.1 hφ
      exact .tail _ (ownE_mem.2 hb)
  · intro hb
    rcases List.mem_cons.1 hb with rfl | hb
    · exact ⟨_, .head _, rfl⟩
    · exact ⟨_, .tail _ (.head _), ownE_mem.1 hb⟩
theorem mswap_any (g : Nat) (v : Value) (L : List HdD) (i j : Nat) (x y : HdD) (w : World) (hx : L[i]? = some x) (hy : L[j]? = some y) (h : Rd1 w (mhF g v L)) :
    Calls Try.prog 125 [v, .int .i64 (i : Int), .int .i64 (j : Int)].toArray w (RetM (mhF g v L) (fun _ : Value => True) (fun v => v) (fun _ => mhF g v (swp L i j x y)) w) := by
  have hi := (List.getElem?_eq_some_iff.1 hx).1
  have hj := (List.getElem?_eq_some_iff.1 hy).1
  obtain ⟨b, c, hv, hc, hm⟩ := own_at0 (h.unpack (.tail _ (.head _))).1 (by omega)
  subst hv
  have hy2 : (L.set i y)[j]? = some y := by
    by_cases e : i = j
    · subst e; simp [hi]
    · rw [List.getElem?_set_ne e]; exact hy
  refine g_enter0 T _ (mhL g _ L) [] Try.func125 rfl Try.ntmps125 rfl (Kn.startP h (fun b hb => (mh_fin g _ L b).1 hb) (fun _ h => by cases h)) ?_
  refine gk_any [] (Cut _ (fun _ : Unit => []) (fun _ => mhL g (.slice (some ⟨b, 0, none⟩) L.length c) (swp L i j x y)) (fun _ => [])) rfl rfl (by kernel_rfl) ?_ (cut_k fun _ => ?_)
  · skip
    refine gb_take 0 rfl (by decide +kernel) rfl rfl (ys_ev (nw := true) hT rfl sI) sF ?_
    refine gb_take 1 rfl (by decide +kernel) rfl rfl (ys_ev (nw := true) hT rfl sI) sF ?_
    refine gb_take 2 rfl (by decide +kernel) rfl rfl (ys_ev (nw := true) hT rfl sI) sF ?_
    refine gb_take 3 rfl (by decide +kernel) rfl rfl (ys_ev (nw := true) hT rfl sI) sF ?_
    refine gb_take 4 rfl (by decide +kernel) rfl rfl (ys_ev (nw := true) hT rfl sI) sF ?_
    refine gb_take 5 rfl (by decide +kernel) rfl rfl (ys_ev (nw := true) hT rfl sI) sF ?_
    refine gb_take 6 rfl (by decide +kernel) rfl rfl (ys_ev (nw := true) hT rfl sI) sF ?_
    refine gb_take 8 rfl (by decide +kernel) rfl rfl (ys_ev (nw := true) hT rfl sI) sF ?_
    refine gb_take 9 rfl (by decide +kernel) rfl rfl (ys_ev (nw := true) hT rfl sI) sF ?_
    refine gb_take 10 rfl (by decide +kernel) rfl rfl (ys_ev (nw := true) hT rfl sI) sF ?_
    refine gb_all (by decide +kernel) ?_
    refine gball_not (by decide +kernel) ?_
    refine gball_not (by decide +kernel) ?_
    refine gball_not (by decide +kernel) ?_
    refine gball_not (by decide +kernel) ?_
    refine gball_not (by decide +kernel) ?_
    refine gball_not (by decide +kernel) ?_
    refine gball_not (by decide +kernel) ?_
    refine gball_yes rfl rfl ?_ ?_
    · refine mv_yd rfl ((ys_load_el (S := [own 0 109 2 (.slice (some ⟨b, 0, none⟩) L.length c) HE L]) (o0 := 0) (sz := 2) (enc := HE) (L := L) hT j y 0 rfl rfl rfl rfl hy (at_own mE) rfl rfl).ydS sF) ?_
      refine ⟨sF, ?_⟩
      refine gb_only 11 (by decide +kernel) rfl rfl ?_
      refine mv_yd rfl ((ys_load_el (S := [own 0 109 2 (.slice (some ⟨b, 0, none⟩) L.length c) HE L]) (o0 := 0) (sz := 2) (enc := HE) (L := L) hT i x 0 rfl rfl rfl rfl hx (at_own mE) rfl rfl).ydS sF) ?_
      refine ⟨sF, ?_⟩
      refine gb_take 12 rfl (by decide +kernel) rfl rfl (ys_ev (nw := true) hT rfl sI) sF ?_
      refine gb_only 13 (by decide +kernel) rfl rfl ?_
      refine mv_store_ownW (α := HdD) (enc := HE) (L := L) hT i x y rfl rfl (Nat.zero_add _) rfl rfl rfl rfl hx (by decide) (by first | ((repeat (first | with_reducible exact Upd.here _ | with_reducible apply Upd.there)); done) | ((repeat (first | exact Upd.here _ | apply Upd.there)); done) | fail) rfl ?_
      refine ⟨sF, ?_⟩
      refine gb_take 14 rfl (by decide +kernel) rfl rfl (ys_ev (nw := true) hT rfl sI) sF ?_
      refine gb_only 15 (by decide +kernel) rfl rfl ?_
      refine mv_store_ownW (α := HdD) (enc := HE) (L := L.set i y) hT j y x rfl rfl (Nat.zero_add _) rfl rfl rfl rfl hy2 (by decide) (by first | ((repeat (first | with_reducible exact Upd.here _ | with_reducible apply Upd.there)); done) | ((repeat (first | exact Upd.here _ | apply Upd.there)); done) | fail) rfl ?_
      refine ⟨sF, ?_⟩
      refine gb_nil (by decide +kernel) ?_
      exact ⟨(), (by repeat (first | exact trivial | refine ⟨rfl, ?_⟩)), sA, List.nil_subset _⟩
    refine gball_not (by decide +kernel) ?_
    refine gball_not (by decide +kernel) ?_
    refine gball_not (by decide +kernel) ?_
    refine gball_yes rfl rfl ?_ ?_
    · refine mv_yd rfl ((ys_load_el (S := [own 0 109 2 (.slice (some ⟨b, 0, none⟩) L.length c) HE L]) (o0 := 0) (sz := 2) (enc := HE) (L := L) hT i x 0 rfl rfl rfl rfl hx (at_own mE) rfl rfl).ydS sF) ?_
      refine ⟨sF, ?_⟩
      refine gb_only 7 (by decide +kernel) rfl rfl ?_
      refine mv_yd rfl ((ys_load_el (S := [own 0 109 2 (.slice (some ⟨b, 0, none⟩) L.length c) HE L]) (o0 := 0) (sz := 2) (enc := HE) (L := L) hT j y 0 rfl rfl rfl rfl hy (at_own mE) rfl rfl).ydS sF) ?_
      refine ⟨sF, ?_⟩
      refine gb_take 12 rfl (by decide +kernel) rfl rfl (ys_ev (nw := true) hT rfl sI) sF ?_
      refine gb_only 13 (by decide +kernel) rfl rfl ?_
      refine mv_store_ownW (α := HdD) (enc := HE) (L := L) hT i x y rfl rfl (Nat.zero_add _) rfl rfl rfl rfl hx (by decide) (by first | ((repeat (first | with_reducible exact Upd.here _ | with_reducible apply Upd.there)); done) | ((repeat (first | exact Upd.here _ | apply Upd.there)); done) | fail) rfl ?_
      refine ⟨sF, ?_⟩
      refine gb_take 14 rfl (by decide +kernel) rfl rfl (ys_ev (nw := true) hT rfl sI) sF ?_
      refine gb_only 15 (by decide +kernel) rfl rfl ?_
      refine mv_store_ownW (α := HdD) (enc := HE) (L := L.set i y) hT j y x rfl rfl (Nat.zero_add _) rfl rfl rfl rfl hy2 (by decide) (by first | ((repeat (first | with_reducible exact Upd.here _ | with_reducible apply Upd.there)); done) | ((repeat (first | exact Upd.here _ | apply Upd.there)); done) | fail) rfl ?_
      refine ⟨sF, ?_⟩
      refine gb_nil (by decide +kernel) ?_
      exact ⟨(), (by repeat (first | exact trivial | refine ⟨rfl, ?_⟩)), sA, List.nil_subset _⟩
    refine gball_not (by decide +kernel) ?_
    refine gball_not (by decide +kernel) ?_
    refine gball_not (by decide +kernel) ?_
    refine gball_not (by decide +kernel) ?_
    exact gball_end (by decide +kernel)
  · (repeat (refine gG ?_; try intro _))
    refine gk_fin hT rfl rfl .nil (fun w' hk => ?_)
    exact RetM.mkP (ll := fun _ : Value => mhL g (.slice (some ⟨b, 0, none⟩) L.length c) (swp L i j x y)) (.tuple #[]) trivial rfl hk (fun b hb => (mh_fin g _ L b).2 hb) sA
abbrev HdD.val (x : HdD) : Value := .agg #[.slice x.s.A x.s.n x.s.c, .int .i64 x.i]
theorem mpop_any (g : Nat) (v : Value) (L : List HdD) (x : HdD) (w : World) (hL : L.length ≤ 100000) (h : Rd1 w (mhF g v (L ++ [x]))) :
    Calls Try.prog 126 [.pointer (some ⟨g, 0, none⟩)].toArray w (RetM (mhF g v (L ++ [x])) (fun _ : Value => True) (fun _ => .iface 109 x.val) (fun v' => mhF g v' L) w) := by
  have hl1 : (L ++ [x]).length = L.length + 1 := by simp
  have hx : (L ++ [x])[L.length]? = some x := by simp
  obtain ⟨b, c, hv, hc, hm⟩ := own_at0 (h.unpack (.tail _ (.head _))).1 (by omega)
  rw [hl1] at hv hc
  subst hv
  refine g_enter0 T _ (mhL g _ (L ++ [x])) [] Try.func126 rfl Try.ntmps126 rfl (Kn.startP h (fun b hb => (mh_fin g _ _ b).1 hb) (fun _ h => by cases h)) ?_
  (repeat (refine gG ?_; try intro _))
  refine g_yd rfl rfl ((ys_load_el (S := [own 0 109 2 (.slice (some ⟨b, 0, none⟩) (L.length + 1) c) HE (L ++ [x])]) (o0 := 0) (sz := 2) (enc := HE) (L := L ++ [x]) hT L.length x 0 rfl rfl rfl (by omega) hx (at_own mE) rfl rfl).ydS sF) ?_
  refine g_say 13 x.val rfl rfl ?_
  (repeat (refine gG ?_; try intro _))
  rename_i g4
  refine g_yd rfl rfl (Ys.yd (ys_slice_h hT L.length rfl rfl rfl rfl (by omega) (by omega))) ?_
  refine g_say 19 (.slice (some ⟨b, 0, none⟩) L.length c) rfl (by rw [shA_0]) ?_
  refine g_own_blk (g := b) (base := 0) (e := 109) (sz := 2) (n := L.length + 1) (c := c) (enc := HE) (L := L ++ [x]) (by decide) (by intro _; first | ((repeat (first | with_reducible exact Upd.here _ | with_reducible apply Upd.there)); done) | ((repeat (first | exact Upd.here _ | apply Upd.there)); done) | fail) (fun r0 hr1 hr2 hr3 hr4 hr5 => ?_)
  refine g_blk_own (g := b) (e := 109) (base := 0) (sz := 2) (enc := HE) (n := L.length) (c := c) L (by decide) (by first | ((repeat (first | with_reducible exact Upd.here _ | with_reducible apply Upd.there)); done) | ((repeat (first | exact Upd.here _ | apply Upd.there)); done) | fail) hr1 rfl (by omega) hr4 hr5 (by rw [flatF_append, List.append_assoc]; exact List.take_left' (flatF_length _ _ L)) ?_
  (repeat (refine gG ?_; try intro _))
  refine g_yd rfl rfl (Ys.yd (ys_makeIface rfl rfl (by kernel_rfl))) ?_
  (repeat (refine gG ?_; try intro _))
  refine gk_ret hT rfl rfl (.tmp rfl .nil) (fun w' hk => ?_)
  exact RetM.mkP (ll := fun v' => mhL g v' L) (.slice (some ⟨b, 0, none⟩) L.length c) trivial rfl hk (fun b hb => (mh_fin g _ _ b).2 hb) sA
theorem mh_load (g : Nat) (v : Value) (L : List HdD) (w : World) (h : Rd1 w (mhF g v L)) : (loadVar 107 ⟨g, 0, none⟩).run Try.prog w = .ok v w := by
  have hb : (row g 0 [v]).p w := (h.unpack (.head _)).row.1
  obtain ⟨A, c, hv, _⟩ := own_rdv (h.unpack (.tail _ (.head _)))
  subst hv
  exact run_loadVar_at (d := .slice 109 2) (sz := 1) (by kernel_rfl) (by kernel_rfl) w g 0 [Value.slice A L.length c] hb (off := 0) rfl
theorem mh_meth {name : String} {fid : FuncId} (hm : methOf Try.prog 111 name = some (fid, false)) (hok : callable Try.prog fid = true) (g : Nat) (v : Value) (L : List HdD) (w : World) (args : List Value) (h : Rd1 w (mhF g v L)) {R : Ending → World → Prop} (hc : Calls Try.prog fid (v :: args).toArray w R) :
    IMeth Try.prog (.iface 111 (.pointer (some ⟨g, 0, none⟩))) name args w R :=
  ⟨fid, _, meth_val hm Try.underlying111 hok (mh_load g v L w h), hc⟩
/-- What is left of rows is a heap. -/
def mhHO (RS : List RwD) (g : Nat) : HO Value HdD where
  iv := .iface 111 (.pointer (some ⟨g, 0, none⟩))
  F v L := mhF g v L
  R := [allF RS rwF]
  lt := ltH
  ord := lt_head
  ok _ := True
  okE := HOk RS
  okp _ _ _ _ := trivial
  okl _ _ _ := trivial
  xv x := .iface 109 x.val
  fin v L w _ := ⟨g :: ownE v, mh_fin g v L⟩
  len v L w h _ _ := mh_meth (by kernel_rfl) (by kernel_rfl) g v L w [] h (by
    obtain ⟨A, c, hv, _⟩ := own_rdv (h.unpack (.tail _ (.head _)))
    subst hv
    exact mlen_any A L.length c w)
  less v L w i j x y h hR hox hoy _ _ hx hy := mh_meth (by kernel_rfl) (by kernel_rfl) g v L w _ h (by
    obtain ⟨A, c, hv, _, _, _, hs⟩ := own_rdv (h.unpack (.tail _ (.head _)))
    subst hv
    exact mless_any RS A L.length c L i j x y w rfl hx hy hs (hR.mem (.head _)) hox hoy)
  swap v L w i j x y h _ _ hx hy := mh_meth (by kernel_rfl) (by kernel_rfl) g v L w _ h (mswap_any g v L i j x y w hx hy h)
  pop v L x w h _ hL := ⟨126, #[.pointer (some ⟨g, 0, none⟩)], (by kernel_rfl), mpop_any g v L x w hL h⟩
end Go.Proofs.Ytmbphmckakigaaa.Mg

