/- Rows of blocks that are free: Push, Pop; they are heaps. -/
import Derived.Test.YteajefmnbalofaaFr1
namespace Go.Proofs.Yteajefmnbalofaa.Hp
open Go.RowKit Mem Gx
set_option linter.unusedVariables false
set_option linter.unusedSimpArgs false
set_option maxRecDepth 100000
set_option maxHeartbeats 1000000
theorem fpush_any (g : Nat) (rest : List Value) (Tg : TypeId) (v : Value) (L : List Int) (x : Int) (w : World) (hL : L.length ≤ 100000) (h : Rd1 w (packF (frL g rest Tg v L))) :
    Calls Try.prog 120 [.pointer (some ⟨g, 0, none⟩), .iface 60 (.int .u32 x)].toArray w (RetM (packF (frL g rest Tg v L)) (fun _ : Value × Value => True) (fun r => r.2) (fun r => packF (frL g rest Tg r.1 (L ++ [x]))) w) := by
  obtain ⟨A, c, hv, hc, hm, hA, _⟩ := own_rdv (h.unpack (.tail _ (.head _)))
  subst hv
  refine g_enter0 T _ (frL g rest Tg _ L) [] Try.func120 rfl Try.ntmps120 rfl (Kn.startP h (fun b hb => (fr_fin g rest Tg _ L b).1 hb) (fun _ h => by cases h)) ?_
  refine gk_any [] (Cut _ (fun _ : Value => []) (fun v => frL g rest Tg v (L ++ [x])) (fun _ => [])) rfl rfl (by kernel_rfl) ?_ (cut_k fun v => ?_)
  · skip
    refine gb_take 0 rfl (by decide +kernel) rfl rfl (ys_ev (nw := true) hT rfl sI) sF ?_
    refine gb_take 1 rfl (by decide +kernel) rfl rfl (ys_ev (nw := true) hT rfl sI) sF ?_
    refine gb_take 2 rfl (by decide +kernel) rfl rfl (ys_ev (nw := true) hT rfl sI) sF ?_
    refine gb_take 4 rfl (by decide +kernel) rfl rfl (ys_ev (nw := true) hT rfl sI) sF ?_
    refine gb_take 5 rfl (by decide +kernel) rfl rfl (ys_typeAssert rfl rfl (by kernel_rfl)) sF ?_
    refine gb_all (by decide +kernel) ?_
    refine gball_not (by decide +kernel) ?_
    refine gball_not (by decide +kernel) ?_
    refine gball_not (by decide +kernel) ?_
    refine gball_yes rfl rfl ?_ ?_
    · refine mv_yd rfl (yd_load_blk hT rfl rfl mE rfl rfl) ?_
      refine ⟨sF, ?_⟩
      refine gb_only 6 (by decide +kernel) rfl rfl ?_
      (refine mv_buildSlice (len := 1) rfl hT rfl rfl rfl rfl rfl rfl rfl rfl ?_; intro g7)
      refine ⟨sF, ?_⟩
      refine gb_only 7 (by decide +kernel) rfl rfl ?_
      refine mv_append (L := L) rfl [x] rfl rfl rfl rfl elt_F (by intro _; first | ((repeat (first | with_reducible exact Upd.here _ | with_reducible apply Upd.there)); done) | ((repeat (first | exact Upd.here _ | apply Upd.there)); done) | fail) (src_blk mE rfl) rfl oneU (by simp only [maxLen, List.length_cons, List.length_nil]; omega) (by simp only [List.length_cons, List.length_nil]; omega) (Nat.zero_le _) (fun v2 => ?_)
      refine ⟨sF, ?_⟩
      (refine gb_ownv v2 mE (fun A2 c2 hv2 _ _ _ => ?_); subst hv2)
      refine gb_take 8 rfl (by decide +kernel) rfl rfl (ys_ev (nw := true) hT rfl sI) sF ?_
      refine gb_only 9 (by decide +kernel) rfl rfl ?_
      first | (refine mv_box rfl rfl rfl rfl ?_; intro _) | (refine mv_alloc rfl hT rfl rfl ?_; intro _) | refine mv_store hT rfl rfl rfl rfl rfl rfl sO rfl ?_ | (refine mv_buildSlice rfl hT rfl rfl rfl rfl rfl rfl rfl rfl ?_; intro _)
      refine ⟨sF, ?_⟩
      refine gb_nil (by decide +kernel) ?_
      exact ⟨_, (by repeat (first | exact trivial | refine ⟨rfl, ?_⟩)), sA, sS⟩
    refine gball_not (by decide +kernel) ?_
    refine gball_not (by decide +kernel) ?_
    refine gball_yes rfl rfl ?_ ?_
    · (refine mv_buildSlice (len := 1) rfl hT rfl rfl rfl rfl rfl rfl rfl rfl ?_; intro g7)
      refine ⟨sF, ?_⟩
      refine gb_only 3 (by decide +kernel) rfl rfl ?_
      refine mv_yd rfl (yd_load_blk hT rfl rfl mE rfl rfl) ?_
      refine ⟨sF, ?_⟩
      refine gb_only 7 (by decide +kernel) rfl rfl ?_
      refine mv_append (L := L) rfl [x] rfl rfl rfl rfl elt_F (by intro _; first | ((repeat (first | with_reducible exact Upd.here _ | with_reducible apply Upd.there)); done) | ((repeat (first | exact Upd.here _ | apply Upd.there)); done) | fail) (src_blk mE rfl) rfl oneU (by simp only [maxLen, List.length_cons, List.length_nil]; omega) (by simp only [List.length_cons, List.length_nil]; omega) (Nat.zero_le _) (fun v2 => ?_)
      refine ⟨sF, ?_⟩
      (refine gb_ownv v2 mE (fun A2 c2 hv2 _ _ _ => ?_); subst hv2)
      refine gb_take 8 rfl (by decide +kernel) rfl rfl (ys_ev (nw := true) hT rfl sI) sF ?_
      refine gb_only 9 (by decide +kernel) rfl rfl ?_
      first | (refine mv_box rfl rfl rfl rfl ?_; intro _) | (refine mv_alloc rfl hT rfl rfl ?_; intro _) | refine mv_store hT rfl rfl rfl rfl rfl rfl sO rfl ?_ | (refine mv_buildSlice rfl hT rfl rfl rfl rfl rfl rfl rfl rfl ?_; intro _)
      refine ⟨sF, ?_⟩
      refine gb_nil (by decide +kernel) ?_
      exact ⟨_, (by repeat (first | exact trivial | refine ⟨rfl, ?_⟩)), sA, sS⟩
    refine gball_not (by decide +kernel) ?_
    refine gball_not (by decide +kernel) ?_
    refine gball_not (by decide +kernel) ?_
    exact gball_end (by decide +kernel)
  · (repeat (refine gG ?_; try intro _))
    refine gk_fin hT rfl rfl .nil (fun w' hk => ?_)
    exact RetM.mkP (ll := fun r : Value × Value => frL g rest Tg r.1 (L ++ [x])) (v, .tuple #[]) trivial rfl hk (fun b hb => (fr_fin g rest Tg _ L b).2 hb) sA
theorem fpop_any (g : Nat) (rest : List Value) (Tg : TypeId) (v : Value) (L : List Int) (x : Int) (w : World) (hL : L.length ≤ 100000) (h : Rd1 w (packF (frL g rest Tg v (L ++ [x])))) :
    Calls Try.prog 119 [.pointer (some ⟨g, 0, none⟩)].toArray w (RetM (packF (frL g rest Tg v (L ++ [x]))) (fun _ : Value => True) (fun _ => .iface 60 (.int .u32 x)) (fun v' => packF (frL g rest Tg v' L)) w) := by
  have hl1 : (L ++ [x]).length = L.length + 1 := by simp
  have hx : (L ++ [x])[L.length]? = some x := by simp
  obtain ⟨b, c, hv, hc, hm⟩ := own_at0 (h.unpack (.tail _ (.head _))).1 (by omega)
  rw [hl1] at hv hc
  subst hv
  refine g_enter0 T _ (frL g rest Tg _ (L ++ [x])) [] Try.func119 rfl Try.ntmps119 rfl (Kn.startP h (fun b hb => (fr_fin g rest Tg _ _ b).1 hb) (fun _ h => by cases h)) ?_
  (repeat (refine gG ?_; try intro _))
  refine g_yd rfl rfl ((ys_load_el (S := [own 0 60 1 (.slice (some ⟨b, 0, none⟩) (L.length + 1) c) (IE .u32) (L ++ [x])]) (o0 := 0) (sz := 1) (enc := IE .u32) (L := L ++ [x]) hT L.length x 0 rfl rfl rfl (by omega) hx (at_own mE) rfl rfl).ydS sF) ?_
  (repeat (refine gG ?_; try intro _))
  refine g_yd rfl rfl (Ys.yd (ys_slice_h hT L.length rfl rfl rfl rfl (by omega) (by omega))) ?_
  refine g_say 19 (.slice (some ⟨b, 0, none⟩) L.length c) rfl (by rw [shA_0]) ?_
  refine g_own_blk (g := b) (base := 0) (e := 60) (sz := 1) (n := L.length + 1) (c := c) (enc := IE .u32) (L := L ++ [x]) (by decide) (by intro _; first | ((repeat (first | with_reducible exact Upd.here _ | with_reducible apply Upd.there)); done) | ((repeat (first | exact Upd.here _ | apply Upd.there)); done) | fail) (fun r0 hr1 hr2 hr3 hr4 hr5 => ?_)
  refine g_blk_own (g := b) (e := 60) (base := 0) (sz := 1) (enc := IE .u32) (n := L.length) (c := c) L (by decide) (by first | ((repeat (first | with_reducible exact Upd.here _ | with_reducible apply Upd.there)); done) | ((repeat (first | exact Upd.here _ | apply Upd.there)); done) | fail) hr1 rfl (by omega) hr4 hr5 (by rw [flatF_append, List.append_assoc]; exact List.take_left' (flatF_length _ _ L)) ?_
  (repeat (refine gG ?_; try intro _))
  refine g_yd rfl rfl (Ys.yd (ys_makeIface rfl rfl (by kernel_rfl))) ?_
  (repeat (refine gG ?_; try intro _))
  refine gk_ret hT rfl rfl (.tmp rfl .nil) (fun w' hk => ?_)
  exact RetM.mkP (ll := fun v' => frL g rest Tg v' L) (.slice (some ⟨b, 0, none⟩) L.length c) trivial rfl hk (fun b hb => (fr_fin g rest Tg _ _ b).2 hb) sA
theorem fr_load (g : Nat) (rest : List Value) (Tg : TypeId) (v : Value) (L : List Int) (w : World) (h : Rd1 w (packF (frL g rest Tg v L))) : (loadVar 127 ⟨g, 0, none⟩).run Try.prog w = .ok v w := by
  have hb : (row g 0 (v :: rest)).p w := (h.unpack (.head _)).row.1
  obtain ⟨A, c, hv, _⟩ := own_rdv (h.unpack (.tail _ (.head _)))
  subst hv
  exact run_loadVar_at (d := .slice 60 1) (sz := 1) (by kernel_rfl) (by kernel_rfl) w g 0 (Value.slice A L.length c :: rest) hb (off := 0) rfl
theorem fr_meth {name : String} {fid : FuncId} (hm : methOf Try.prog 131 name = some (fid, false)) (hok : callable Try.prog fid = true) (g : Nat) (rest : List Value) (Tg : TypeId) (v : Value) (L : List Int) (w : World) (args : List Value) (h : Rd1 w (packF (frL g rest Tg v L))) {R : Ending → World → Prop} (hc : Calls Try.prog fid (v :: args).toArray w R) :
    IMeth Try.prog (.iface 131 (.pointer (some ⟨g, 0, none⟩))) name args w R :=
  ⟨fid, _, meth_val hm Try.underlying131 hok (fr_load g rest Tg v L w h), hc⟩
theorem lt_int : LtO (fun x y : Int => x < y) := ⟨fun h => by omega, fun h1 h2 => by omega⟩
/-- A row of blocks is a heap. -/
def frHO (g : Nat) (rest : List Value) (Tg : TypeId) : HO Value Int where
  iv := .iface 131 (.pointer (some ⟨g, 0, none⟩))
  F v L := packF (frL g rest Tg v L)
  lt x y := x < y
  ord := lt_int
  ok _ := True
  okp _ _ _ _ := trivial
  okl _ _ _ := trivial
  xv x := .iface 60 (.int .u32 x)
  fin v L w _ := ⟨g :: ownE v, fr_fin g rest Tg v L⟩
  len v L w h _ _ := fr_meth (by kernel_rfl) (by kernel_rfl) g rest Tg v L w [] h (by
    obtain ⟨A, c, hv, _⟩ := own_rdv (h.unpack (.tail _ (.head _)))
    subst hv
    exact flen_any A L.length c w)
  less v L w i j x y h _ _ hx hy := fr_meth (by kernel_rfl) (by kernel_rfl) g rest Tg v L w _ h (by
    obtain ⟨A, c, hv, _, _, _, hs⟩ := own_rdv (h.unpack (.tail _ (.head _)))
    subst hv
    exact fless_any A L.length c L i j x y w rfl hx hy hs)
  swap v L w i j x y h _ _ hx hy := fr_meth (by kernel_rfl) (by kernel_rfl) g rest Tg v L w _ h (fswap_any g rest Tg v L i j x y w hx hy h)
  push v L w x h _ hL := ⟨120, #[.pointer (some ⟨g, 0, none⟩), .iface 60 (.int .u32 x)], (by kernel_rfl), fpush_any g rest Tg v L x w hL h⟩
  pop v L x w h _ hL := ⟨119, #[.pointer (some ⟨g, 0, none⟩)], (by kernel_rfl), fpop_any g rest Tg v L x w hL h⟩
end Go.Proofs.Yteajefmnbalofaa.Hp

