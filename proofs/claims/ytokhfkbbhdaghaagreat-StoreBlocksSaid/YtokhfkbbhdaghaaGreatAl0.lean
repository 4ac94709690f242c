/- Rows of blocks that are free, as heaps: their methods. Rows of blocks that are free: Push, Pop; they are heaps. Blocks that are free: the list's state; Len, Has, Give, Take. Blocks that are free: Give, Take. Blocks that are free: Take, Drop. free.List: New. -/
import Derived.Test.YtokhfkbbhdaghaaGreatHp4
import Derived.Test.YtokhfkbbhdaghaaGreatGxQ
import Derived.Test.YtokhfkbbhdaghaaGreatGxN
namespace Go.Proofs.YtokhfkbbhdaghaaGreat.Hp
open Go.RowKit Mem Gx
set_option linter.unusedVariables false
set_option linter.unusedSimpArgs false
set_option maxRecDepth 100000
set_option maxHeartbeats 1000000
theorem elt_F : Elt Tryz.prog 114 22 1 4 := Elt.mk' (z := .int .u32 0) Tryz.underlying114 (by kernel_rfl) rfl (by decide)
theorem oneU : ∀ (x : Int) (j : Nat), (IE .u32 x j).oneCell' = true := fun x j => rfl
theorem flen_any (A : Option Addr) (n c : Nat) (w : World) : Calls Tryz.prog 138 [.slice A n c].toArray w fun e w' => e = .returned (.int .i64 (n : Int)) ∧ Below w.heap.size w w' := by
  refine g_enter0 T [] [] [] Tryz.func138 rfl Tryz.ntmps138 rfl (Kn.start _) ?_
  (repeat' (first | (refine gG ?_; try intro _) | ((first | refine g_split rfl rfl tE (fun _ => ?_) (fun _ => ?_) | refine gk_cond rfl rfl tE (fun _ => ?_) (fun _ => ?_)) <;> (try first | (exfalso; omega; done) | (rename_i hx; exact absurd rfl hx) | (rename_i hx; cases hx; done)))))
  refine gk_ret hT rfl rfl (.tmp rfl .nil) (fun w' hk => ?_)
  exact ⟨rfl, hk.toBelow⟩
theorem fless_any (A : Option Addr) (n c : Nat) (L : List Int) (i j : Nat) (x y : Int) (w : World) (hn : n = L.length) (hx : L[i]? = some x) (hy : L[j]? = some y) (hs : Rd1 w (sl A 1 (IE .u32) L)) :
    Calls Tryz.prog 139 [.slice A n c, .int .i64 (i : Int), .int .i64 (j : Int)].toArray w fun e w' => e = .returned (.bool (tB (x < y))) ∧ Below w.heap.size w w' := by
  have hi := (List.getElem?_eq_some_iff.1 hx).1
  have hj := (List.getElem?_eq_some_iff.1 hy).1
  refine g_enter0 T [] [] [sl A 1 (IE .u32) L] Tryz.func139 rfl Tryz.ntmps139 rfl (Rds.cons hs .nil).kn ?_
  refine gk_elem (enc := IE .u32) (L := L) i mE hi (by decide) (fun b o z eA hz => ?_)
  obtain rfl : x = z := by rw [hx] at hz; exact Option.some.inj hz
  refine gk_elem (enc := IE .u32) (L := L) j mE hj (by decide) (fun b2 o2 z eA2 hz2 => ?_)
  obtain rfl : y = z := by rw [hy] at hz2; exact Option.some.inj hz2
  rw [eA] at eA2
  injection eA2 with e3
  injection e3 with e4 e5
  subst e4
  subst e5
  subst eA
  (repeat (refine gG ?_; try intro _))
  refine gk_drawn_at [0, 1] rfl rfl (by kernel_rfl) ?_
  (repeat (first | refine ga_nil (by decide +kernel) ?_ | refine ga_take (by decide +kernel) rfl rfl (ys_ev (nw := true) hT rfl sI) sF ?_ | refine ga_skip (by decide +kernel) rfl rfl sF ?_ | refine ga_take (by decide +kernel) rfl rfl (ys_blk hT rfl rfl mE rfl rfl) sF ?_ | refine ga_take (by decide +kernel) rfl rfl (ys_row hT rfl rfl mE rfl rfl) sF ?_ | refine ga_take (by decide +kernel) rfl rfl (ys_row0 hT rfl rfl mE rfl rfl) sF ?_ | (refine ga_mv (by decide +kernel) rfl ?_; (first | (refine mv_box rfl rfl rfl rfl ?_; intro _) | (refine mv_alloc rfl hT rfl rfl ?_; intro _) | refine mv_store hT rfl rfl rfl rfl rfl rfl sO rfl ?_ | (refine mv_buildSlice rfl hT rfl rfl rfl rfl rfl rfl rfl rfl ?_; intro _)); refine ⟨sF, ?_⟩) | refine ga_take (by decide +kernel) rfl rfl (ys_eql rfl rfl rfl rfl rfl (by kernel_rfl)) sF ?_ | refine ga_take (by decide +kernel) rfl rfl (ys_neq rfl rfl rfl rfl rfl (by kernel_rfl)) sF ?_))
  (repeat (refine gG ?_; try intro _))
  refine gk_ret hT rfl rfl (.tmp rfl .nil) (fun w' hk => ?_)
  exact ⟨rfl, hk.toBelow⟩
/-- The row in its block, with what lies beside it. -/
abbrev frL (g : Nat) (rest : List Value) (Tg : TypeId) (v : Value) (L : List Int) : List Fact := [blk g (v :: rest) Tg, own 0 22 1 v (IE .u32) L]
theorem fr_fin (g : Nat) (rest : List Value) (Tg : TypeId) (v : Value) (L : List Int) : ∀ b, (packF (frL g rest Tg v L)).S b ↔ b ∈ g :: ownE v := fun b => by
  constructor
  · rintro ⟨φ, hφ, hb⟩
    rcases List.mem_cons.1 hφ with rfl | hφ
    · have : b = g := hb
      rw [this]
      exact .head _
    · obtain rfl := List.mem_singleton.1 hφ
      exact .tail _ (ownE_mem.2 hb)
  · intro hb
    rcases List.mem_cons.1 hb with rfl | hb
    · exact ⟨_, .head _, rfl⟩
    · exact ⟨_, .tail _ (.head _), ownE_mem.1 hb⟩
theorem fswap_any (g : Nat) (rest : List Value) (Tg : TypeId) (v : Value) (L : List Int) (i j : Nat) (x y : Int) (w : World) (hx : L[i]? = some x) (hy : L[j]? = some y) (h : Rd1 w (packF (frL g rest Tg v L))) :
    Calls Tryz.prog 140 [v, .int .i64 (i : Int), .int .i64 (j : Int)].toArray w (RetM (packF (frL g rest Tg v L)) (fun _ : Value => True) (fun v => v) (fun _ => packF (frL g rest Tg v (swp L i j x y))) w) := by
  have hi := (List.getElem?_eq_some_iff.1 hx).1
  have hj := (List.getElem?_eq_some_iff.1 hy).1
  obtain ⟨b, c, hv, hc, hm⟩ := own_at0 (h.unpack (.tail _ (.head _))).1 (by omega)
  subst hv
  have hy2 : (L.set i y)[j]? = some y := by
    by_cases e : i = j
    · subst e; simp [hi]
    · rw [List.getElem?_set_ne e]; exact hy
  refine g_enter0 T _ (frL g rest Tg _ L) [] Tryz.func140 rfl Tryz.ntmps140 rfl (Kn.startP h (fun b hb => (fr_fin g rest Tg _ L b).1 hb) (fun _ h => by cases h)) ?_
  refine gk_any [] (Cut _ (fun _ : Unit => []) (fun _ => frL g rest Tg (.slice (some ⟨b, 0, none⟩) L.length c) (swp L i j x y)) (fun _ => [])) rfl rfl (by kernel_rfl) ?_ (cut_k fun _ => ?_)
  · skip
    refine gb_take 0 rfl (by decide +kernel) rfl rfl (ys_ev (nw := true) hT rfl sI) sF ?_
    refine gb_take 1 rfl (by decide +kernel) rfl rfl (ys_ev (nw := true) hT rfl sI) sF ?_
    refine gb_take 2 rfl (by decide +kernel) rfl rfl (ys_ev (nw := true) hT rfl sI) sF ?_
    refine gb_take 3 rfl (by decide +kernel) rfl rfl (ys_ev (nw := true) hT rfl sI) sF ?_
    refine gb_take 4 rfl (by decide +kernel) rfl rfl (ys_ev (nw := true) hT rfl sI) sF ?_
    refine gb_take 5 rfl (by decide +kernel) rfl rfl (ys_ev (nw := true) hT rfl sI) sF ?_
    refine gb_take 6 rfl (by decide +kernel) rfl rfl (ys_ev (nw := true) hT rfl sI) sF ?_
    refine gb_take 8 rfl (by decide +kernel) rfl rfl (ys_ev (nw := true) hT rfl sI) sF ?_
    refine gb_take 9 rfl (by decide +kernel) rfl rfl (ys_ev (nw := true) hT rfl sI) sF ?_
    refine gb_take 10 rfl (by decide +kernel) rfl rfl (ys_ev (nw := true) hT rfl sI) sF ?_
    refine gb_all (by decide +kernel) ?_
    refine gball_not (by decide +kernel) ?_
    refine gball_not (by decide +kernel) ?_
    refine gball_not (by decide +kernel) ?_
    refine gball_not (by decide +kernel) ?_
    refine gball_not (by decide +kernel) ?_
    refine gball_not (by decide +kernel) ?_
    refine gball_not (by decide +kernel) ?_
    refine gball_yes rfl rfl ?_ ?_
    · refine mv_yd rfl ((ys_load_el (S := [own 0 22 1 (.slice (some ⟨b, 0, none⟩) L.length c) (IE .u32) L]) (o0 := 0) (sz := 1) (enc := IE .u32) (L := L) hT j y 0 rfl rfl rfl rfl hy (at_own mE) rfl rfl).ydS sF) ?_
      refine ⟨sF, ?_⟩
      refine gb_only 11 (by decide +kernel) rfl rfl ?_
      refine mv_yd rfl ((ys_load_el (S := [own 0 22 1 (.slice (some ⟨b, 0, none⟩) L.length c) (IE .u32) L]) (o0 := 0) (sz := 1) (enc := IE .u32) (L := L) hT i x 0 rfl rfl rfl rfl hx (at_own mE) rfl rfl).ydS sF) ?_
      refine ⟨sF, ?_⟩
      refine gb_take 12 rfl (by decide +kernel) rfl rfl (ys_ev (nw := true) hT rfl sI) sF ?_
      refine gb_only 13 (by decide +kernel) rfl rfl ?_
      refine mv_store_own hT i 0 x y rfl rfl (by show 0 + i * 1 = i * 1 + 0; omega) rfl rfl rfl rfl hx (by decide) (fun b hb hne => absurd (by omega) hne) rfl (by first | ((repeat (first | with_reducible exact Upd.here _ | with_reducible apply Upd.there)); done) | ((repeat (first | exact Upd.here _ | apply Upd.there)); done) | fail) rfl ?_
      refine ⟨sF, ?_⟩
      refine gb_take 14 rfl (by decide +kernel) rfl rfl (ys_ev (nw := true) hT rfl sI) sF ?_
      refine gb_only 15 (by decide +kernel) rfl rfl ?_
      refine mv_store_own hT j 0 y x rfl rfl (by show 0 + j * 1 = j * 1 + 0; omega) rfl rfl rfl rfl hy2 (by decide) (fun b hb hne => absurd (by omega) hne) rfl (by first | ((repeat (first | with_reducible exact Upd.here _ | with_reducible apply Upd.there)); done) | ((repeat (first | exact Upd.here _ | apply Upd.there)); done) | fail) rfl ?_
      refine ⟨sF, ?_⟩
      refine gb_nil (by decide +kernel) ?_
      exact ⟨(), (by repeat (first | exact trivial | refine ⟨rfl, ?_⟩)), sA, sS⟩
    refine gball_not (by decide +kernel) ?_
    refine gball_not (by decide +kernel) ?_
    refine gball_not (by decide +kernel) ?_
    refine gball_yes rfl rfl ?_ ?_
    · refine mv_yd rfl ((ys_load_el (S := [own 0 22 1 (.slice (some ⟨b, 0, none⟩) L.length c) (IE .u32) L]) (o0 := 0) (sz := 1) (enc := IE .u32) (L := L) hT i x 0 rfl rfl rfl rfl hx (at_own mE) rfl rfl).ydS sF) ?_
      refine ⟨sF, ?_⟩
      refine gb_only 7 (by decide +kernel) rfl rfl ?_
      refine mv_yd rfl ((ys_load_el (S := [own 0 22 1 (.slice (some ⟨b, 0, none⟩) L.length c) (IE .u32) L]) (o0 := 0) (sz := 1) (enc := IE .u32) (L := L) hT j y 0 rfl rfl rfl rfl hy (at_own mE) rfl rfl).ydS sF) ?_
      refine ⟨sF, ?_⟩
      refine gb_take 12 rfl (by decide +kernel) rfl rfl (ys_ev (nw := true) hT rfl sI) sF ?_
      refine gb_only 13 (by decide +kernel) rfl rfl ?_
      refine mv_store_own hT i 0 x y rfl rfl (by show 0 + i * 1 = i * 1 + 0; omega) rfl rfl rfl rfl hx (by decide) (fun b hb hne => absurd (by omega) hne) rfl (by first | ((repeat (first | with_reducible exact Upd.here _ | with_reducible apply Upd.there)); done) | ((repeat (first | exact Upd.here _ | apply Upd.there)); done) | fail) rfl ?_
      refine ⟨sF, ?_⟩
      refine gb_take 14 rfl (by decide +kernel) rfl rfl (ys_ev (nw := true) hT rfl sI) sF ?_
      refine gb_only 15 (by decide +kernel) rfl rfl ?_
      refine mv_store_own hT j 0 y x rfl rfl (by show 0 + j * 1 = j * 1 + 0; omega) rfl rfl rfl rfl hy2 (by decide) (fun b hb hne => absurd (by omega) hne) rfl (by first | ((repeat (first | with_reducible exact Upd.here _ | with_reducible apply Upd.there)); done) | ((repeat (first | exact Upd.here _ | apply Upd.there)); done) | fail) rfl ?_
      refine ⟨sF, ?_⟩
      refine gb_nil (by decide +kernel) ?_
      exact ⟨(), (by repeat (first | exact trivial | refine ⟨rfl, ?_⟩)), sA, sS⟩
    refine gball_not (by decide +kernel) ?_
    refine gball_not (by decide +kernel) ?_
    refine gball_not (by decide +kernel) ?_
    refine gball_not (by decide +kernel) ?_
    exact gball_end (by decide +kernel)
  · (repeat (refine gG ?_; try intro _))
    refine gk_fin hT rfl rfl .nil (fun w' hk => ?_)
    exact RetM.mkP (ll := fun _ => frL g rest Tg _ (swp L i j x y)) (.tuple #[]) trivial rfl hk (fun b hb => (fr_fin g rest Tg _ L b).2 hb) sA
end Go.Proofs.YtokhfkbbhdaghaaGreat.Hp
namespace Go.Proofs.YtokhfkbbhdaghaaGreat.Hp
open Go.RowKit Mem Gx
set_option linter.unusedVariables false
set_option linter.unusedSimpArgs false
set_option maxRecDepth 100000
set_option maxHeartbeats 1000000
theorem fpush_any (g : Nat) (rest : List Value) (Tg : TypeId) (v : Value) (L : List Int) (x : Int) (w : World) (hL : L.length ≤ 100000) (h : Rd1 w (packF (frL g rest Tg v L))) :
    Calls Tryz.prog 142 [.pointer (some ⟨g, 0, none⟩), .iface 22 (.int .u32 x)].toArray w (RetM (packF (frL g rest Tg v L)) (fun _ : Value × Value => True) (fun r => r.2) (fun r => packF (frL g rest Tg r.1 (L ++ [x]))) w) := by
  obtain ⟨A, c, hv, hc, hm, hA, _⟩ := own_rdv (h.unpack (.tail _ (.head _)))
  subst hv
  refine g_enter0 T _ (frL g rest Tg _ L) [] Tryz.func142 rfl Tryz.ntmps142 rfl (Kn.startP h (fun b hb => (fr_fin g rest Tg _ L b).1 hb) (fun _ h => by cases h)) ?_
  refine gk_any [] (Cut _ (fun _ : Value => []) (fun v => frL g rest Tg v (L ++ [x])) (fun _ => [])) rfl rfl (by kernel_rfl) ?_ (cut_k fun v => ?_)
  · skip
    refine gb_take 0 rfl (by decide +kernel) rfl rfl (ys_ev (nw := true) hT rfl sI) sF ?_
    refine gb_take 1 rfl (by decide +kernel) rfl rfl (ys_ev (nw := true) hT rfl sI) sF ?_
    refine gb_take 2 rfl (by decide +kernel) rfl rfl (ys_ev (nw := true) hT rfl sI) sF ?_
    refine gb_take 4 rfl (by decide +kernel) rfl rfl (ys_ev (nw := true) hT rfl sI) sF ?_
    refine gb_take 5 rfl (by decide +kernel) rfl rfl (ys_typeAssert rfl rfl (by kernel_rfl)) sF ?_
    refine gb_all (by decide +kernel) ?_
    refine gball_not (by decide +kernel) ?_
    refine gball_not (by decide +kernel) ?_
    refine gball_not (by decide +kernel) ?_
    refine gball_yes rfl rfl ?_ ?_
    · refine mv_yd rfl (yd_load_blk hT rfl rfl mE rfl rfl) ?_
      refine ⟨sF, ?_⟩
      refine gb_only 6 (by decide +kernel) rfl rfl ?_
      (refine mv_buildSlice (len := 1) rfl hT rfl rfl rfl rfl rfl rfl rfl rfl ?_; intro g7)
      refine ⟨sF, ?_⟩
      refine gb_only 7 (by decide +kernel) rfl rfl ?_
      refine mv_append (L := L) rfl [x] rfl rfl rfl rfl elt_F (by intro _; first | ((repeat (first | with_reducible exact Upd.here _ | with_reducible apply Upd.there)); done) | ((repeat (first | exact Upd.here _ | apply Upd.there)); done) | fail) (src_blk mE rfl) rfl oneU (by simp only [maxLen, List.length_cons, List.length_nil]; omega) (by simp only [List.length_cons, List.length_nil]; omega) (Nat.zero_le _) (fun v2 => ?_)
      refine ⟨sF, ?_⟩
      (refine gb_ownv v2 mE (fun A2 c2 hv2 _ _ _ => ?_); subst hv2)
      refine gb_take 8 rfl (by decide +kernel) rfl rfl (ys_ev (nw := true) hT rfl sI) sF ?_
      refine gb_only 9 (by decide +kernel) rfl rfl ?_
      first | (refine mv_box rfl rfl rfl rfl ?_; intro _) | (refine mv_alloc rfl hT rfl rfl ?_; intro _) | refine mv_store hT rfl rfl rfl rfl rfl rfl sO rfl ?_ | (refine mv_buildSlice rfl hT rfl rfl rfl rfl rfl rfl rfl rfl ?_; intro _)
      refine ⟨sF, ?_⟩
      refine gb_nil (by decide +kernel) ?_
      exact ⟨_, (by repeat (first | exact trivial | refine ⟨rfl, ?_⟩)), sA, sS⟩
    refine gball_not (by decide +kernel) ?_
    refine gball_not (by decide +kernel) ?_
    refine gball_yes rfl rfl ?_ ?_
    · (refine mv_buildSlice (len := 1) rfl hT rfl rfl rfl rfl rfl rfl rfl rfl ?_; intro g7)
      refine ⟨sF, ?_⟩
      refine gb_only 3 (by decide +kernel) rfl rfl ?_
      refine mv_yd rfl (yd_load_blk hT rfl rfl mE rfl rfl) ?_
      refine ⟨sF, ?_⟩
      refine gb_only 7 (by decide +kernel) rfl rfl ?_
      refine mv_append (L := L) rfl [x] rfl rfl rfl rfl elt_F (by intro _; first | ((repeat (first | with_reducible exact Upd.here _ | with_reducible apply Upd.there)); done) | ((repeat (first | exact Upd.here _ | apply Upd.there)); done) | fail) (src_blk mE rfl) rfl oneU (by simp only [maxLen, List.length_cons, List.length_nil]; omega) (by simp only [List.length_cons, List.length_nil]; omega) (Nat.zero_le _) (fun v2 => ?_)
      refine ⟨sF, ?_⟩
      (refine gb_ownv v2 mE (fun A2 c2 hv2 _ _ _ => ?_); subst hv2)
      refine gb_take 8 rfl (by decide +kernel) rfl rfl (ys_ev (nw := true) hT rfl sI) sF ?_
      refine gb_only 9 (by decide +kernel) rfl rfl ?_
      first | (refine mv_box rfl rfl rfl rfl ?_; intro _) | (refine mv_alloc rfl hT rfl rfl ?_; intro _) | refine mv_store hT rfl rfl rfl rfl rfl rfl sO rfl ?_ | (refine mv_buildSlice rfl hT rfl rfl rfl rfl rfl rfl rfl rfl ?_; intro _)
      refine ⟨sF, ?_⟩
      refine gb_nil (by decide +kernel) ?_
      exact ⟨_, (by repeat (first | exact trivial | refine ⟨rfl, ?_⟩)), sA, sS⟩
    refine gball_not (by decide +kernel) ?_
    refine gball_not (by decide +kernel) ?_
    refine gball_not (by decide +kernel) ?_
    exact gball_end (by decide +kernel)
  · (repeat (refine gG ?_; try intro _))
    refine gk_fin hT rfl rfl .nil (fun w' hk => ?_)
    exact RetM.mkP (ll := fun r : Value × Value => frL g rest Tg r.1 (L ++ [x])) (v, .tuple #[]) trivial rfl hk (fun b hb => (fr_fin g rest Tg _ L b).2 hb) sA
theorem fpop_any (g : Nat) (rest : List Value) (Tg : TypeId) (v : Value) (L : List Int) (x : Int) (w : World) (hL : L.length ≤ 100000) (h : Rd1 w (packF (frL g rest Tg v (L ++ [x])))) :
    Calls Tryz.prog 141 [.pointer (some ⟨g, 0, none⟩)].toArray w (RetM (packF (frL g rest Tg v (L ++ [x]))) (fun _ : Value => True) (fun _ => .iface 22 (.int .u32 x)) (fun v' => packF (frL g rest Tg v' L)) w) := by
  have hl1 : (L ++ [x]).length = L.length + 1 := by simp
  have hx : (L ++ [x])[L.length]? = some x := by simp
  obtain ⟨b, c, hv, hc, hm⟩ := own_at0 (h.unpack (.tail _ (.head _))).1 (by omega)
  rw [hl1] at hv hc
  subst hv
  refine g_enter0 T _ (frL g rest Tg _ (L ++ [x])) [] Tryz.func141 rfl Tryz.ntmps141 rfl (Kn.startP h (fun b hb => (fr_fin g rest Tg _ _ b).1 hb) (fun _ h => by cases h)) ?_
  (repeat (refine gG ?_; try intro _))
  refine g_yd rfl rfl ((ys_load_el (S := [own 0 22 1 (.slice (some ⟨b, 0, none⟩) (L.length + 1) c) (IE .u32) (L ++ [x])]) (o0 := 0) (sz := 1) (enc := IE .u32) (L := L ++ [x]) hT L.length x 0 rfl rfl rfl (by omega) hx (at_own mE) rfl rfl).ydS sF) ?_
  (repeat (refine gG ?_; try intro _))
  refine g_yd rfl rfl (Ys.yd (ys_slice_h hT L.length rfl rfl rfl rfl (by omega) (by omega))) ?_
  refine g_say 19 (.slice (some ⟨b, 0, none⟩) L.length c) rfl (by rw [shA_0]) ?_
  refine g_own_blk (g := b) (base := 0) (e := 22) (sz := 1) (n := L.length + 1) (c := c) (enc := IE .u32) (L := L ++ [x]) (by decide) (by intro _; first | ((repeat (first | with_reducible exact Upd.here _ | with_reducible apply Upd.there)); done) | ((repeat (first | exact Upd.here _ | apply Upd.there)); done) | fail) (fun r0 hr1 hr2 hr3 hr4 hr5 => ?_)
  refine g_blk_own (g := b) (e := 22) (base := 0) (sz := 1) (enc := IE .u32) (n := L.length) (c := c) L (by decide) (by first | ((repeat (first | with_reducible exact Upd.here _ | with_reducible apply Upd.there)); done) | ((repeat (first | exact Upd.here _ | apply Upd.there)); done) | fail) hr1 rfl (by omega) hr4 hr5 (by rw [flatF_append, List.append_assoc]; exact List.take_left' (flatF_length _ _ L)) ?_
  (repeat (refine gG ?_; try intro _))
  refine g_yd rfl rfl (Ys.yd (ys_makeIface rfl rfl (by kernel_rfl))) ?_
  (repeat (refine gG ?_; try intro _))
  refine gk_ret hT rfl rfl (.tmp rfl .nil) (fun w' hk => ?_)
  exact RetM.mkP (ll := fun v' => frL g rest Tg v' L) (.slice (some ⟨b, 0, none⟩) L.length c) trivial rfl hk (fun b hb => (fr_fin g rest Tg _ _ b).2 hb) sA
theorem fr_load (g : Nat) (rest : List Value) (Tg : TypeId) (v : Value) (L : List Int) (w : World) (h : Rd1 w (packF (frL g rest Tg v L))) : (loadVar 114 ⟨g, 0, none⟩).run Tryz.prog w = .ok v w := by
  have hb : (row g 0 (v :: rest)).p w := (h.unpack (.head _)).row.1
  obtain ⟨A, c, hv, _⟩ := own_rdv (h.unpack (.tail _ (.head _)))
  subst hv
  exact run_loadVar_at (d := .slice 22 1) (sz := 1) (by kernel_rfl) (by kernel_rfl) w g 0 (Value.slice A L.length c :: rest) hb (off := 0) rfl
theorem fr_meth {name : String} {fid : FuncId} (hm : methOf Tryz.prog 148 name = some (fid, false)) (hok : callable Tryz.prog fid = true) (g : Nat) (rest : List Value) (Tg : TypeId) (v : Value) (L : List Int) (w : World) (args : List Value) (h : Rd1 w (packF (frL g rest Tg v L))) {R : Ending → World → Prop} (hc : Calls Tryz.prog fid (v :: args).toArray w R) :
    IMeth Tryz.prog (.iface 148 (.pointer (some ⟨g, 0, none⟩))) name args w R :=
  ⟨fid, _, meth_val hm Tryz.underlying148 hok (fr_load g rest Tg v L w h), hc⟩
theorem lt_int : LtO (fun x y : Int => x < y) := ⟨fun h => by omega, fun h1 h2 => by omega⟩
/-- A row of blocks is a heap. -/
def frHO (g : Nat) (rest : List Value) (Tg : TypeId) : HO Value Int where
  iv := .iface 148 (.pointer (some ⟨g, 0, none⟩))
  F v L := packF (frL g rest Tg v L)
  lt x y := x < y
  ord := lt_int
  ok _ := True
  okp _ _ _ _ := trivial
  okl _ _ _ := trivial
  xv x := .iface 22 (.int .u32 x)
  fin v L w _ := ⟨g :: ownE v, fr_fin g rest Tg v L⟩
  len v L w h _ _ := fr_meth (by kernel_rfl) (by kernel_rfl) g rest Tg v L w [] h (by
    obtain ⟨A, c, hv, _⟩ := own_rdv (h.unpack (.tail _ (.head _)))
    subst hv
    exact flen_any A L.length c w)
  less v L w i j x y h _ _ hx hy := fr_meth (by kernel_rfl) (by kernel_rfl) g rest Tg v L w _ h (by
    obtain ⟨A, c, hv, _, _, _, hs⟩ := own_rdv (h.unpack (.tail _ (.head _)))
    subst hv
    exact fless_any A L.length c L i j x y w rfl hx hy hs)
  swap v L w i j x y h _ _ hx hy := fr_meth (by kernel_rfl) (by kernel_rfl) g rest Tg v L w _ h (fswap_any g rest Tg v L i j x y w hx hy h)
  push v L w x h _ hL := ⟨142, #[.pointer (some ⟨g, 0, none⟩), .iface 22 (.int .u32 x)], (by kernel_rfl), fpush_any g rest Tg v L x w hL h⟩
  pop v L x w h _ hL := ⟨141, #[.pointer (some ⟨g, 0, none⟩)], (by kernel_rfl), fpop_any g rest Tg v L x w hL h⟩
end Go.Proofs.YtokhfkbbhdaghaaGreat.Hp
namespace Go.Proofs.YtokhfkbbhdaghaaGreat.Hp
open Go.RowKit Mem Gx
set_option linter.unusedVariables false
set_option linter.unusedSimpArgs false
set_option maxRecDepth 100000
set_option maxHeartbeats 1000000
abbrev one : Value := .int .i64 1
def kv (K : List Int) : List (Int × Value) := K.map fun k => (k, one)
theorem lkp_out {b : Int} : ∀ {K : List Int} {i : Nat}, b ∉ K → lkp b (kv K) i = none
  | [], _, _ => rfl
  | x :: r, i, h => by
    show (if b = x then _ else _) = _
    rw [if_neg (fun e => h (by rw [e]; exact .head _))]
    exact lkp_out (K := r) (i := i + 1) fun h1 => h (.tail _ h1)
theorem lkp_in {b : Int} : ∀ {K : List Int} {i : Nat}, b ∈ K → ∃ n, lkp b (kv K) i = some (i + n, one) ∧ K[n]? = some b
  | [], _, h => by cases h
  | x :: r, i, h => by
    by_cases e : b = x
    · refine ⟨0, ?_, by simp [e]⟩
      show (if b = x then _ else _) = _
      rw [if_pos e]
      rfl
    · obtain ⟨n, h1, h2⟩ := lkp_in (K := r) (i := i + 1) (by cases h with | head => exact absurd rfl e | tail _ h => exact h)
      refine ⟨n + 1, ?_, by simpa using h2⟩
      show (if b = x then _ else lkp b (kv r) (i + 1)) = _
      rw [if_neg e, h1, show i + 1 + n = i + (n + 1) by omega]
theorem kv_set {b : Int} {K : List Int} (h : b ∉ K) : mset b one (kv K) = kv (K ++ [b]) := by
  rw [mset_none (lkp_out (i := 0) h)]
  unfold kv
  rw [List.map_append]
  rfl
theorem perm_eraseIdx {α : Type} : ∀ {L : List α} {n : Nat} {x : α}, L[n]? = some x → (x :: L.eraseIdx n).Perm L
  | [], n, x, h => by simp at h
  | y :: r, 0, x, h => by
    obtain rfl : y = x := by simpa using h
    exact List.Perm.refl _
  | y :: r, n + 1, x, h => by
    have := perm_eraseIdx (L := r) (n := n) (by simpa using h)
    exact (List.Perm.swap y x _).trans (this.cons y)
theorem kv_del {b : Int} {K : List Int} (h : b ∈ K) : ∃ K', mdel b (kv K) = kv K' ∧ (b :: K').Perm K := by
  obtain ⟨n, h1, h2⟩ := lkp_in (i := 0) h
  refine ⟨K.eraseIdx n, ?_, perm_eraseIdx h2⟩
  unfold mdel
  rw [h1]
  simp only [Nat.zero_add]
  unfold kv
  apply List.ext_getElem?
  intro k
  simp only [List.getElem?_eraseIdx, List.getElem?_map]
  split <;> rfl
theorem has_val {b : Int} {K : List Int} : ((lkp b (kv K) 0).map (·.2)).getD (.int .i64 0) = .int .i64 (if b ∈ K then 1 else 0) := by
  by_cases h : b ∈ K
  · obtain ⟨n, h1, _⟩ := lkp_in (i := 0) h
    rw [h1, if_pos h]
    rfl
  · rw [lkp_out h, if_neg h]
    rfl
/-- The map, if there is one. -/
def mpo (mo : Option Nat) (K : List Int) : Fact := match mo with
  | some r => mp r .u32 (kv K)
  | none => ⟨fun _ => False, fun _ => K = [], fun _ _ _ h => h⟩
/-- Where a list of blocks lies. -/
structure FrS where
  mo : Option Nat
  v : Value
  L : List Int
  K : List Int
def frF (g : Nat) (s : FrS) : List Fact := [packF (frL g [.map s.mo] 116 s.v s.L), mpo s.mo s.K]
/-- What it says. -/
structure FrOk (s : FrS) (S : List Int) : Prop where
  l : s.L.Perm S
  k : s.K.Perm S
  sorted : S.Pairwise (· < ·)
  heap : HeapN (fun x y : Int => x < y) s.L s.L.length
  nil : s.mo = none → S = []
  len : S.length ≤ 10000
theorem frF_fin (g : Nat) (s : FrS) : ∀ b, (packF (frF g s)).S b ↔ b ∈ (g :: ownE s.v) ++ s.mo.toList := fun b => by
  obtain ⟨mo, v, L, K⟩ := s
  constructor
  · rintro ⟨φ, hφ, hb⟩
    rcases List.mem_cons.1 hφ with rfl | hφ
    · exact List.mem_append_left _ ((fr_fin g [.map mo] 116 v L b).1 hb)
    · obtain rfl := List.mem_singleton.1 hφ
      cases mo with
      | none => exact hb.elim
      | some r =>
        have : b = r := hb
        subst this
        exact List.mem_append_right _ (.head _)
  · intro hb
    rcases List.mem_append.1 hb with hb | hb
    · exact ⟨_, .head _, (fr_fin g [.map mo] 116 v L b).2 hb⟩
    · cases mo with
      | none => cases hb
      | some r =>
        obtain rfl := List.mem_singleton.1 hb
        exact ⟨_, .tail _ (.head _), rfl⟩
theorem z_int : ∀ w, (zeroValue 3).run Tryz.prog w = .ok (.int .i64 0) w := fun w => by kernel_rfl
theorem llen_any (g : Nat) (s : FrS) (w : World) (h : Rd1 w (packF (frF g s))) (hl : s.L.length ≤ 100000) :
    Calls Tryz.prog 60 [.pointer (some ⟨g, 0, none⟩)].toArray w fun e w' => e = .returned (.int .i64 (s.L.length : Int)) ∧ Below w.heap.size w w' := by
  obtain ⟨mo, v, L, K⟩ := s
  obtain ⟨A, c, hv, hc, hm, hA, hs⟩ := own_rdv ((h.unpack (.head _)).unpack (.tail _ (.head _)))
  replace hv : v = .slice A L.length c := hv
  subst hv
  have hb : Rd1 w (blk g [.slice A L.length c, .map mo] 116) := (h.unpack (.head _)).unpack (.head _)
  refine g_enter0 T [] [] [row g 0 [.slice A L.length c, .map mo]] Tryz.func60 rfl Tryz.ntmps60 rfl (Rds.cons hb.row .nil).kn ?_
  (repeat' (first | (refine gG ?_; try intro _) | ((first | refine g_split rfl rfl tE (fun _ => ?_) (fun _ => ?_) | refine gk_cond rfl rfl tE (fun _ => ?_) (fun _ => ?_)) <;> (try first | (exfalso; omega; done) | (rename_i hx; exact absurd rfl hx) | (rename_i hx; cases hx; done)))))
  refine gk_ret hT rfl rfl (.tmp rfl .nil) (fun w' hk => ?_)
  exact ⟨rfl, hk.toBelow⟩
end Go.Proofs.YtokhfkbbhdaghaaGreat.Hp
namespace Go.Proofs.YtokhfkbbhdaghaaGreat.Hp
open Go.RowKit Mem Gx
set_option linter.unusedVariables false
set_option linter.unusedSimpArgs false
set_option maxRecDepth 100000
set_option maxHeartbeats 1000000
def ins (b : Int) : List Int → List Int
  | [] => [b]
  | x :: r => if x < b then x :: ins b r else b :: x :: r
theorem ins_perm (b : Int) : ∀ S : List Int, (ins b S).Perm (b :: S)
  | [] => List.Perm.refl _
  | x :: r => by
    unfold ins
    split
    · exact ((ins_perm b r).cons x).trans (List.Perm.swap b x r)
    · exact List.Perm.refl _
theorem ins_sorted (b : Int) : ∀ S : List Int, S.Pairwise (· < ·) → b ∉ S → (ins b S).Pairwise (· < ·)
  | [], _, _ => List.pairwise_singleton _ _
  | x :: r, h, hb => by
    obtain ⟨h1, h2⟩ := List.pairwise_cons.1 h
    unfold ins
    split
    · rename_i hx
      refine List.pairwise_cons.2 ⟨fun y hy => ?_, ins_sorted b r h2 fun h => hb (.tail _ h)⟩
      rcases List.mem_cons.1 ((ins_perm b r).mem_iff.1 hy) with e | e
      · omega
      · exact h1 y e
    · rename_i hx
      have hxb : b < x := by
        have : b ≠ x := fun e => hb (by rw [e]; exact .head _)
        omega
      exact List.pairwise_cons.2 ⟨fun y hy => by
        rcases List.mem_cons.1 hy with e | e
        · omega
        · have := h1 y e; omega, h⟩
def giveP (b : Int) (S : List Int) : List Int × Bool := if b = 0 ∨ b ∈ S then (S, false) else (ins b S, true)
theorem give_no {b : Int} {S : List Int} (h : b = 0 ∨ b ∈ S) : giveP b S = (S, false) := if_pos h
theorem give_yes {b : Int} {S : List Int} (h : ¬ (b = 0 ∨ b ∈ S)) : giveP b S = (ins b S, true) := if_neg h
def takeP : List Int → List Int × Int × Bool
  | [] => ([], 0, false)
  | x :: r => (r, x, true)
theorem FrOk.add {mo : Option Nat} {v v1 : Value} {L L1 K : List Int} {S : List Int} {b : Int} {r : Nat} (h : FrOk ⟨mo, v, L, K⟩ S) (hb : b ∉ S) (hl : S.length < 10000) (hp : L1.Perm (L ++ [b])) (hh : HeapN (fun x y : Int => x < y) L1 L1.length) : FrOk ⟨some r, v1, L1, K ++ [b]⟩ (ins b S) where
  l := hp.trans ((List.perm_append_comm.trans (h.l.cons b)).trans (ins_perm b S).symm)
  k := (List.perm_append_comm.trans (h.k.cons b)).trans (ins_perm b S).symm
  sorted := ins_sorted b S h.sorted hb
  heap := hh
  nil e := by cases e
  len := by rw [(ins_perm b S).length_eq]; show S.length + 1 ≤ 10000; omega
theorem FrOk.least {s : FrS} {S' : List Int} {x x' : Int} (h : FrOk s (x :: S')) (hx : s.L[0]? = some x') : x' = x := by
  have h1 : ∀ z, z ∈ s.L → ¬ z < x' := fun z hz => by
    obtain ⟨k, hk⟩ := List.getElem?_of_mem hz
    exact h.heap.root lt_int (Nat.le_refl _) hx k (List.getElem?_eq_some_iff.1 hk).1 z hk
  have h2 := h1 x (h.l.mem_iff.2 (.head _))
  have h3 : x' ∈ x :: S' := h.l.mem_iff.1 (List.mem_of_getElem? hx)
  rcases List.mem_cons.1 h3 with e | e
  · exact e
  · have := (List.pairwise_cons.1 h.sorted).1 x' e
    omega
theorem FrOk.less {s : FrS} {mo : Option Nat} {v1 : Value} {L1 K1 S S' : List Int} {x : Int} (h : FrOk s S) (hmo : mo ≠ none) (hS : (x :: S').Perm S) (hs : S'.Pairwise (· < ·)) (hp : (L1 ++ [x]).Perm s.L) (hk : (x :: K1).Perm s.K) (hh : HeapN (fun x y : Int => x < y) L1 L1.length) : FrOk ⟨mo, v1, L1, K1⟩ S' where
  l := ((List.perm_append_comm.symm.trans (hp.trans (h.l.trans hS.symm))) : (x :: L1).Perm (x :: S')).cons_inv
  k := (hk.trans (h.k.trans hS.symm)).cons_inv
  sorted := hs
  heap := hh
  nil e := absurd e hmo
  len := by have := hS.length_eq; have := h.len; simp at *; omega
theorem lgive_any (g : Nat) (s : FrS) (S : List Int) (b : Int) (w : World) (hs : FrOk s S) (hl : S.length < 10000) (h : Rd1 w (packF (frF g s))) :
    Calls Tryz.prog 40 [.pointer (some ⟨g, 0, none⟩), .int .u32 b].toArray w (RetM (packF (frF g s)) (fun r : FrS × Bool => FrOk r.1 (giveP b S).1 ∧ r.2 = (giveP b S).2) (fun r => .bool r.2) (fun r => packF (frF g r.1)) w) := by
  obtain ⟨mo, v, L, K⟩ := s
  have hLl : L.length = S.length := hs.l.length_eq
  have hKm : ∀ x, x ∈ K ↔ x ∈ S := fun x => hs.k.mem_iff
  by_cases hb : b = 0
  · rw [give_no (.inl hb)]
    refine g_enter0 T _ (frF g ⟨mo, v, L, K⟩) [] Tryz.func40 rfl Tryz.ntmps40 rfl (Kn.startP h (fun b hb => (frF_fin g _ b).1 hb) (fun _ h => by cases h)) ?_
    (repeat' (first | (refine gG ?_; try intro _) | ((first | refine g_split rfl rfl tE (fun _ => ?_) (fun _ => ?_) | refine gk_cond rfl rfl tE (fun _ => ?_) (fun _ => ?_)) <;> (try first | (exfalso; omega; done) | (rename_i hx; exact absurd rfl hx) | (rename_i hx; cases hx; done)))))
    refine gk_ret hT rfl rfl (.tmp rfl .nil) (fun w' hk => ?_)
    exact RetM.mkP (ll := fun r : FrS × Bool => frF g r.1) (⟨mo, v, L, K⟩, false) ⟨hs, rfl⟩ rfl hk (fun b hb => (frF_fin g _ b).2 hb) sA
  · cases mo with
    | none =>
      have hS0 : S = [] := hs.nil rfl
      subst hS0
      obtain rfl : L = [] := by simpa using hLl
      have hK0 : K = [] := by have := hs.k.length_eq; simpa using this
      subst hK0
      rw [give_yes (by simp [hb])]
      refine g_enter0 T _ (frF g ⟨none, v, [], []⟩) [] Tryz.func40 rfl Tryz.ntmps40 rfl (Kn.startP h (fun b hb => (frF_fin g _ b).1 hb) (fun _ h => by cases h)) ?_
      change GK _ _ _ [packF (frL g [.map none] 116 v []), mpo none []] _
      refine gk_unpack (by repeat (first | with_reducible exact Sel.here | with_reducible apply Sel.there)) ?_
      (repeat' (first | (refine gG ?_; try intro _) | ((first | refine g_split rfl rfl tE (fun _ => ?_) (fun _ => ?_) | refine gk_cond rfl rfl tE (fun _ => ?_) (fun _ => ?_)) <;> (try first | (exfalso; omega; done) | (rename_i hx; exact absurd rfl hx) | (rename_i hx; cases hx; done)))))
      refine g_yd rfl rfl (Ys.yd (ys_lookup_nil rfl rfl rfl Tryz.underlying76 Tryz.underlying22 z_int)) ?_
      (repeat' (first | (refine gG ?_; try intro _) | ((first | refine g_split rfl rfl tE (fun _ => ?_) (fun _ => ?_) | refine gk_cond rfl rfl tE (fun _ => ?_) (fun _ => ?_)) <;> (try first | (exfalso; omega; done) | (rename_i hx; exact absurd rfl hx) | (rename_i hx; cases hx; done)))))
      refine g_yd rfl rfl (Ys.yd (ys_map_nil hT rfl rfl rfl Tryz.underlying76)) ?_
      (repeat' (first | (refine gG ?_; try intro _) | ((first | refine g_split rfl rfl tE (fun _ => ?_) (fun _ => ?_) | refine gk_cond rfl rfl tE (fun _ => ?_) (fun _ => ?_)) <;> (try first | (exfalso; omega; done) | (rename_i hx; exact absurd rfl hx) | (rename_i hx; cases hx; done)))))
      refine g_mv rfl (mv_makeMap rfl .u32 rfl (fun r => ?_))
      (repeat' (first | (refine gG ?_; try intro _) | ((first | refine g_split rfl rfl tE (fun _ => ?_) (fun _ => ?_) | refine gk_cond rfl rfl tE (fun _ => ?_) (fun _ => ?_)) <;> (try first | (exfalso; omega; done) | (rename_i hx; exact absurd rfl hx) | (rename_i hx; cases hx; done)))))
      refine g_mv rfl (mv_mapUpdate rfl rfl rfl rfl rfl Tryz.underlying76 Tryz.underlying22 (by first | ((repeat (first | with_reducible exact Upd.here _ | with_reducible apply Upd.there)); done) | ((repeat (first | exact Upd.here _ | apply Upd.there)); done) | fail) ?_)
      (repeat' (first | (refine gG ?_; try intro _) | ((first | refine g_split rfl rfl tE (fun _ => ?_) (fun _ => ?_) | refine gk_cond rfl rfl tE (fun _ => ?_) (fun _ => ?_)) <;> (try first | (exfalso; omega; done) | (rename_i hx; exact absurd rfl hx) | (rename_i hx; cases hx; done)))))
      refine g_yd rfl rfl (Ys.yd (ys_makeIface rfl rfl (by kernel_rfl))) ?_
      (repeat' (first | (refine gG ?_; try intro _) | ((first | refine g_split rfl rfl tE (fun _ => ?_) (fun _ => ?_) | refine gk_cond rfl rfl tE (fun _ => ?_) (fun _ => ?_)) <;> (try first | (exfalso; omega; done) | (rename_i hx; exact absurd rfl hx) | (rename_i hx; cases hx; done)))))
      refine g_yd rfl rfl (Ys.yd (ys_makeIface rfl rfl (by kernel_rfl))) ?_
      refine g_pack (frL g [.map (some r)] 116 v []) [mp r .u32 (mset b one [])] sA ?_
      refine g_mv rfl (mv_call_mod (φ := packF (frL g [.map (some r)] 116 v [])) (ψ := fun q : Value × List Int => packF (frL g [.map (some r)] 116 q.1 q.2)) (fun w hk => hpush_any (frHO g [.map (some r)] 116) v [] b w (hk.rO (φ := packF (frL g [.map (some r)] 116 v [])) mE) trivial (by decide) (fun k h0 hk => absurd hk (Nat.not_lt_zero _))) rfl rfl rfl rfl rfl (by kernel_rfl) (by intro _; first | ((repeat (first | with_reducible exact Upd.here _ | with_reducible apply Upd.there)); done) | ((repeat (first | exact Upd.here _ | apply Upd.there)); done) | fail) (fun q hI => ?_))
      obtain ⟨v1, L1⟩ := q
      obtain ⟨hp, hh⟩ := hI
      (repeat' (first | (refine gG ?_; try intro _) | ((first | refine g_split rfl rfl tE (fun _ => ?_) (fun _ => ?_) | refine gk_cond rfl rfl tE (fun _ => ?_) (fun _ => ?_)) <;> (try first | (exfalso; omega; done) | (rename_i hx; exact absurd rfl hx) | (rename_i hx; cases hx; done)))))
      refine gk_ret hT rfl rfl (.tmp rfl .nil) (fun w' hk => ?_)
      exact RetM.mkP (ll := fun r : FrS × Bool => frF g r.1) (⟨some r, v1, L1, [b]⟩, true) ⟨hs.add (v := v) (by simp) hl hp hh, rfl⟩ rfl hk (fun b hb => (frF_fin g _ b).2 hb) (sA : SelAll [packF (frL g [.map (some r)] 116 v1 L1), mp r .u32 (mset b one [])] _)
    | some r =>
      by_cases hbK : b ∈ K
      · rw [give_no (.inr ((hKm b).1 hbK))]
        refine g_enter0 T _ (frF g ⟨some r, v, L, K⟩) [] Tryz.func40 rfl Tryz.ntmps40 rfl (Kn.startP h (fun b hb => (frF_fin g _ b).1 hb) (fun _ h => by cases h)) ?_
        change GK _ _ _ [packF (frL g [.map (some r)] 116 v L), mp r .u32 (kv K)] _
        refine gk_unpack (by repeat (first | with_reducible exact Sel.here | with_reducible apply Sel.there)) ?_
        (repeat' (first | (refine gG ?_; try intro _) | ((first | refine g_split rfl rfl tE (fun _ => ?_) (fun _ => ?_) | refine gk_cond rfl rfl tE (fun _ => ?_) (fun _ => ?_)) <;> (try first | (exfalso; omega; done) | (rename_i hx; exact absurd rfl hx) | (rename_i hx; cases hx; done)))))
        refine g_yd rfl rfl ((ys_lookup (S := [mp r .u32 (kv K)]) rfl rfl rfl Tryz.underlying76 Tryz.underlying22 z_int mE).ydS sF) ?_
        refine g_say 13 (.int .i64 1) rfl (has_val.trans (by rw [if_pos hbK])) ?_
        (repeat' (first | (refine gG ?_; try intro _) | ((first | refine g_split rfl rfl tE (fun _ => ?_) (fun _ => ?_) | refine gk_cond rfl rfl tE (fun _ => ?_) (fun _ => ?_)) <;> (try first | (exfalso; omega; done) | (rename_i hx; exact absurd rfl hx) | (rename_i hx; cases hx; done)))))
        refine gk_pack (frL g [.map (some r)] 116 v L) [mp r .u32 (kv K)] sA ?_
        refine gk_ret hT rfl rfl (.tmp rfl .nil) (fun w' hk => ?_)
        exact RetM.mkP (ll := fun r : FrS × Bool => frF g r.1) (⟨some r, v, L, K⟩, false) ⟨hs, rfl⟩ rfl hk (fun b hb => (frF_fin g _ b).2 hb) (sA : SelAll [packF (frL g [.map (some r)] 116 v L), mp r .u32 (kv K)] _)
      · have hbS : b ∉ S := fun h => hbK ((hKm b).2 h)
        rw [give_yes (by simp [hb, hbS])]
        refine g_enter0 T _ (frF g ⟨some r, v, L, K⟩) [] Tryz.func40 rfl Tryz.ntmps40 rfl (Kn.startP h (fun b hb => (frF_fin g _ b).1 hb) (fun _ h => by cases h)) ?_
        change GK _ _ _ [packF (frL g [.map (some r)] 116 v L), mp r .u32 (kv K)] _
        refine gk_unpack (by repeat (first | with_reducible exact Sel.here | with_reducible apply Sel.there)) ?_
        (repeat' (first | (refine gG ?_; try intro _) | ((first | refine g_split rfl rfl tE (fun _ => ?_) (fun _ => ?_) | refine gk_cond rfl rfl tE (fun _ => ?_) (fun _ => ?_)) <;> (try first | (exfalso; omega; done) | (rename_i hx; exact absurd rfl hx) | (rename_i hx; cases hx; done)))))
        refine g_yd rfl rfl ((ys_lookup (S := [mp r .u32 (kv K)]) rfl rfl rfl Tryz.underlying76 Tryz.underlying22 z_int mE).ydS sF) ?_
        refine g_say 13 (.int .i64 0) rfl (has_val.trans (by rw [if_neg hbK])) ?_
        (repeat' (first | (refine gG ?_; try intro _) | ((first | refine g_split rfl rfl tE (fun _ => ?_) (fun _ => ?_) | refine gk_cond rfl rfl tE (fun _ => ?_) (fun _ => ?_)) <;> (try first | (exfalso; omega; done) | (rename_i hx; exact absurd rfl hx) | (rename_i hx; cases hx; done)))))
        refine g_yd rfl rfl (Ys.yd (ys_map_nil hT rfl rfl rfl Tryz.underlying76)) ?_
        (repeat' (first | (refine gG ?_; try intro _) | ((first | refine g_split rfl rfl tE (fun _ => ?_) (fun _ => ?_) | refine gk_cond rfl rfl tE (fun _ => ?_) (fun _ => ?_)) <;> (try first | (exfalso; omega; done) | (rename_i hx; exact absurd rfl hx) | (rename_i hx; cases hx; done)))))
        refine g_mv rfl (mv_mapUpdate rfl rfl rfl rfl rfl Tryz.underlying76 Tryz.underlying22 (by first | ((repeat (first | with_reducible exact Upd.here _ | with_reducible apply Upd.there)); done) | ((repeat (first | exact Upd.here _ | apply Upd.there)); done) | fail) ?_)
        rw [kv_set hbK]
        (repeat' (first | (refine gG ?_; try intro _) | ((first | refine g_split rfl rfl tE (fun _ => ?_) (fun _ => ?_) | refine gk_cond rfl rfl tE (fun _ => ?_) (fun _ => ?_)) <;> (try first | (exfalso; omega; done) | (rename_i hx; exact absurd rfl hx) | (rename_i hx; cases hx; done)))))
        refine g_yd rfl rfl (Ys.yd (ys_makeIface rfl rfl (by kernel_rfl))) ?_
        (repeat' (first | (refine gG ?_; try intro _) | ((first | refine g_split rfl rfl tE (fun _ => ?_) (fun _ => ?_) | refine gk_cond rfl rfl tE (fun _ => ?_) (fun _ => ?_)) <;> (try first | (exfalso; omega; done) | (rename_i hx; exact absurd rfl hx) | (rename_i hx; cases hx; done)))))
        refine g_yd rfl rfl (Ys.yd (ys_makeIface rfl rfl (by kernel_rfl))) ?_
        refine g_pack (frL g [.map (some r)] 116 v L) [mp r .u32 (kv (K ++ [b]))] sA ?_
        refine g_mv rfl (mv_call_mod (φ := packF (frL g [.map (some r)] 116 v L)) (ψ := fun q : Value × List Int => packF (frL g [.map (some r)] 116 q.1 q.2)) (fun w hk => hpush_any (frHO g [.map (some r)] 116) v L b w (hk.rO (φ := packF (frL g [.map (some r)] 116 v L)) mE) trivial (by omega) hs.heap) rfl rfl rfl rfl rfl (by kernel_rfl) (by intro _; first | ((repeat (first | with_reducible exact Upd.here _ | with_reducible apply Upd.there)); done) | ((repeat (first | exact Upd.here _ | apply Upd.there)); done) | fail) (fun q hI => ?_))
        obtain ⟨v1, L1⟩ := q
        obtain ⟨hp, hh⟩ := hI
        (repeat' (first | (refine gG ?_; try intro _) | ((first | refine g_split rfl rfl tE (fun _ => ?_) (fun _ => ?_) | refine gk_cond rfl rfl tE (fun _ => ?_) (fun _ => ?_)) <;> (try first | (exfalso; omega; done) | (rename_i hx; exact absurd rfl hx) | (rename_i hx; cases hx; done)))))
        refine gk_ret hT rfl rfl (.tmp rfl .nil) (fun w' hk => ?_)
        exact RetM.mkP (ll := fun r : FrS × Bool => frF g r.1) (⟨some r, v1, L1, K ++ [b]⟩, true) ⟨hs.add (v := v) hbS hl hp hh, rfl⟩ rfl hk (fun b hb => (frF_fin g _ b).2 hb) (sA : SelAll [packF (frL g [.map (some r)] 116 v1 L1), mp r .u32 (kv (K ++ [b]))] _)
end Go.Proofs.YtokhfkbbhdaghaaGreat.Hp
namespace Go.Proofs.YtokhfkbbhdaghaaGreat.Hp
open Go.RowKit Mem Gx
set_option linter.unusedVariables false
set_option linter.unusedSimpArgs false
set_option maxRecDepth 100000
set_option maxHeartbeats 1000000
theorem fr_v {g : Nat} {s : FrS} {w : World} (h : Rd1 w (packF (frF g s))) : ∃ A c, s.v = .slice A s.L.length c ∧ s.L.length ≤ c ∧ c ≤ maxLen ∧ (A = none → c = 0) ∧ Rd1 w (sl A 1 (IE .u32) s.L) := own_rdv ((h.unpack (.head _)).unpack (.tail _ (.head _)))
theorem ltake_any (g : Nat) (s : FrS) (S : List Int) (w : World) (hs : FrOk s S) (h : Rd1 w (packF (frF g s))) :
    Calls Tryz.prog 84 [.pointer (some ⟨g, 0, none⟩)].toArray w (RetM (packF (frF g s)) (fun r : FrS × Int × Bool => FrOk r.1 (takeP S).1 ∧ r.2 = (takeP S).2) (fun r => .tuple #[.int .u32 r.2.1, .bool r.2.2]) (fun r => packF (frF g r.1)) w) := by
  obtain ⟨A, c, hv, hc, hm, hA, hrd⟩ := fr_v h
  obtain ⟨mo, v, L, K⟩ := s
  replace hv : v = .slice A L.length c := hv
  subst hv
  have hLl : L.length = S.length := hs.l.length_eq
  have hS9 := hs.len
  cases S with
  | nil =>
    obtain rfl : L = [] := by simpa using hLl
    refine g_enter0 T _ (frF g ⟨mo, .slice A ([] : List Int).length c, [], K⟩) [] Tryz.func84 rfl Tryz.ntmps84 rfl (Kn.startP h (fun b hb => (frF_fin g _ b).1 hb) (fun _ h => by cases h)) ?_
    change GK _ _ _ [packF (frL g [.map mo] 116 (.slice A 0 c) []), mpo mo K] _
    refine gk_unpack (by repeat (first | with_reducible exact Sel.here | with_reducible apply Sel.there)) ?_
    (repeat' (first | (refine gG ?_; try intro _) | ((first | refine g_split rfl rfl tE (fun _ => ?_) (fun _ => ?_) | refine gk_cond rfl rfl tE (fun _ => ?_) (fun _ => ?_)) <;> (try first | (exfalso; omega; done) | (rename_i hx; exact absurd rfl hx) | (rename_i hx; cases hx; done)))))
    refine gk_pack (frL g [.map mo] 116 (.slice A 0 c) []) [mpo mo K] sA ?_
    refine gk_ret hT rfl rfl (.tmp rfl (.tmp rfl .nil)) (fun w' hk => ?_)
    exact RetM.mkP (ll := fun r : FrS × Int × Bool => frF g r.1) (⟨mo, .slice A 0 c, [], K⟩, 0, false) ⟨hs, rfl⟩ rfl hk (fun b hb => (frF_fin g _ b).2 hb) (sA : SelAll [packF (frL g [.map mo] 116 (.slice A 0 c) []), mpo mo K] _)
  | cons x S' =>
    cases mo with
    | none => have := hs.nil rfl; cases this
    | some r =>
      have hL0 : 0 < L.length := by rw [hLl]; simp
      have hS8 : L.length ≤ 10000 := by rw [hLl]; exact hS9
      have hsrt := (List.pairwise_cons.1 hs.sorted).2
      refine g_enter0 T _ (frF g ⟨some r, .slice A L.length c, L, K⟩) [] Tryz.func84 rfl Tryz.ntmps84 rfl (Kn.startP h (fun b hb => (frF_fin g _ b).1 hb) (fun _ h => by cases h)) ?_
      change GK _ _ _ [packF (frL g [.map (some r)] 116 (.slice A L.length c) L), mp r .u32 (kv K)] _
      refine gk_unpack (by repeat (first | with_reducible exact Sel.here | with_reducible apply Sel.there)) ?_
      (repeat' (first | (refine gG ?_; try intro _) | ((first | refine g_split rfl rfl tE (fun _ => ?_) (fun _ => ?_) | refine gk_cond rfl rfl tE (fun _ => ?_) (fun _ => ?_)) <;> (try first | (exfalso; omega; done) | (rename_i hx; exact absurd rfl hx) | (rename_i hx; cases hx; done)))))
      refine g_yd rfl rfl (Ys.yd (ys_makeIface rfl rfl (by kernel_rfl))) ?_
      refine g_pack (frL g [.map (some r)] 116 (.slice A L.length c) L) [mp r .u32 (kv K)] sA ?_
      refine g_mv rfl (mv_call_mod (φ := packF (frL g [.map (some r)] 116 (.slice A L.length c) L)) (ψ := fun q : Value × List Int × Int => packF (frL g [.map (some r)] 116 q.1 q.2.1)) (fun w hk => hpop_any (frHO g [.map (some r)] 116) (.slice A L.length c) L w (hk.rO (φ := packF (frL g [.map (some r)] 116 (.slice A L.length c) L)) mE) trivial (by omega) hL0 hs.heap) rfl rfl rfl rfl rfl (by kernel_rfl) (by intro _; first | ((repeat (first | with_reducible exact Upd.here _ | with_reducible apply Upd.there)); done) | ((repeat (first | exact Upd.here _ | apply Upd.there)); done) | fail) (fun q hI => ?_))
      obtain ⟨v1, L1, x'⟩ := q
      obtain ⟨hx0, hp, hh⟩ := hI
      obtain rfl : x' = x := hs.least hx0
      refine g_say 15 (.iface 22 (.int .u32 x')) rfl rfl ?_
      refine g_yd rfl rfl (Ys.yd (ys_typeAssert rfl rfl (by kernel_rfl))) ?_
      (repeat (refine gG ?_; try intro _))
      refine g_unpack (by repeat (first | with_reducible exact Sel.here | with_reducible apply Sel.there)) ?_
      (repeat (refine gG ?_; try intro _))
      have hxK : x' ∈ K := hs.k.mem_iff.2 (.head _)
      obtain ⟨K1, hK1, hK2⟩ := kv_del hxK
      refine g_mv rfl (mv_mapDelete rfl rfl rfl rfl rfl Tryz.underlying76 Tryz.underlying22 (by first | ((repeat (first | with_reducible exact Upd.here _ | with_reducible apply Upd.there)); done) | ((repeat (first | exact Upd.here _ | apply Upd.there)); done) | fail) ?_)
      rw [hK1]
      (repeat (refine gG ?_; try intro _))
      refine gk_pack (frL g [.map (some r)] 116 v1 L1) [mp r .u32 (kv K1)] sA ?_
      refine gk_ret hT rfl rfl (.tmp rfl (.tmp rfl .nil)) (fun w' hk => ?_)
      exact RetM.mkP (ll := fun r : FrS × Int × Bool => frF g r.1) (⟨some r, v1, L1, K1⟩, x', true) ⟨hs.less (by simp) (List.Perm.refl _) hsrt hp hK2 hh, rfl⟩ rfl hk (fun b hb => (frF_fin g _ b).2 hb) (sA : SelAll [packF (frL g [.map (some r)] 116 v1 L1), mp r .u32 (kv K1)] _)
def dropP (b : Int) (S : List Int) : List Int := S.filter fun x => decide (x ≠ b)
theorem drop_perm {b : Int} : ∀ {S : List Int}, S.Pairwise (· < ·) → b ∈ S → (b :: dropP b S).Perm S
  | [], _, h => by cases h
  | x :: r, h, hb => by
    obtain ⟨h1, h2⟩ := List.pairwise_cons.1 h
    unfold dropP
    by_cases e : x = b
    · subst e
      rw [List.filter_cons_of_neg (by simp)]
      have : r.filter (fun y => decide (y ≠ x)) = r := List.filter_eq_self.2 fun y hy => by have := h1 y hy; simpa using (by omega : y ≠ x)
      rw [this]
    · rw [List.filter_cons_of_pos (by simpa using e)]
      have hb' : b ∈ r := by cases hb with | head => exact absurd rfl e | tail _ h => exact h
      exact (List.Perm.swap x b _).trans ((drop_perm h2 hb').cons x)
theorem drop_no {b : Int} {S : List Int} (h : b ∉ S) : dropP b S = S := List.filter_eq_self.2 fun y hy => by simpa using fun e : y = b => h (e ▸ hy)
end Go.Proofs.YtokhfkbbhdaghaaGreat.Hp
namespace Go.Proofs.YtokhfkbbhdaghaaGreat.Hp
open Go.RowKit Mem Gx
set_option linter.unusedVariables false
set_option linter.unusedSimpArgs false
set_option maxRecDepth 100000
set_option maxHeartbeats 4000000
theorem elt_U : Elt Tryz.prog 45 22 1 4 := Elt.mk' (z := .int .u32 0) Tryz.underlying45 (by kernel_rfl) rfl (by decide)
def iota (k : Nat) : List Int := (List.range k).map fun (i : Nat) => (i : Int) + 1
theorem iota_succ (k : Nat) : iota (k + 1) = iota k ++ [(k : Int) + 1] := by
  unfold iota
  rw [List.range_succ, List.map_append]
  rfl
theorem iota_mem {k : Nat} {x : Int} (h : x ∈ iota k) : 1 ≤ x ∧ x ≤ k := by
  unfold iota at h
  obtain ⟨i, hi, rfl⟩ := List.mem_map.1 h
  have := List.mem_range.1 hi
  omega
theorem iota_len (k : Nat) : (iota k).length = k := by simp [iota]
theorem ins_end {b : Int} : ∀ {S : List Int}, (∀ x, x ∈ S → x < b) → ins b S = S ++ [b]
  | [], _ => rfl
  | x :: r, h => by
    unfold ins
    rw [if_pos (h x (.head _)), ins_end fun y hy => h y (.tail _ hy)]
    rfl
theorem give_iota (k : Nat) : giveP ((k : Int) + 1) (iota k) = (iota (k + 1), true) := by
  rw [give_yes (by
    rintro (h | h)
    · omega
    · have := iota_mem h; omega), ins_end (fun x hx => by have := iota_mem hx; omega), iota_succ]
theorem iota_sorted : ∀ k, (iota k).Pairwise (· < ·)
  | 0 => .nil
  | k + 1 => by
    rw [iota_succ]
    refine List.pairwise_append.2 ⟨iota_sorted k, List.pairwise_singleton _ _, fun a ha b hb => ?_⟩
    obtain rfl := List.mem_singleton.1 hb
    have := iota_mem ha
    omega
theorem lnew_bad (n : Int) (w : World) (hn : n < 0 ∨ 4096 < n) : Calls Tryz.prog 21 [.int .i64 n].toArray w fun e w' => e = .returned (.tuple #[.pointer none, .int .i64 10]) ∧ Below w.heap.size w w' := by
  refine g_enter0 T [] [] [] Tryz.func21 rfl Tryz.ntmps21 rfl (Kn.start _) ?_
  (repeat' (first | (refine gG ?_; try intro _) | ((first | refine g_split rfl rfl tE (fun _ => ?_) (fun _ => ?_) | refine gk_cond rfl rfl tE (fun _ => ?_) (fun _ => ?_)) <;> (try first | (exfalso; omega; done) | (rename_i hx; exact absurd rfl hx) | (rename_i hx; cases hx; done)))))
  all_goals refine gk_ret hT rfl rfl (.tmp rfl (.tmp rfl .nil)) (fun w' hk => ?_)
  all_goals exact ⟨rfl, hk.toBelow⟩
theorem gk_triv {X : Cx} {f : Fr} {O R : List Fact} {ks : List KI} (ψ : Fact) (hp : ∀ w, ψ.p w) (hn : ∀ b, ¬ ψ.S b) (hg : GK X ks f (ψ :: O) R) : GK X ks f O R := .mk fun a w hr hk => hg.out a w hr (hk.addO ψ (hp w) hn)
theorem lnew_any (n : Nat) (w : World) (hn : n ≤ 4096) : Calls Tryz.prog 21 [.int .i64 (n : Int)].toArray w (Ret (fun q : Nat × FrS => FrOk q.2 (iota n)) (fun q => .tuple #[.pointer (some ⟨q.1, 0, none⟩), .int .i64 0]) (fun q => [packF (frF q.1 q.2)]) w) := by
  refine g_enter0 T [] [] [] Tryz.func21 rfl Tryz.ntmps21 rfl (Kn.start _) ?_
  (repeat' (first | (refine gG ?_; try intro _) | ((first | refine g_split rfl rfl tE (fun _ => ?_) (fun _ => ?_) | refine gk_cond rfl rfl tE (fun _ => ?_) (fun _ => ?_)) <;> (try first | (exfalso; omega; done) | (rename_i hx; exact absurd rfl hx) | (rename_i hx; cases hx; done)))))
  rename_i g
  refine gk_own 0 22 1 (IE .u32) ?_
  refine gk_pack (frL g [.map none] 116 (.slice none 0 0) []) [] sA ?_
  have h0 : FrOk ⟨none, .slice none 0 0, [], []⟩ (iota 0) := ⟨List.Perm.refl _, List.Perm.refl _, .nil, fun k h0 hk => absurd hk (Nat.not_lt_zero _), fun _ => rfl, Nat.zero_le _⟩
  refine gk_triv (mpo none []) (fun _ => rfl) (fun b h => h) ?_
  refine gk_pack (frF g ⟨none, .slice none 0 0, [], []⟩) [] (sA : SelAll [packF (frL g [.map none] 116 (.slice none 0 0) []), mpo none []] _) ?_
  refine gk_loop_sel (fun (q : Nat × FrS) => match q with | (k, s) => (k ≤ n ∧ FrOk s (iota k))) (fun (q : Nat × FrS) => match q with | (k, s) => [(4, .pointer (some ⟨g, 0, none⟩)), (14, .int .i64 n), (15, .int .i64 k)]) (fun (q : Nat × FrS) => match q with | (k, s) => [packF (frF g s)]) (fun (q : Nat × FrS) => match q with | (k, s) => []) (fun (q : Nat × FrS) => match q with | (k, s) => n - k) (0, ⟨none, .slice none 0 0, [], []⟩) rfl ⟨Nat.zero_le _, h0⟩ (by repeat (first | exact trivial | refine ⟨rfl, ?_⟩)) sA sS ?_
  rintro ⟨k, s⟩ hI
  replace hI : (k ≤ n ∧ FrOk s (iota k)) := hI
  change GK _ _ [(4, .pointer (some ⟨g, 0, none⟩)), (14, .int .i64 n), (15, .int .i64 k)] [packF (frF g s)] []
  obtain ⟨hk1, hs⟩ := hI
  by_cases hlt : k < n
  · (repeat (refine gG ?_; try intro _))
    refine gk_cond rfl rfl (tells_tB _) (fun _ => ?_) (fun h => absurd (by omega) h)
    (repeat (refine gG ?_; try intro _))
    refine g_mv rfl (mv_call_mod (φ := packF (frF g s)) (ψ := fun q : FrS × Bool => packF (frF g q.1)) (fun w hk => lgive_any g s (iota k) ((k : Int) + 1) w hs (by rw [iota_len]; omega) (hk.rO (φ := packF (frF g s)) mE)) rfl rfl rfl rfl rfl (by kernel_rfl) (by intro _; first | ((repeat (first | with_reducible exact Upd.here _ | with_reducible apply Upd.there)); done) | ((repeat (first | exact Upd.here _ | apply Upd.there)); done) | fail) (fun q hI => ?_))
    obtain ⟨s1, b1⟩ := q
    obtain ⟨h1, h2⟩ := hI
    rw [give_iota] at h1 h2
    (repeat (refine gG ?_; try intro _))
    refine gk_again_sel rfl (k + 1, s1) ⟨by omega, h1⟩ (by dsimp only; omega) (by repeat (first | exact trivial | refine ⟨rfl, ?_⟩)) sA sS
  · obtain rfl : k = n := by omega
    (repeat (refine gG ?_; try intro _))
    refine gk_cond rfl rfl (tells_tB _) (fun h => absurd h (by omega)) (fun _ => ?_)
    (repeat (refine gG ?_; try intro _))
    refine gk_ret hT rfl rfl (.tmp rfl (.tmp rfl .nil)) (fun w' hk => ?_)
    exact Ret.mk (g, s) hs rfl hk sA
end Go.Proofs.YtokhfkbbhdaghaaGreat.Hp
