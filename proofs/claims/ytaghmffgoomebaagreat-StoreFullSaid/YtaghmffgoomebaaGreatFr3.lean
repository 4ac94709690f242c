/- Rows of blocks that are free, as heaps: their methods. Rows of blocks that are free: Push, Pop; they are heaps. Blocks that are free: the list's state; Len, Has, Give, Take. -/
import Derived.Test.YtaghmffgoomebaaGreatHp3
import Derived.Test.YtaghmffgoomebaaGreatGxQ
import Derived.Test.YtaghmffgoomebaaGreatGxN
namespace Go.Proofs.YtaghmffgoomebaaGreat.Hp
open Go.RowKit Mem Gx
set_option linter.unusedVariables false
set_option linter.unusedSimpArgs false
set_option maxRecDepth 100000
set_option maxHeartbeats 1000000
theorem elt_F : Elt Tryz.prog 149 26 1 4 := Elt.mk' (z := .int .u32 0) Tryz.underlying149 (by kernel_rfl) rfl (by decide)
theorem oneU : ∀ (x : Int) (j : Nat), (IE .u32 x j).oneCell' = true := fun x j => rfl
theorem flen_any (A : Option Addr) (n c : Nat) (w : World) : Calls Tryz.prog 168 [.slice A n c].toArray w fun e w' => e = .returned (.int .i64 (n : Int)) ∧ Below w.heap.size w w' := by
  refine g_enter0 T [] [] [] Tryz.func168 rfl Tryz.ntmps168 rfl (Kn.start _) ?_
  (repeat' (first | (refine gG ?_; try intro _) | ((first | refine g_split rfl rfl tE (fun _ => ?_) (fun _ => ?_) | refine gk_cond rfl rfl tE (fun _ => ?_) (fun _ => ?_)) <;> (try first | (exfalso; omega; done) | (rename_i hx; exact absurd rfl hx) | (rename_i hx; cases hx; done)))))
  refine gk_ret hT rfl rfl (.tmp rfl .nil) (fun w' hk => ?_)
  exact ⟨rfl, hk.toBelow⟩
theorem fless_any (A : Option Addr) (n c : Nat) (L : List Int) (i j : Nat) (x y : Int) (w : World) (hn : n = L.length) (hx : L[i]? = some x) (hy : L[j]? = some y) (hs : Rd1 w (sl A 1 (IE .u32) L)) :
    Calls Tryz.prog 169 [.slice A n c, .int .i64 (i : Int), .int .i64 (j : Int)].toArray w fun e w' => e = .returned (.bool (tB (x < y))) ∧ Below w.heap.size w w' := by
  have hi := (List.getElem?_eq_some_iff.1 hx).1
  have hj := (List.getElem?_eq_some_iff.1 hy).1
  refine g_enter0 T [] [] [sl A 1 (IE .u32) L] Tryz.func169 rfl Tryz.ntmps169 rfl (Rds.cons hs .nil).kn ?_
  refine gk_elem (enc := IE .u32) (L := L) i mE hi (by decide) (fun b o z eA hz => ?_)
  obtain rfl : x = z := by rw [hx] at hz; exact Option.some.inj hz
  refine gk_elem (enc := IE .u32) (L := L) j mE hj (by decide) (fun b2 o2 z eA2 hz2 => ?_)
  obtain rfl : y = z := by rw [hy] at hz2; exact Option.some.inj hz2
  rw [eA] at eA2
  injection eA2 with e3
  injection e3 with e4 e5
  subst e4
  subst e5
  subst eA
  (repeat (refine gG ?_; try intro _))
  refine gk_drawn_at [0, 1] rfl rfl (by kernel_rfl) ?_
  (repeat (first | refine ga_nil (by decide +kernel) ?_ | refine ga_take (by decide +kernel) rfl rfl (ys_ev (nw := true) hT rfl sI) sF ?_ | refine ga_skip (by decide +kernel) rfl rfl sF ?_ | refine ga_take (by decide +kernel) rfl rfl (ys_blk hT rfl rfl mE rfl rfl) sF ?_ | refine ga_take (by decide +kernel) rfl rfl (ys_row hT rfl rfl mE rfl rfl) sF ?_ | refine ga_take (by decide +kernel) rfl rfl (ys_row0 hT rfl rfl mE rfl rfl) sF ?_ | (refine ga_mv (by decide +kernel) rfl ?_; (first | (refine mv_box rfl rfl rfl rfl ?_; intro _) | (refine mv_alloc rfl hT rfl rfl ?_; intro _) | refine mv_store hT rfl rfl rfl rfl rfl rfl sO rfl ?_ | (refine mv_buildSlice rfl hT rfl rfl rfl rfl rfl rfl rfl rfl ?_; intro _)); refine ⟨sF, ?_⟩) | refine ga_take (by decide +kernel) rfl rfl (ys_eql rfl rfl rfl rfl rfl (by kernel_rfl)) sF ?_ | refine ga_take (by decide +kernel) rfl rfl (ys_neq rfl rfl rfl rfl rfl (by kernel_rfl)) sF ?_))
  (repeat (refine gG ?_; try intro _))
  refine gk_ret hT rfl rfl (.tmp rfl .nil) (fun w' hk => ?_)
  exact ⟨rfl, hk.toBelow⟩
/-- The row in its block, with what lies beside it. -/
abbrev frL (g : Nat) (rest : List Value) (Tg : TypeId) (v : Value) (L : List Int) : List Fact := [blk g (v :: rest) Tg, own 0 26 1 v (IE .u32) L]
theorem fr_fin (g : Nat) (rest : List Value) (Tg : TypeId) (v : Value) (L : List Int) : ∀ b, (packF (frL g rest Tg v L)).S b ↔ b ∈ g :: ownE v := fun b => by
  constructor
  · rintro ⟨φ, hφ, hb⟩
    rcases List.mem_cons.1 hφ with rfl | hφ
    · have : b = g := hb
      rw [this]
      exact .head _
    · obtain rfl := List.mem_singleton.1 hφ
      exact .tail _ (ownE_mem.2 hb)
  · intro hb
    rcases List.mem_cons.1 hb with rfl | hb
    · exact ⟨_, .head _, rfl⟩
    · exact ⟨_, .tail _ (.head _), ownE_mem.1 hb⟩
theorem fswap_any (g : Nat) (rest : List Value) (Tg : TypeId) (v : Value) (L : List Int) (i j : Nat) (x y : Int) (w : World) (hx : L[i]? = some x) (hy : L[j]? = some y) (h : Rd1 w (packF (frL g rest Tg v L))) :
    Calls Tryz.prog 170 [v, .int .i64 (i : Int), .int .i64 (j : Int)].toArray w (RetM (packF (frL g rest Tg v L)) (fun _ : Value => True) (fun v => v) (fun _ => packF (frL g rest Tg v (swp L i j x y))) w) := by
  have hi := (List.getElem?_eq_some_iff.1 hx).1
  have hj := (List.getElem?_eq_some_iff.1 hy).1
  obtain ⟨b, c, hv, hc, hm⟩ := own_at0 (h.unpack (.tail _ (.head _))).1 (by omega)
  subst hv
  have hy2 : (L.set i y)[j]? = some y := by
    by_cases e : i = j
    · subst e; simp [hi]
    · rw [List.getElem?_set_ne e]; exact hy
  refine g_enter0 T _ (frL g rest Tg _ L) [] Tryz.func170 rfl Tryz.ntmps170 rfl (Kn.startP h (fun b hb => (fr_fin g rest Tg _ L b).1 hb) (fun _ h => by cases h)) ?_
  refine gk_any [] (Cut _ (fun _ : Unit => []) (fun _ => frL g rest Tg (.slice (some ⟨b, 0, none⟩) L.length c) (swp L i j x y)) (fun _ => [])) rfl rfl (by kernel_rfl) ?_ (cut_k fun _ => ?_)
  · skip
    refine gb_take 0 rfl (by decide +kernel) rfl rfl (ys_ev (nw := true) hT rfl sI) sF ?_
    refine gb_take 1 rfl (by decide +kernel) rfl rfl (ys_ev (nw := true) hT rfl sI) sF ?_
    refine gb_take 2 rfl (by decide +kernel) rfl rfl (ys_ev (nw := true) hT rfl sI) sF ?_
    refine gb_take 3 rfl (by decide +kernel) rfl rfl (ys_ev (nw := true) hT rfl sI) sF ?_
    refine gb_take 4 rfl (by decide +kernel) rfl rfl (ys_ev (nw := true) hT rfl sI) sF ?_
    refine gb_take 5 rfl (by decide +kernel) rfl rfl (ys_ev (nw := true) hT rfl sI) sF ?_
    refine gb_take 6 rfl (by decide +kernel) rfl rfl (ys_ev (nw := true) hT rfl sI) sF ?_
    refine gb_take 8 rfl (by decide +kernel) rfl rfl (ys_ev (nw := true) hT rfl sI) sF ?_
    refine gb_take 9 rfl (by decide +kernel) rfl rfl (ys_ev (nw := true) hT rfl sI) sF ?_
    refine gb_take 10 rfl (by decide +kernel) rfl rfl (ys_ev (nw := true) hT rfl sI) sF ?_
    refine gb_all (by decide +kernel) ?_
    refine gball_not (by decide +kernel) ?_
    refine gball_not (by decide +kernel) ?_
    refine gball_not (by decide +kernel) ?_
    refine gball_not (by decide +kernel) ?_
    refine gball_not (by decide +kernel) ?_
    refine gball_not (by decide +kernel) ?_
    refine gball_not (by decide +kernel) ?_
    refine gball_yes rfl rfl ?_ ?_
    · refine mv_yd rfl ((ys_load_el (S := [own 0 26 1 (.slice (some ⟨b, 0, none⟩) L.length c) (IE .u32) L]) (o0 := 0) (sz := 1) (enc := IE .u32) (L := L) hT j y 0 rfl rfl rfl rfl hy (at_own mE) rfl rfl).ydS sF) ?_
      refine ⟨sF, ?_⟩
      refine gb_only 11 (by decide +kernel) rfl rfl ?_
      refine mv_yd rfl ((ys_load_el (S := [own 0 26 1 (.slice (some ⟨b, 0, none⟩) L.length c) (IE .u32) L]) (o0 := 0) (sz := 1) (enc := IE .u32) (L := L) hT i x 0 rfl rfl rfl rfl hx (at_own mE) rfl rfl).ydS sF) ?_
      refine ⟨sF, ?_⟩
      refine gb_take 12 rfl (by decide +kernel) rfl rfl (ys_ev (nw := true) hT rfl sI) sF ?_
      refine gb_only 13 (by decide +kernel) rfl rfl ?_
      refine mv_store_own hT i 0 x y rfl rfl (by show 0 + i * 1 = i * 1 + 0; omega) rfl rfl rfl rfl hx (by decide) (fun b hb hne => absurd (by omega) hne) rfl (by first | ((repeat (first | with_reducible exact Upd.here _ | with_reducible apply Upd.there)); done) | ((repeat (first | exact Upd.here _ | apply Upd.there)); done) | fail) rfl ?_
      refine ⟨sF, ?_⟩
      refine gb_take 14 rfl (by decide +kernel) rfl rfl (ys_ev (nw := true) hT rfl sI) sF ?_
      refine gb_only 15 (by decide +kernel) rfl rfl ?_
      refine mv_store_own hT j 0 y x rfl rfl (by show 0 + j * 1 = j * 1 + 0; omega) rfl rfl rfl rfl hy2 (by decide) (fun b hb hne => absurd (by omega) hne) rfl (by first | ((repeat (first | with_reducible exact Upd.here _ | with_reducible apply Upd.there)); done) | ((repeat (first | exact Upd.here _ | apply Upd.there)); done) | fail) rfl ?_
      refine ⟨sF, ?_⟩
      refine gb_nil (by decide +kernel) ?_
      exact ⟨(), (by repeat (first | exact trivial | refine ⟨rfl, ?_⟩)), sA, sS⟩
    refine gball_not (by decide +kernel) ?_
    refine gball_not (by decide +kernel) ?_
    refine gball_not (by decide +kernel) ?_
    refine gball_yes rfl rfl ?_ ?_
    · refine mv_yd rfl ((ys_load_el (S := [own 0 26 1 (.slice (some ⟨b, 0, none⟩) L.length c) (IE .u32) L]) (o0 := 0) (sz := 1) (enc := IE .u32) (L := L) hT i x 0 rfl rfl rfl rfl hx (at_own mE) rfl rfl).ydS sF) ?_
      refine ⟨sF, ?_⟩
      refine gb_only 7 (by decide +kernel) rfl rfl ?_
      refine mv_yd rfl ((ys_load_el (S := [own 0 26 1 (.slice (some ⟨b, 0, none⟩) L.length c) (IE .u32) L]) (o0 := 0) (sz := 1) (enc := IE .u32) (L := L) hT j y 0 rfl rfl rfl rfl hy (at_own mE) rfl rfl).ydS sF) ?_
      refine ⟨sF, ?_⟩
      refine gb_take 12 rfl (by decide +kernel) rfl rfl (ys_ev (nw := true) hT rfl sI) sF ?_
      refine gb_only 13 (by decide +kernel) rfl rfl ?_
      refine mv_store_own hT i 0 x y rfl rfl (by show 0 + i * 1 = i * 1 + 0; omega) rfl rfl rfl rfl hx (by decide) (fun b hb hne => absurd (by omega) hne) rfl (by first | ((repeat (first | with_reducible exact Upd.here _ | with_reducible apply Upd.there)); done) | ((repeat (first | exact Upd.here _ | apply Upd.there)); done) | fail) rfl ?_
      refine ⟨sF, ?_⟩
      refine gb_take 14 rfl (by decide +kernel) rfl rfl (ys_ev (nw := true) hT rfl sI) sF ?_
      refine gb_only 15 (by decide +kernel) rfl rfl ?_
      refine mv_store_own hT j 0 y x rfl rfl (by show 0 + j * 1 = j * 1 + 0; omega) rfl rfl rfl rfl hy2 (by decide) (fun b hb hne => absurd (by omega) hne) rfl (by first | ((repeat (first | with_reducible exact Upd.here _ | with_reducible apply Upd.there)); done) | ((repeat (first | exact Upd.here _ | apply Upd.there)); done) | fail) rfl ?_
      refine ⟨sF, ?_⟩
      refine gb_nil (by decide +kernel) ?_
      exact ⟨(), (by repeat (first | exact trivial | refine ⟨rfl, ?_⟩)), sA, sS⟩
    refine gball_not (by decide +kernel) ?_
    refine gball_not (by decide +kernel) ?_
    refine gball_not (by decide +kernel) ?_
    refine gball_not (by decide +kernel) ?_
    exact gball_end (by decide +kernel)
  · (repeat (refine gG ?_; try intro _))
    refine gk_fin hT rfl rfl .nil (fun w' hk => ?_)
    exact RetM.mkP (ll := fun _ => frL g rest Tg _ (swp L i j x y)) (.tuple #[]) trivial rfl hk (fun b hb => (fr_fin g rest Tg _ L b).2 hb) sA
end Go.Proofs.YtaghmffgoomebaaGreat.Hp
namespace Go.Proofs.YtaghmffgoomebaaGreat.Hp
open Go.RowKit Mem Gx
set_option linter.unusedVariables false
set_option linter.unusedSimpArgs false
set_option maxRecDepth 100000
set_option maxHeartbeats 1000000
theorem fpush_any (g : Nat) (rest : List Value) (Tg : TypeId) (v : Value) (L : List Int) (x : Int) (w : World) (hL : L.length ≤ 100000) (h : Rd1 w (packF (frL g rest Tg v L))) :
    Calls Tryz.prog 173 [.pointer (some ⟨g, 0, none⟩), .iface 26 (.int .u32 x)].toArray w (RetM (packF (frL g rest Tg v L)) (fun _ : Value × Value => True) (fun r => r.2) (fun r => packF (frL g rest Tg r.1 (L ++ [x]))) w) := by
  obtain ⟨A, c, hv, hc, hm, hA, _⟩ := own_rdv (h.unpack (.tail _ (.head _)))
  subst hv
  refine g_enter0 T _ (frL g rest Tg _ L) [] Tryz.func173 rfl Tryz.ntmps173 rfl (Kn.startP h (fun b hb => (fr_fin g rest Tg _ L b).1 hb) (fun _ h => by cases h)) ?_
  refine gk_any [] (Cut _ (fun _ : Value => []) (fun v => frL g rest Tg v (L ++ [x])) (fun _ => [])) rfl rfl (by kernel_rfl) ?_ (cut_k fun v => ?_)
  · skip
    refine gb_take 0 rfl (by decide +kernel) rfl rfl (ys_ev (nw := true) hT rfl sI) sF ?_
    refine gb_take 1 rfl (by decide +kernel) rfl rfl (ys_ev (nw := true) hT rfl sI) sF ?_
    refine gb_take 2 rfl (by decide +kernel) rfl rfl (ys_ev (nw := true) hT rfl sI) sF ?_
    refine gb_take 4 rfl (by decide +kernel) rfl rfl (ys_ev (nw := true) hT rfl sI) sF ?_
    refine gb_take 5 rfl (by decide +kernel) rfl rfl (ys_typeAssert rfl rfl (by kernel_rfl)) sF ?_
    refine gb_all (by decide +kernel) ?_
    refine gball_not (by decide +kernel) ?_
    refine gball_not (by decide +kernel) ?_
    refine gball_not (by decide +kernel) ?_
    refine gball_yes rfl rfl ?_ ?_
    · refine mv_yd rfl (yd_load_blk hT rfl rfl mE rfl rfl) ?_
      refine ⟨sF, ?_⟩
      refine gb_only 6 (by decide +kernel) rfl rfl ?_
      (refine mv_buildSlice (len := 1) rfl hT rfl rfl rfl rfl rfl rfl rfl rfl ?_; intro g7)
      refine ⟨sF, ?_⟩
      refine gb_only 7 (by decide +kernel) rfl rfl ?_
      refine mv_append (L := L) rfl [x] rfl rfl rfl rfl elt_F (by intro _; first | ((repeat (first | with_reducible exact Upd.here _ | with_reducible apply Upd.there)); done) | ((repeat (first | exact Upd.here _ | apply Upd.there)); done) | fail) (src_blk mE rfl) rfl oneU (by simp only [maxLen, List.length_cons, List.length_nil]; omega) (by simp only [List.length_cons, List.length_nil]; omega) (Nat.zero_le _) (fun v2 => ?_)
      refine ⟨sF, ?_⟩
      (refine gb_ownv v2 mE (fun A2 c2 hv2 _ _ _ => ?_); subst hv2)
      refine gb_take 8 rfl (by decide +kernel) rfl rfl (ys_ev (nw := true) hT rfl sI) sF ?_
      refine gb_only 9 (by decide +kernel) rfl rfl ?_
      first | (refine mv_box rfl rfl rfl rfl ?_; intro _) | (refine mv_alloc rfl hT rfl rfl ?_; intro _) | refine mv_store hT rfl rfl rfl rfl rfl rfl sO rfl ?_ | (refine mv_buildSlice rfl hT rfl rfl rfl rfl rfl rfl rfl rfl ?_; intro _)
      refine ⟨sF, ?_⟩
      refine gb_nil (by decide +kernel) ?_
      exact ⟨_, (by repeat (first | exact trivial | refine ⟨rfl, ?_⟩)), sA, sS⟩
    refine gball_not (by decide +kernel) ?_
    refine gball_not (by decide +kernel) ?_
    refine gball_yes rfl rfl ?_ ?_
    · (refine mv_buildSlice (len := 1) rfl hT rfl rfl rfl rfl rfl rfl rfl rfl ?_; intro g7)
      refine ⟨sF, ?_⟩
      refine gb_only 3 (by decide +kernel) rfl rfl ?_
      refine mv_yd rfl (yd_load_blk hT rfl rfl mE rfl rfl) ?_
      refine ⟨sF, ?_⟩
      refine gb_only 7 (by decide +kernel) rfl rfl ?_
      refine mv_append (L := L) rfl [x] rfl rfl rfl rfl elt_F (by intro _; first | ((repeat (first | with_reducible exact Upd.here _ | with_reducible apply Upd.there)); done) | ((repeat (first | exact Upd.here _ | apply Upd.there)); done) | fail) (src_blk mE rfl) rfl oneU (by simp only [maxLen, List.length_cons, List.length_nil]; omega) (by simp only [List.length_cons, List.length_nil]; omega) (Nat.zero_le _) (fun v2 => ?_)
      refine ⟨sF, ?_⟩
      (refine gb_ownv v2 mE (fun A2 c2 hv2 _ _ _ => ?_); subst hv2)
      refine gb_take 8 rfl (by decide +kernel) rfl rfl (ys_ev (nw := true) hT rfl sI) sF ?_
      refine gb_only 9 (by decide +kernel) rfl rfl ?_
      first | (refine mv_box rfl rfl rfl rfl ?_; intro _) | (refine mv_alloc rfl hT rfl rfl ?_; intro _) | refine mv_store hT rfl rfl rfl rfl rfl rfl sO rfl ?_ | (refine mv_buildSlice rfl hT rfl rfl rfl rfl rfl rfl rfl rfl ?_; intro _)
      refine ⟨sF, ?_⟩
      refine gb_nil (by decide +kernel) ?_
      exact ⟨_, (by repeat (first | exact trivial | refine ⟨rfl, ?_⟩)), sA, sS⟩
    refine gball_not (by decide +kernel) ?_
    refine gball_not (by decide +kernel) ?_
    refine gball_not (by decide +kernel) ?_
    exact gball_end (by decide +kernel)
  · (repeat (refine gG ?_; try intro _))
    refine gk_fin hT rfl rfl .nil (fun w' hk => ?_)
    exact RetM.mkP (ll := fun r : Value × Value => frL g rest Tg r.1 (L ++ [x])) (v, .tuple #[]) trivial rfl hk (fun b hb => (fr_fin g rest Tg _ L b).2 hb) sA
theorem fpop_any (g : Nat) (rest : List Value) (Tg : TypeId) (v : Value) (L : List Int) (x : Int) (w : World) (hL : L.length ≤ 100000) (h : Rd1 w (packF (frL g rest Tg v (L ++ [x])))) :
    Calls Tryz.prog 172 [.pointer (some ⟨g, 0, none⟩)].toArray w (RetM (packF (frL g rest Tg v (L ++ [x]))) (fun _ : Value => True) (fun _ => .iface 26 (.int .u32 x)) (fun v' => packF (frL g rest Tg v' L)) w) := by
  have hl1 : (L ++ [x]).length = L.length + 1 := by simp
  have hx : (L ++ [x])[L.length]? = some x := by simp
  obtain ⟨b, c, hv, hc, hm⟩ := own_at0 (h.unpack (.tail _ (.head _))).1 (by omega)
  rw [hl1] at hv hc
  subst hv
  refine g_enter0 T _ (frL g rest Tg _ (L ++ [x])) [] Tryz.func172 rfl Tryz.ntmps172 rfl (Kn.startP h (fun b hb => (fr_fin g rest Tg _ _ b).1 hb) (fun _ h => by cases h)) ?_
  (repeat (refine gG ?_; try intro _))
  refine g_yd rfl rfl ((ys_load_el (S := [own 0 26 1 (.slice (some ⟨b, 0, none⟩) (L.length + 1) c) (IE .u32) (L ++ [x])]) (o0 := 0) (sz := 1) (enc := IE .u32) (L := L ++ [x]) hT L.length x 0 rfl rfl rfl (by omega) hx (at_own mE) rfl rfl).ydS sF) ?_
  (repeat (refine gG ?_; try intro _))
  refine g_yd rfl rfl (Ys.yd (ys_slice_h hT L.length rfl rfl rfl rfl (by omega) (by omega))) ?_
  refine g_say 19 (.slice (some ⟨b, 0, none⟩) L.length c) rfl (by rw [shA_0]) ?_
  refine g_own_blk (g := b) (base := 0) (e := 26) (sz := 1) (n := L.length + 1) (c := c) (enc := IE .u32) (L := L ++ [x]) (by decide) (by intro _; first | ((repeat (first | with_reducible exact Upd.here _ | with_reducible apply Upd.there)); done) | ((repeat (first | exact Upd.here _ | apply Upd.there)); done) | fail) (fun r0 hr1 hr2 hr3 hr4 hr5 => ?_)
  refine g_blk_own (g := b) (e := 26) (base := 0) (sz := 1) (enc := IE .u32) (n := L.length) (c := c) L (by decide) (by first | ((repeat (first | with_reducible exact Upd.here _ | with_reducible apply Upd.there)); done) | ((repeat (first | exact Upd.here _ | apply Upd.there)); done) | fail) hr1 rfl (by omega) hr4 hr5 (by rw [flatF_append, List.append_assoc]; exact List.take_left' (flatF_length _ _ L)) ?_
  (repeat (refine gG ?_; try intro _))
  refine g_yd rfl rfl (Ys.yd (ys_makeIface rfl rfl (by kernel_rfl))) ?_
  (repeat (refine gG ?_; try intro _))
  refine gk_ret hT rfl rfl (.tmp rfl .nil) (fun w' hk => ?_)
  exact RetM.mkP (ll := fun v' => frL g rest Tg v' L) (.slice (some ⟨b, 0, none⟩) L.length c) trivial rfl hk (fun b hb => (fr_fin g rest Tg _ _ b).2 hb) sA
theorem fr_load (g : Nat) (rest : List Value) (Tg : TypeId) (v : Value) (L : List Int) (w : World) (h : Rd1 w (packF (frL g rest Tg v L))) : (loadVar 149 ⟨g, 0, none⟩).run Tryz.prog w = .ok v w := by
  have hb : (row g 0 (v :: rest)).p w := (h.unpack (.head _)).row.1
  obtain ⟨A, c, hv, _⟩ := own_rdv (h.unpack (.tail _ (.head _)))
  subst hv
  exact run_loadVar_at (d := .slice 26 1) (sz := 1) (by kernel_rfl) (by kernel_rfl) w g 0 (Value.slice A L.length c :: rest) hb (off := 0) rfl
theorem fr_meth {name : String} {fid : FuncId} (hm : methOf Tryz.prog 194 name = some (fid, false)) (hok : callable Tryz.prog fid = true) (g : Nat) (rest : List Value) (Tg : TypeId) (v : Value) (L : List Int) (w : World) (args : List Value) (h : Rd1 w (packF (frL g rest Tg v L))) {R : Ending → World → Prop} (hc : Calls Tryz.prog fid (v :: args).toArray w R) :
    IMeth Tryz.prog (.iface 194 (.pointer (some ⟨g, 0, none⟩))) name args w R :=
  ⟨fid, _, meth_val hm Tryz.underlying194 hok (fr_load g rest Tg v L w h), hc⟩
theorem lt_int : LtO (fun x y : Int => x < y) := ⟨fun h => by omega, fun h1 h2 => by omega⟩
/-- A row of blocks is a heap. -/
def frHO (g : Nat) (rest : List Value) (Tg : TypeId) : HO Value Int where
  iv := .iface 194 (.pointer (some ⟨g, 0, none⟩))
  F v L := packF (frL g rest Tg v L)
  lt x y := x < y
  ord := lt_int
  ok _ := True
  okp _ _ _ _ := trivial
  okl _ _ _ := trivial
  xv x := .iface 26 (.int .u32 x)
  fin v L w _ := ⟨g :: ownE v, fr_fin g rest Tg v L⟩
  len v L w h _ _ := fr_meth (by kernel_rfl) (by kernel_rfl) g rest Tg v L w [] h (by
    obtain ⟨A, c, hv, _⟩ := own_rdv (h.unpack (.tail _ (.head _)))
    subst hv
    exact flen_any A L.length c w)
  less v L w i j x y h _ _ hx hy := fr_meth (by kernel_rfl) (by kernel_rfl) g rest Tg v L w _ h (by
    obtain ⟨A, c, hv, _, _, _, hs⟩ := own_rdv (h.unpack (.tail _ (.head _)))
    subst hv
    exact fless_any A L.length c L i j x y w rfl hx hy hs)
  swap v L w i j x y h _ _ hx hy := fr_meth (by kernel_rfl) (by kernel_rfl) g rest Tg v L w _ h (fswap_any g rest Tg v L i j x y w hx hy h)
  push v L w x h _ hL := ⟨173, #[.pointer (some ⟨g, 0, none⟩), .iface 26 (.int .u32 x)], (by kernel_rfl), fpush_any g rest Tg v L x w hL h⟩
  pop v L x w h _ hL := ⟨172, #[.pointer (some ⟨g, 0, none⟩)], (by kernel_rfl), fpop_any g rest Tg v L x w hL h⟩
end Go.Proofs.YtaghmffgoomebaaGreat.Hp
namespace Go.Proofs.YtaghmffgoomebaaGreat.Hp
open Go.RowKit Mem Gx
set_option linter.unusedVariables false
set_option linter.unusedSimpArgs false
set_option maxRecDepth 100000
set_option maxHeartbeats 1000000
abbrev one : Value := .int .i64 1
def kv (K : List Int) : List (Int × Value) := K.map fun k => (k, one)
theorem lkp_out {b : Int} : ∀ {K : List Int} {i : Nat}, b ∉ K → lkp b (kv K) i = none
  | [], _, _ => rfl
  | x :: r, i, h => by
    show (if b = x then _ else _) = _
    rw [if_neg (fun e => h (by rw [e]; exact .head _))]
    exact lkp_out (K := r) (i := i + 1) fun h1 => h (.tail _ h1)
theorem lkp_in {b : Int} : ∀ {K : List Int} {i : Nat}, b ∈ K → ∃ n, lkp b (kv K) i = some (i + n, one) ∧ K[n]? = some b
  | [], _, h => by cases h
  | x :: r, i, h => by
    by_cases e : b = x
    · refine ⟨0, ?_, by simp [e]⟩
      show (if b = x then _ else _) = _
      rw [if_pos e]
      rfl
    · obtain ⟨n, h1, h2⟩ := lkp_in (K := r) (i := i + 1) (by cases h with | head => exact absurd rfl e | tail _ h => exact h)
      refine ⟨n + 1, ?_, by simpa using h2⟩
      show (if b = x then _ else lkp b (kv r) (i + 1)) = _
      rw [if_neg e, h1, show i + 1 + n = i + (n + 1) by omega]
theorem kv_set {b : Int} {K : List Int} (h : b ∉ K) : mset b one (kv K) = kv (K ++ [b]) := by
  rw [mset_none (lkp_out (i := 0) h)]
  unfold kv
  rw [List.map_append]
  rfl
theorem perm_eraseIdx {α : Type} : ∀ {L : List α} {n : Nat} {x : α}, L[n]? = some x → (x :: L.eraseIdx n).Perm L
  | [], n, x, h => by simp at h
  | y :: r, 0, x, h => by
    obtain rfl : y = x := by simpa using h
    exact List.Perm.refl _
  | y :: r, n + 1, x, h => by
    have := perm_eraseIdx (L := r) (n := n) (by simpa using h)
    exact (List.Perm.swap y x _).trans (this.cons y)
theorem kv_del {b : Int} {K : List Int} (h : b ∈ K) : ∃ K', mdel b (kv K) = kv K' ∧ (b :: K').Perm K := by
  obtain ⟨n, h1, h2⟩ := lkp_in (i := 0) h
  refine ⟨K.eraseIdx n, ?_, perm_eraseIdx h2⟩
  unfold mdel
  rw [h1]
  simp only [Nat.zero_add]
  unfold kv
  apply List.ext_getElem?
  intro k
  simp only [List.getElem?_eraseIdx, List.getElem?_map]
  split <;> rfl
theorem has_val {b : Int} {K : List Int} : ((lkp b (kv K) 0).map (·.2)).getD (.int .i64 0) = .int .i64 (if b ∈ K then 1 else 0) := by
  by_cases h : b ∈ K
  · obtain ⟨n, h1, _⟩ := lkp_in (i := 0) h
    rw [h1, if_pos h]
    rfl
  · rw [lkp_out h, if_neg h]
    rfl
/-- The map, if there is one. -/
def mpo (mo : Option Nat) (K : List Int) : Fact := match mo with
  | some r => mp r .u32 (kv K)
  | none => ⟨fun _ => False, fun _ => K = [], fun _ _ _ h => h⟩
/-- Where a list of blocks lies. -/
structure FrS where
  mo : Option Nat
  v : Value
  L : List Int
  K : List Int
def frF (g : Nat) (s : FrS) : List Fact := [packF (frL g [.map s.mo] 151 s.v s.L), mpo s.mo s.K]
/-- What it says. -/
structure FrOk (s : FrS) (S : List Int) : Prop where
  l : s.L.Perm S
  k : s.K.Perm S
  sorted : S.Pairwise (· < ·)
  heap : HeapN (fun x y : Int => x < y) s.L s.L.length
  nil : s.mo = none → S = []
  len : S.length ≤ 10000
theorem frF_fin (g : Nat) (s : FrS) : ∀ b, (packF (frF g s)).S b ↔ b ∈ (g :: ownE s.v) ++ s.mo.toList := fun b => by
  obtain ⟨mo, v, L, K⟩ := s
  constructor
  · rintro ⟨φ, hφ, hb⟩
    rcases List.mem_cons.1 hφ with rfl | hφ
    · exact List.mem_append_left _ ((fr_fin g [.map mo] 151 v L b).1 hb)
    · obtain rfl := List.mem_singleton.1 hφ
      cases mo with
      | none => exact hb.elim
      | some r =>
        have : b = r := hb
        subst this
        exact List.mem_append_right _ (.head _)
  · intro hb
    rcases List.mem_append.1 hb with hb | hb
    · exact ⟨_, .head _, (fr_fin g [.map mo] 151 v L b).2 hb⟩
    · cases mo with
      | none => cases hb
      | some r =>
        obtain rfl := List.mem_singleton.1 hb
        exact ⟨_, .tail _ (.head _), rfl⟩
theorem z_int : ∀ w, (zeroValue 3).run Tryz.prog w = .ok (.int .i64 0) w := fun w => by kernel_rfl
theorem llen_any (g : Nat) (s : FrS) (w : World) (h : Rd1 w (packF (frF g s))) (hl : s.L.length ≤ 100000) :
    Calls Tryz.prog 40 [.pointer (some ⟨g, 0, none⟩)].toArray w fun e w' => e = .returned (.int .i64 (s.L.length : Int)) ∧ Below w.heap.size w w' := by
  obtain ⟨mo, v, L, K⟩ := s
  obtain ⟨A, c, hv, hc, hm, hA, hs⟩ := own_rdv ((h.unpack (.head _)).unpack (.tail _ (.head _)))
  replace hv : v = .slice A L.length c := hv
  subst hv
  have hb : Rd1 w (blk g [.slice A L.length c, .map mo] 151) := (h.unpack (.head _)).unpack (.head _)
  refine g_enter0 T [] [] [row g 0 [.slice A L.length c, .map mo]] Tryz.func40 rfl Tryz.ntmps40 rfl (Rds.cons hb.row .nil).kn ?_
  (repeat' (first | (refine gG ?_; try intro _) | ((first | refine g_split rfl rfl tE (fun _ => ?_) (fun _ => ?_) | refine gk_cond rfl rfl tE (fun _ => ?_) (fun _ => ?_)) <;> (try first | (exfalso; omega; done) | (rename_i hx; exact absurd rfl hx) | (rename_i hx; cases hx; done)))))
  refine gk_ret hT rfl rfl (.tmp rfl .nil) (fun w' hk => ?_)
  exact ⟨rfl, hk.toBelow⟩
end Go.Proofs.YtaghmffgoomebaaGreat.Hp
