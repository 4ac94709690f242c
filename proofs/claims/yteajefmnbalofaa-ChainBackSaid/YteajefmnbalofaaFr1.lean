/- Rows of blocks that are free, as heaps: their methods. -/
import Derived.Test.YteajefmnbalofaaHp4
import Derived.Test.YteajefmnbalofaaGxQ
namespace Go.Proofs.Yteajefmnbalofaa.Hp
open Go.RowKit Mem Gx
set_option linter.unusedVariables false
set_option linter.unusedSimpArgs false
set_option maxRecDepth 100000
set_option maxHeartbeats 1000000
theorem elt_F : Elt Try.prog 127 60 1 4 := Elt.mk' (z := .int .u32 0) Try.underlying127 (by kernel_rfl) rfl (by decide)
theorem oneU : ∀ (x : Int) (j : Nat), (IE .u32 x j).oneCell' = true := fun x j => rfl
theorem flen_any (A : Option Addr) (n c : Nat) (w : World) : Calls Try.prog 116 [.slice A n c].toArray w fun e w' => e = .returned (.int .i64 (n : Int)) ∧ Below w.heap.size w w' := by
  refine g_enter0 T [] [] [] Try.func116 rfl Try.ntmps116 rfl (Kn.start _) ?_
  (repeat' (first | (refine gG ?_; try intro _) | ((first | refine g_split rfl rfl tE (fun _ => ?_) (fun _ => ?_) | refine gk_cond rfl rfl tE (fun _ => ?_) (fun _ => ?_)) <;> (try first | (exfalso; omega; done) | (rename_i hx; exact absurd rfl hx) | (rename_i hx; cases hx; done)))))
  refine gk_ret hT rfl rfl (.tmp rfl .nil) (fun w' hk => ?_)
  exact ⟨rfl, hk.toBelow⟩
theorem fless_any (A : Option Addr) (n c : Nat) (L : List Int) (i j : Nat) (x y : Int) (w : World) (hn : n = L.length) (hx : L[i]? = some x) (hy : L[j]? = some y) (hs : Rd1 w (sl A 1 (IE .u32) L)) :
    Calls Try.prog 117 [.slice A n c, .int .i64 (i : Int), .int .i64 (j : Int)].toArray w fun e w' => e = .returned (.bool (tB (x < y))) ∧ Below w.heap.size w w' := by
  have hi := (List.getElem?_eq_some_iff.1 hx).1
  have hj := (List.getElem?_eq_some_iff.1 hy).1
  refine g_enter0 T [] [] [sl A 1 (IE .u32) L] Try.func117 rfl Try.ntmps117 rfl (Rds.cons hs .nil).kn ?_
  refine gk_elem (enc := IE .u32) (L := L) i mE hi (by decide) (fun b o z eA hz => ?_)
  obtain rfl : x = z := by rw [hx] at hz; exact Option.some.inj hz
  refine gk_elem (enc := IE .u32) (L := L) j mE hj (by decide) (fun b2 o2 z eA2 hz2 => ?_)
  obtain rfl : y = z := by rw [hy] at hz2; exact Option.some.inj hz2
  rw [eA] at eA2
  injection eA2 with e3
  injection e3 with e4 e5
  subst e4
  subst e5
  subst eA
  (repeat (refine gG ?_; try intro _))
  refine gk_drawn_at [0, 1] rfl rfl (by kernel_rfl) ?_
  (repeat (first | refine ga_nil (by decide +kernel) ?_ | refine ga_take (by decide +kernel) rfl rfl (ys_ev (nw := true) hT rfl sI) sF ?_ | refine ga_skip (by decide +kernel) rfl rfl sF ?_ | refine ga_take (by decide +kernel) rfl rfl (ys_blk hT rfl rfl mE rfl rfl) sF ?_ | refine ga_take (by decide +kernel) rfl rfl (ys_row hT rfl rfl mE rfl rfl) sF ?_ | refine ga_take (by decide +kernel) rfl rfl (ys_row0 hT rfl rfl mE rfl rfl) sF ?_ | (refine ga_mv (by decide +kernel) rfl ?_; (first | (refine mv_box rfl rfl rfl rfl ?_; intro _) | (refine mv_alloc rfl hT rfl rfl ?_; intro _) | refine mv_store hT rfl rfl rfl rfl rfl rfl sO rfl ?_ | (refine mv_buildSlice rfl hT rfl rfl rfl rfl rfl rfl rfl rfl ?_; intro _)); refine ⟨sF, ?_⟩) | refine ga_take (by decide +kernel) rfl rfl (ys_eql rfl rfl rfl rfl rfl (by kernel_rfl)) sF ?_ | refine ga_take (by decide +kernel) rfl rfl (ys_neq rfl rfl rfl rfl rfl (by kernel_rfl)) sF ?_))
  (repeat (refine gG ?_; try intro _))
  refine gk_ret hT rfl rfl (.tmp rfl .nil) (fun w' hk => ?_)
  exact ⟨rfl, hk.toBelow⟩
/-- The row in its block, with what lies beside it. -/
abbrev frL (g : Nat) (rest : List Value) (Tg : TypeId) (v : Value) (L : List Int) : List Fact := [blk g (v :: rest) Tg, own 0 60 1 v (IE .u32) L]
theorem fr_fin (g : Nat) (rest : List Value) (Tg : TypeId) (v : Value) (L : List Int) : ∀ b, (packF (frL g rest Tg v L)).S b ↔ b ∈ g :: ownE v := fun b => by
  constructor
  · rintro ⟨φ, hφ, hb⟩
    rcases List.mem_cons.1 hφ with rfl | hφ
    · have : b = g := hb
      rw [this]
      exact .head _
    · obtain rfl := List.mem_singleton.1 hφ
      exact .tail _ (ownE_mem.2 hb)
  · intro hb
    rcases List.mem_cons.1 hb with rfl | hb
    · exact ⟨_, .head _, rfl⟩
    · exact ⟨_, .tail _ (.head _), ownE_mem.1 hb⟩
theorem fswap_any (g : Nat) (rest : List Value) (Tg : TypeId) (v : Value) (L : List Int) (i j : Nat) (x y : Int) (w : World) (hx : L[i]? = some x) (hy : L[j]? = some y) (h : Rd1 w (packF (frL g rest Tg v L))) :
    Calls Try.prog 118 [v, .int .i64 (i : Int), .int .i64 (j : Int)].toArray w (RetM (packF (frL g rest Tg v L)) (fun _ : Value => True) (fun v => v) (fun _ => packF (frL g rest Tg v (swp L i j x y))) w) := by
  have hi := (List.getElem?_eq_some_iff.1 hx).1
  have hj := (List.getElem?_eq_some_iff.1 hy).1
  obtain ⟨b, c, hv, hc, hm⟩ := own_at0 (h.unpack (.tail _ (.head _))).1 (by omega)
  subst hv
  have hy2 : (L.set i y)[j]? = some y := by
    by_cases e : i = j
    · subst e; simp [hi]
    · rw [List.getElem?_set_ne e]; exact hy
  refine g_enter0 T _ (frL g rest Tg _ L) [] Try.func118 rfl Try.ntmps118 rfl (Kn.startP h (fun b hb => (fr_fin g rest Tg _ L b).1 hb) (fun _ h => by cases h)) ?_
  refine gk_any [] (Cut _ (fun _ : Unit => []) (fun _ => frL g rest Tg (.slice (some ⟨b, 0, none⟩) L.length c) (swp L i j x y)) (fun _ => [])) rfl rfl (by kernel_rfl) ?_ (cut_k fun _ => ?_)
  · skip
    refine gb_take 0 rfl (by decide +kernel) rfl rfl (ys_ev (nw := true) hT rfl sI) sF ?_
    refine gb_take 1 rfl (by decide +kernel) rfl rfl (ys_ev (nw := true) hT rfl sI) sF ?_
    refine gb_take 2 rfl (by decide +kernel) rfl rfl (ys_ev (nw := true) hT rfl sI) sF ?_
    refine gb_take 3 rfl (by decide +kernel) rfl rfl (ys_ev (nw := true) hT rfl sI) sF ?_
    refine gb_take 4 rfl (by decide +kernel) rfl rfl (ys_ev (nw := true) hT rfl sI) sF ?_
    refine gb_take 5 rfl (by decide +kernel) rfl rfl (ys_ev (nw := true) hT rfl sI) sF ?_
    refine gb_take 6 rfl (by decide +kernel) rfl rfl (ys_ev (nw := true) hT rfl sI) sF ?_
    refine gb_take 8 rfl (by decide +kernel) rfl rfl (ys_ev (nw := true) hT rfl sI) sF ?_
    refine gb_take 9 rfl (by decide +kernel) rfl rfl (ys_ev (nw := true) hT rfl sI) sF ?_
    refine gb_take 10 rfl (by decide +kernel) rfl rfl (ys_ev (nw := true) hT rfl sI) sF ?_
    refine gb_all (by decide +kernel) ?_
    refine gball_not (by decide +kernel) ?_
    refine gball_not (by decide +kernel) ?_
    refine gball_not (by decide +kernel) ?_
    refine gball_not (by decide +kernel) ?_
    refine gball_not (by decide +kernel) ?_
    refine gball_not (by decide +kernel) ?_
    refine gball_not (by decide +kernel) ?_
    refine gball_yes rfl rfl ?_ ?_
    · refine mv_yd rfl ((ys_load_el (S := [own 0 60 1 (.slice (some ⟨b, 0, none⟩) L.length c) (IE .u32) L]) (o0 := 0) (sz := 1) (enc := IE .u32) (L := L) hT j y 0 rfl rfl rfl rfl hy (at_own mE) rfl rfl).ydS sF) ?_
      refine ⟨sF, ?_⟩
      refine gb_only 11 (by decide +kernel) rfl rfl ?_
      refine mv_yd rfl ((ys_load_el (S := [own 0 60 1 (.slice (some ⟨b, 0, none⟩) L.length c) (IE .u32) L]) (o0 := 0) (sz := 1) (enc := IE .u32) (L := L) hT i x 0 rfl rfl rfl rfl hx (at_own mE) rfl rfl).ydS sF) ?_
      refine ⟨sF, ?_⟩
      refine gb_take 12 rfl (by decide +kernel) rfl rfl (ys_ev (nw := true) hT rfl sI) sF ?_
      refine gb_only 13 (by decide +kernel) rfl rfl ?_
      refine mv_store_own hT i 0 x y rfl rfl (by show 0 + i * 1 = i * 1 + 0; omega) rfl rfl rfl rfl hx (by decide) (fun b hb hne => absurd (by omega) hne) rfl (by first | ((repeat (first | with_reducible exact Upd.here _ | with_reducible apply Upd.there)); done) | ((repeat (first | exact Upd.here _ | apply Upd.there)); done) | fail) rfl ?_
      refine ⟨sF, ?_⟩
      refine gb_take 14 rfl (by decide +kernel) rfl rfl (ys_ev (nw := true) hT rfl sI) sF ?_
      refine gb_only 15 (by decide +kernel) rfl rfl ?_
      refine mv_store_own hT j 0 y x rfl rfl (by show 0 + j * 1 = j * 1 + 0; omega) rfl rfl rfl rfl hy2 (by decide) (fun b hb hne => absurd (by omega) hne) rfl (by first | ((repeat (first | with_reducible exact Upd.here _ | with_reducible apply Upd.there)); done) | ((repeat (first | exact Upd.here _ | apply Upd.there)); done) | fail) rfl ?_
      refine ⟨sF, ?_⟩
      refine gb_nil (by decide +kernel) ?_
      exact ⟨(), (by repeat (first | exact trivial | refine ⟨rfl, ?_⟩)), sA, sS⟩
    refine gball_not (by decide +kernel) ?_
    refine gball_not (by decide +kernel) ?_
    refine gball_not (by decide +kernel) ?_
    refine gball_yes rfl rfl ?_ ?_
    · refine mv_yd rfl ((ys_load_el (S := [own 0 60 1 (.slice (some ⟨b, 0, none⟩) L.length c) (IE .u32) L]) (o0 := 0) (sz := 1) (enc := IE .u32) (L := L) hT i x 0 rfl rfl rfl rfl hx (at_own mE) rfl rfl).ydS sF) ?_
      refine ⟨sF, ?_⟩
      refine gb_only 7 (by decide +kernel) rfl rfl ?_
      refine mv_yd rfl ((ys_load_el (S := [own 0 60 1 (.slice (some ⟨b, 0, none⟩) L.length c) (IE .u32) L]) (o0 := 0) (sz := 1) (enc := IE .u32) (L := L) hT j y 0 rfl rfl rfl rfl hy (at_own mE) rfl rfl).ydS sF) ?_
      refine ⟨sF, ?_⟩
      refine gb_take 12 rfl (by decide +kernel) rfl rfl (ys_ev (nw := true) hT rfl sI) sF ?_
      refine gb_only 13 (by decide +kernel) rfl rfl ?_
      refine mv_store_own hT i 0 x y rfl rfl (by show 0 + i * 1 = i * 1 + 0; omega) rfl rfl rfl rfl hx (by decide) (fun b hb hne => absurd (by omega) hne) rfl (by first | ((repeat (first | with_reducible exact Upd.here _ | with_reducible apply Upd.there)); done) | ((repeat (first | exact Upd.here _ | apply Upd.there)); done) | fail) rfl ?_
      refine ⟨sF, ?_⟩
      refine gb_take 14 rfl (by decide +kernel) rfl rfl (ys_ev (nw := true) hT rfl sI) sF ?_
      refine gb_only 15 (by decide +kernel) rfl rfl ?_
      refine mv_store_own hT j 0 y x rfl rfl (by show 0 + j * 1 = j * 1 + 0; omega) rfl rfl rfl rfl hy2 (by decide) (fun b hb hne => absurd (by omega) hne) rfl (by first | ((repeat (first | with_reducible exact Upd.here _ | with_reducible apply Upd.there)); done) | ((repeat (first | exact Upd.here _ | apply Upd.there)); done) | fail) rfl ?_
      refine ⟨sF, ?_⟩
      refine gb_nil (by decide +kernel) ?_
      exact ⟨(), (by repeat (first | exact trivial | refine ⟨rfl, ?_⟩)), sA, sS⟩
    refine gball_not (by decide +kernel) ?_
    refine gball_not (by decide +kernel) ?_
    refine gball_not (by decide +kernel) ?_
    refine gball_not (by decide +kernel) ?_
    exact gball_end (by decide +kernel)
  · (repeat (refine gG ?_; try intro _))
    refine gk_fin hT rfl rfl .nil (fun w' hk => ?_)
    exact RetM.mkP (ll := fun _ => frL g rest Tg _ (swp L i j x y)) (.tuple #[]) trivial rfl hk (fun b hb => (fr_fin g rest Tg _ L b).2 hb) sA
end Go.Proofs.Yteajefmnbalofaa.Hp

