/- What is left of rows, as heaps: their methods. -/
import Derived.Test.YtmbphmckakigaaaMh3
import Derived.Test.YtmbphmckakigaaaMg1
namespace Go.Proofs.Ytmbphmckakigaaa.Mg
open Go.RowKit Mem Gx Hp Nd
set_option linter.unusedVariables false
set_option linter.unusedSimpArgs false
set_option maxRecDepth 100000
set_option maxHeartbeats 1000000
/-- What is left of a row, and which row it is. -/
structure HdD where
  s : SlV
  E : List EntD
  i : Nat
instance : Inhabited HdD := ⟨⟨⟨none, 0, 0⟩, [], 0⟩⟩
def HE : HdD → Nat → Value
  | x, 0 => .slice x.s.A x.s.n x.s.c
  | x, _ + 1 => .int .i64 x.i
theorem elt_H : Elt Try.prog 107 109 2 32 := Elt.mk' (z := .agg #[.slice none 0 0, .int .i64 0]) Try.underlying107 (by kernel_rfl) rfl (by decide)
theorem oneH : ∀ (x : HdD) (j : Nat), (HE x j).oneCell' = true := fun x j => by match j with | 0 => rfl | _ + 1 => rfl
def fstE (l : List EntD) : EntD := l.getD 0 default
/-- Which one comes first. -/
def ltH (x y : HdD) : Prop := klt (fstE x.E).k (fstE y.E).k ∨ (¬ klt (fstE y.E).k (fstE x.E).k ∧ x.i < y.i)
theorem lt_head : LtO ltH := ⟨fun h => by unfold ltH klt at *; omega, fun h1 h2 => by unfold ltH klt at *; omega⟩
/-- A row's entries, as a fact. -/
structure RwD where
  s : SlV
  E : List EntD
abbrev rwF (r : RwD) : Fact := sl r.s.A 4 EE r.E
/-- What is left is a part of what may be read. -/
structure HOk (RS : List RwD) (x : HdD) : Prop where
  ok : x.s.Ok x.E.length
  ne : x.E ≠ []
  der : Der [allF RS rwF] (sl x.s.A 4 EE x.E)
theorem kcmp_lt {a b : KeyD} (h : klt a b) : kcmp a b = -1 := by unfold kcmp; rw [if_pos (tB_true h)]
theorem kcmp_gt {a b : KeyD} (h : klt b a) : kcmp a b = 1 := by unfold kcmp; rw [if_neg (by rw [tB_false (klt_asym h)]; decide), if_pos (tB_true h)]
theorem kcmp_eq {a b : KeyD} (h1 : ¬ klt a b) (h2 : ¬ klt b a) : kcmp a b = 0 := by unfold kcmp; rw [if_neg (by rw [tB_false h1]; decide), if_neg (by rw [tB_false h2]; decide)]
theorem mlen_any (A : Option Addr) (n c : Nat) (w : World) : Calls Try.prog 123 [.slice A n c].toArray w fun e w' => e = .returned (.int .i64 (n : Int)) ∧ Below w.heap.size w w' := by
  refine g_enter0 T [] [] [] Try.func123 rfl Try.ntmps123 rfl (Kn.start _) ?_
  (repeat' (first | (refine gG ?_; try intro _) | ((first | refine g_split rfl rfl tE (fun _ => ?_) (fun _ => ?_) | refine gk_cond rfl rfl tE (fun _ => ?_) (fun _ => ?_)) <;> (try first | (exfalso; omega; done) | (rename_i hx; exact absurd rfl hx) | (rename_i hx; cases hx; done)))))
  refine gk_ret hT rfl rfl (.tmp rfl .nil) (fun w' hk => ?_)
  exact ⟨rfl, hk.toBelow⟩
theorem mless_any (RS : List RwD) (A : Option Addr) (n c : Nat) (L : List HdD) (i j : Nat) (x y : HdD) (w : World) (hn : n = L.length) (hx : L[i]? = some x) (hy : L[j]? = some y) (hs : Rd1 w (sl A 2 HE L)) (hR : Rd1 w (allF RS rwF)) (hox : HOk RS x) (hoy : HOk RS y) :
    Calls Try.prog 124 [.slice A n c, .int .i64 (i : Int), .int .i64 (j : Int)].toArray w fun e w' => e = .returned (.bool (tB (ltH x y))) ∧ Below w.heap.size w w' := by
  have hi := (List.getElem?_eq_some_iff.1 hx).1
  have hj := (List.getElem?_eq_some_iff.1 hy).1
  obtain ⟨ox1, ox2, ox3⟩ := hox
  obtain ⟨oy1, oy2, oy3⟩ := hoy
  obtain ⟨⟨xA, xn, xc⟩, xE, xi⟩ := x
  obtain ⟨⟨yA, yn, yc⟩, yE, yi⟩ := y
  have hxn : xn = xE.length := ox1.n
  have hyn : yn = yE.length := oy1.n
  cases xE with
  | nil => exact absurd rfl ox2
  | cons ex xE =>
  cases yE with
  | nil => exact absurd rfl oy2
  | cons ey yE =>
  rw [List.length_cons] at hxn hyn
  refine g_enter0 T [] [] [sl A 2 HE L, allF RS rwF] Try.func124 rfl Try.ntmps124 rfl (Rds.cons hs (.cons hR .nil)).kn ?_
  refine gk_der [allF RS rwF] ox3 sS ?_
  refine gk_der [allF RS rwF] oy3 sS ?_
  change GK _ _ _ _ (sl yA 4 EE (ey :: yE) :: sl xA 4 EE (ex :: xE) :: _)
  refine gk_elem (enc := HE) (L := L) i mE hi (by decide) (fun b o z eA hz => ?_)
  obtain rfl : (⟨⟨xA, xn, xc⟩, ex :: xE, xi⟩ : HdD) = z := by rw [hx] at hz; exact Option.some.inj hz
  refine gk_elem (enc := HE) (L := L) j mE hj (by decide) (fun b2 o2 z eA2 hz2 => ?_)
  obtain rfl : (⟨⟨yA, yn, yc⟩, ey :: yE, yi⟩ : HdD) = z := by rw [hy] at hz2; exact Option.some.inj hz2
  rw [eA] at eA2
  injection eA2 with e3
  injection e3 with e4 e5
  subst e4
  subst e5
  subst eA
  change GK _ _ _ _ (row b (o + j * 2) [.slice yA yn yc, .int .i64 yi] :: row b (o + i * 2) [.slice xA xn xc, .int .i64 xi] :: _)
  refine gk_elem (enc := EE) (L := ex :: xE) 0 mE (by simp) (by decide) (fun b3 o3 z eA3 hz3 => ?_)
  obtain rfl := Option.some.inj hz3
  subst eA3
  refine gk_elem (enc := EE) (L := ey :: yE) 0 mE (by simp) (by decide) (fun b4 o4 z eA4 hz4 => ?_)
  obtain rfl := Option.some.inj hz4
  subst eA4
  (repeat (refine gG ?_; try intro _))
  refine gk_any [0, 1, 2, 3] (Cut _ (fun _ : Unit => [(0, .slice (some ⟨b, o, none⟩) n c), (1, .int .i64 (i : Int)), (2, .int .i64 (j : Int)), (7, .int .i64 (kcmp ex.k ey.k))]) (fun _ => []) (fun _ => [row b (o + j * 2) [.slice (some ⟨b4, o4, none⟩) yn yc, .int .i64 yi], row b (o + i * 2) [.slice (some ⟨b3, o3, none⟩) xn xc, .int .i64 xi]])) rfl rfl (by kernel_rfl) ?_ (cut_k fun _ => ?_)
  · skip
    refine gb_take 0 rfl (by decide +kernel) rfl rfl (ys_ev (nw := true) hT rfl sI) sF ?_
    refine gb_take 1 rfl (by decide +kernel) rfl rfl (ys_ev (nw := true) hT rfl sI) sF ?_
    refine gb_take 2 rfl (by decide +kernel) rfl rfl (ys_ev (nw := true) hT rfl sI) sF ?_
    refine gb_take 3 rfl (by decide +kernel) rfl rfl (ys_ev (nw := true) hT rfl sI) sF ?_
    refine gb_take 4 rfl (by decide +kernel) rfl rfl (by first | exact ys_blk hT rfl rfl mE rfl rfl | exact ys_row hT rfl rfl mE rfl rfl | exact ys_row0 hT rfl rfl mE rfl rfl) sF ?_
    refine gb_take 5 rfl (by decide +kernel) rfl rfl (ys_ev (nw := true) hT rfl sI) sF ?_
    refine gb_take 6 rfl (by decide +kernel) rfl rfl (ys_ev (nw := true) hT rfl sI) sF ?_
    refine gb_take 7 rfl (by decide +kernel) rfl rfl (by first | exact ys_blk hT rfl rfl mE rfl rfl | exact ys_row hT rfl rfl mE rfl rfl | exact ys_row0 hT rfl rfl mE rfl rfl) sF ?_
    refine gb_take 8 rfl (by decide +kernel) rfl rfl (ys_ev (nw := true) hT rfl sI) sF ?_
    refine gb_take 9 rfl (by decide +kernel) rfl rfl (ys_ev (nw := true) hT rfl sI) sF ?_
    refine gb_take 10 rfl (by decide +kernel) rfl rfl (ys_ev (nw := true) hT rfl sI) sF ?_
    refine gb_take 11 rfl (by decide +kernel) rfl rfl (ys_ev (nw := true) hT rfl sI) sF ?_
    refine gb_take 12 rfl (by decide +kernel) rfl rfl (by first | exact ys_blk hT rfl rfl mE rfl rfl | exact ys_row hT rfl rfl mE rfl rfl | exact ys_row0 hT rfl rfl mE rfl rfl) sF ?_
    refine gb_take 13 rfl (by decide +kernel) rfl rfl (ys_ev (nw := true) hT rfl sI) sF ?_
    refine gb_take 14 rfl (by decide +kernel) rfl rfl (ys_ev (nw := true) hT rfl sI) sF ?_
    refine gb_take 15 rfl (by decide +kernel) rfl rfl (by first | exact ys_blk hT rfl rfl mE rfl rfl | exact ys_row hT rfl rfl mE rfl rfl | exact ys_row0 hT rfl rfl mE rfl rfl) sF ?_
    refine gb_only 16 (by decide +kernel) rfl rfl ?_
    refine mv_call_bel (fun w hk => kcmp_any ex.k ey.k w) rfl rfl rfl rfl rfl (by kernel_rfl) ?_
    refine ⟨sF, ?_⟩
    refine gb_take 17 rfl (by decide +kernel) rfl rfl (ys_ev (nw := true) hT rfl sI) sF ?_
    refine gb_nil (by decide +kernel) ?_
    exact ⟨(), (by repeat (first | exact trivial | refine ⟨rfl, ?_⟩)), sA, sS⟩
  · have hlt : ltH (⟨⟨some ⟨b3, o3, none⟩, xn, xc⟩, ex :: xE, xi⟩ : HdD) ⟨⟨some ⟨b4, o4, none⟩, yn, yc⟩, ey :: yE, yi⟩ ↔ klt ex.k ey.k ∨ (¬ klt ey.k ex.k ∧ xi < yi) := Iff.rfl
    by_cases h1 : klt ex.k ey.k
    · rw [kcmp_lt h1]
      (repeat' (first | (refine gG ?_; try intro _) | ((first | refine g_split rfl rfl tE (fun _ => ?_) (fun _ => ?_) | refine gk_cond rfl rfl tE (fun _ => ?_) (fun _ => ?_)) <;> (try first | (exfalso; omega; done) | (rename_i hx; exact absurd rfl hx) | (rename_i hx; cases hx; done)))))
      refine gk_ret hT rfl rfl (.tmp rfl .nil) (fun w' hk => ?_)
      exact ⟨ret_bool (by rw [tB_iff]; simp [tB_eq, hlt, h1]), hk.toBelow⟩
    · by_cases h2 : klt ey.k ex.k
      · rw [kcmp_gt h2]
        (repeat' (first | (refine gG ?_; try intro _) | ((first | refine g_split rfl rfl tE (fun _ => ?_) (fun _ => ?_) | refine gk_cond rfl rfl tE (fun _ => ?_) (fun _ => ?_)) <;> (try first | (exfalso; omega; done) | (rename_i hx; exact absurd rfl hx) | (rename_i hx; cases hx; done)))))
        refine gk_ret hT rfl rfl (.tmp rfl .nil) (fun w' hk => ?_)
        exact ⟨ret_bool (by rw [tB_iff]; simp [tB_eq, hlt, h1, h2]), hk.toBelow⟩
      · rw [kcmp_eq h1 h2]
        (repeat' (first | (refine gG ?_; try intro _) | ((first | refine g_split rfl rfl tE (fun _ => ?_) (fun _ => ?_) | refine gk_cond rfl rfl tE (fun _ => ?_) (fun _ => ?_)) <;> (try first | (exfalso; omega; done) | (rename_i hx; exact absurd rfl hx) | (rename_i hx; cases hx; done)))))
        refine gk_drawn_at [0, 1] rfl rfl (by kernel_rfl) ?_
        (repeat (first | refine ga_nil (by decide +kernel) ?_ | refine ga_take (by decide +kernel) rfl rfl (ys_ev (nw := true) hT rfl sI) sF ?_ | refine ga_skip (by decide +kernel) rfl rfl sF ?_ | refine ga_take (by decide +kernel) rfl rfl (ys_blk hT rfl rfl mE rfl rfl) sF ?_ | refine ga_take (by decide +kernel) rfl rfl (ys_row hT rfl rfl mE rfl rfl) sF ?_ | refine ga_take (by decide +kernel) rfl rfl (ys_row0 hT rfl rfl mE rfl rfl) sF ?_ | (refine ga_mv (by decide +kernel) rfl ?_; (first | (refine mv_box rfl rfl rfl rfl ?_; intro _) | (refine mv_alloc rfl hT rfl rfl ?_; intro _) | refine mv_store hT rfl rfl rfl rfl rfl rfl sO rfl ?_ | (refine mv_buildSlice rfl hT rfl rfl rfl rfl rfl rfl rfl rfl ?_; intro _)); refine ⟨sF, ?_⟩) | refine ga_take (by decide +kernel) rfl rfl (ys_eql rfl rfl rfl rfl rfl (by kernel_rfl)) sF ?_ | refine ga_take (by decide +kernel) rfl rfl (ys_neq rfl rfl rfl rfl rfl (by kernel_rfl)) sF ?_))
        (repeat (refine gG ?_; try intro _))
        refine gk_ret hT rfl rfl (.tmp rfl .nil) (fun w' hk => ?_)
        exact ⟨ret_bool (by rw [tB_iff, tB_iff, hlt]; simp [h1, h2]), hk.toBelow⟩
end Go.Proofs.Ytmbphmckakigaaa.Mg

