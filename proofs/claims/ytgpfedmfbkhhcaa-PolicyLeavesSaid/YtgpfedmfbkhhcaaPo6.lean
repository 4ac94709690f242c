/- The numbers to which one may go back. -/
import Derived.Test.YtgpfedmfbkhhcaaPo3
import Derived.Test.YtgpfedmfbkhhcaaCtI
import Derived.Test.YtgpfedmfbkhhcaaSoW5
import Derived.Test.YtgpfedmfbkhhcaaScW
namespace Go.Proofs.Ytgpfedmfbkhhcaa.Po
open Go.RowKit Mem Gx Ct Dd Hp
set_option linter.unusedVariables false
set_option linter.unusedSimpArgs false
set_option maxRecDepth 100000
set_option maxHeartbeats 4000000
theorem joinP {X : Cx} {k : List KI} {c : Code} {ι : Type} (P : ι → Prop) (F : ι → Fr) (OO RR : ι → List Fact) {q : Prop} (r : Later (∀ i, P i → GK X (.code c :: k) (F i) (OO i) (RR i)) → q) (g : ∀ i, P i → GK X (.code c :: k) (F i) (OO i) (RR i)) : q := r ⟨g⟩
theorem gk_at {X : Cx} {ks k : List KI} {f : Fr} {O R : List Fact} {id : Nat} {l : List Oper} {d : Bool} (h : nx 1000 ks = some (.region id l d k)) (hg : GK X (.code (.region id l.toArray d) :: k) f O R) : GK X ks f O R := .mk fun a w hr hk => nx_sound h (hg.out a w hr hk)
theorem put_any (A : Option Addr) (n c : Nat) (L : List Int) (x : Int) (w : World) (hok : (SlV.mk A n c).Ok L.length) (h9 : L.length ≤ 1000) (hs : Rd1 w (sl A 1 (IE .u64) L)) :
    Calls Try.prog 77 [.slice A n c, .int .u64 x].toArray w (RetS (fun q : SlV => q.Ok (insU x L).length) (fun q => q.v) (fun q => [sl q.A 1 (IE .u64) (insU x L)]) [sl A 1 (IE .u64) L] w) := by
  have hn : n = L.length := hok.n
  have hc : n ≤ c := hok.c
  refine g_enter0 T [] [] [sl A 1 (IE .u64) L] Try.func77 rfl Try.ntmps77 rfl (Rds.cons hs .nil).kn ?_
  (repeat (refine gG ?_; try intro _))
  refine gk_loop_sel (fun (q : Nat × Unit) => match q with | (i, u) => (i ≤ n ∧ ∀ (j : Nat) (y : Int), j < i → L[j]? = some y → y < x)) (fun (q : Nat × Unit) => match q with | (i, u) => [(0, .slice A n c), (1, .int .u64 x), (5, .int .i64 (i : Int))]) (fun (q : Nat × Unit) => match q with | (i, u) => []) (fun (q : Nat × Unit) => match q with | (i, u) => [sl A 1 (IE .u64) L]) (fun (q : Nat × Unit) => match q with | (i, u) => n - i) (0, ()) rfl ⟨Nat.zero_le _, fun j y h => absurd h (Nat.not_lt_zero _)⟩ (by repeat (first | exact trivial | refine ⟨rfl, ?_⟩)) sA sS ?_
  rintro ⟨i, u⟩ hI
  replace hI : (i ≤ n ∧ ∀ (j : Nat) (y : Int), j < i → L[j]? = some y → y < x) := hI
  change GK _ _ [(0, .slice A n c), (1, .int .u64 x), (5, .int .i64 (i : Int))] [] [sl A 1 (IE .u64) L]
  obtain ⟨hi, hlo⟩ := hI
  by_cases hlt : i < n
  · obtain ⟨y, hy⟩ : ∃ y, L[i]? = some y := ⟨L[i], List.getElem?_eq_getElem (by omega)⟩
    refine gk_elem (enc := IE .u64) (L := L) i mE (by omega) (by decide) (fun kb ko y' eA hy' => ?_)
    subst eA
    obtain rfl : y = y' := by rw [hy] at hy'; exact Option.some.inj hy'
    by_cases hyx : y < x
    · (repeat' (first | (refine gG ?_; try intro _) | ((first | refine g_split rfl rfl tE (fun _ => ?_) (fun _ => ?_) | refine gk_cond rfl rfl tE (fun _ => ?_) (fun _ => ?_)) <;> (try first | (exfalso; omega; done) | (rename_i hx; exact absurd rfl hx) | (rename_i hx; cases hx; done)))))
      refine gk_again_sel rfl (i + 1, ()) ⟨hlt, fun j z hj hz => by
        rcases Nat.lt_or_ge j i with h | h
        · exact hlo j z h hz
        · obtain rfl : j = i := by omega
          rw [hy] at hz; rw [← Option.some.inj hz]; exact hyx⟩ (by dsimp only; omega) (by repeat (first | exact trivial | refine ⟨rfl, ?_⟩)) sA sS
    · by_cases e : y = x
      · subst e
        have hin := insU_at (i := i) hlo (fun z hz => by rw [hy] at hz; rw [← Option.some.inj hz]; exact hyx) (by omega)
        rw [if_pos hy] at hin
        rw [hin]
        (repeat' (first | (refine gG ?_; try intro _) | ((first | refine g_split rfl rfl tE (fun _ => ?_) (fun _ => ?_) | refine gk_cond rfl rfl tE (fun _ => ?_) (fun _ => ?_)) <;> (try first | (exfalso; omega; done) | (rename_i hx; exact absurd rfl hx) | (rename_i hx; cases hx; done)))))
        refine gk_ret hT rfl rfl (.tmp rfl .nil) (fun w' hk => ?_)
        exact RetS.mk (⟨some ⟨kb, ko, none⟩, n, c⟩ : SlV) hok rfl hk (.cons (RS1.rd hk mE (fun b hb => .inr ⟨_, .head _, hb⟩)) .nil)
      · have h1 : L[i]? ≠ some x := by rw [hy]; exact fun h => e (Option.some.inj h)
        have h2 : ∀ z, L[i]? = some z → ¬ z < x := fun z hz => by rw [hy] at hz; rw [← Option.some.inj hz]; exact hyx
        (repeat' (first | (refine gG ?_; try intro _) | ((first | refine g_split rfl rfl tE (fun _ => ?_) (fun _ => ?_) | refine gk_cond rfl rfl tE (fun _ => ?_) (fun _ => ?_)) <;> (try first | (exfalso; omega; done) | (rename_i hx; exact absurd rfl hx) | (rename_i hx; cases hx; done)))))
        have hin := insU_at (i := i) hlo h2 (by omega)
        rw [if_neg h1] at hin
        have hlT : (L.take i).length = i := by rw [List.length_take]; omega
        have hlD : (L.drop i).length = L.length - i := by rw [List.length_drop]
        refine gk_takeS (enc := IE .u64) (L := L) (sz := 1) i c mE (by omega) ?_
        refine gk_dropS (enc := IE .u64) (L := L) (sz := 1) i c mE (by omega) ?_
        refine gk_any [0, 1, 2] (Cut _ (fun v : Value => [(4, v)]) (fun v => [own 0 31 1 v (IE .u64) (insU x L)]) (fun _ => [])) rfl rfl (by kernel_rfl) ?_ (cut_k fun v => ?_)
        · skip
          refine gb_take 1 rfl (by decide +kernel) rfl rfl (ys_ev (nw := true) hT rfl sI) sF ?_
          refine gb_take 2 rfl (by decide +kernel) rfl rfl (ys_ev (nw := true) hT rfl sI) sF ?_
          refine gb_take 3 rfl (by decide +kernel) rfl rfl (ys_slice_h hT i rfl rfl rfl rfl rfl (by omega)) sF ?_
          refine gb_take 5 rfl (by decide +kernel) rfl rfl (ys_ev (nw := true) hT rfl sI) sF ?_
          refine gb_take 8 rfl (by decide +kernel) rfl rfl (ys_ev (nw := true) hT rfl sI) sF ?_
          refine gb_take 9 rfl (by decide +kernel) rfl rfl (ys_ev (nw := true) hT rfl sI) sF ?_
          refine gb_take 10 rfl (by decide +kernel) rfl rfl (ys_slice_l hT i rfl rfl rfl rfl rfl (by omega)) sF ?_
          refine gb_all (by decide +kernel) ?_
          refine gball_yes rfl rfl ?_ ?_
          · (refine mv_empty 1 (IE .u64) rfl hT rfl rfl rfl rfl rfl ?_; intro g1)
            refine ⟨sF, ?_⟩
            refine gb_all (by decide +kernel) ?_
            refine gball_not (by decide +kernel) ?_
            refine gball_not (by decide +kernel) ?_
            refine gball_not (by decide +kernel) ?_
            refine gball_not (by decide +kernel) ?_
            refine gball_yes rfl rfl ?_ ?_
            · (refine mv_append (L := []) rfl (L.take i) rfl rfl rfl rfl elt_U (by intro _; first | ((repeat (first | with_reducible exact Upd.here _ | with_reducible apply Upd.there)); done) | ((repeat (first | exact Upd.here _ | apply Upd.there)); done) | fail) (src_R mE) (by omega) oneU (by simp only [maxLen, List.length_append, List.length_cons, List.length_nil]; omega) (by simp only [List.length_append, List.length_cons, List.length_nil]; omega) (Nat.zero_le _) ?_; intro v1)
              refine ⟨sF, ?_⟩
              refine gb_only 6 (by decide +kernel) rfl rfl ?_
              (refine mv_buildSlice (len := 1) rfl hT rfl rfl rfl rfl rfl rfl rfl rfl ?_; intro g6)
              refine ⟨sF, ?_⟩
              refine gb_only 7 (by decide +kernel) rfl rfl ?_
              (refine mv_append (L := L.take i) rfl [x] rfl rfl rfl rfl elt_U (by intro _; first | ((repeat (first | with_reducible exact Upd.here _ | with_reducible apply Upd.there)); done) | ((repeat (first | exact Upd.here _ | apply Upd.there)); done) | fail) (src_blk mE rfl) rfl oneU (by simp only [maxLen, List.length_append, List.length_cons, List.length_nil]; omega) (by simp only [List.length_append, List.length_cons, List.length_nil]; omega) (Nat.zero_le _) ?_; intro v2)
              refine ⟨sF, ?_⟩
              refine gb_only 11 (by decide +kernel) rfl rfl ?_
              (refine mv_append (L := L.take i ++ [x]) rfl (L.drop i) rfl rfl rfl rfl elt_U (by intro _; first | ((repeat (first | with_reducible exact Upd.here _ | with_reducible apply Upd.there)); done) | ((repeat (first | exact Upd.here _ | apply Upd.there)); done) | fail) (src_R mE) (by omega) oneU (by simp only [maxLen, List.length_append, List.length_cons, List.length_nil]; omega) (by simp only [List.length_append, List.length_cons, List.length_nil]; omega) (Nat.zero_le _) ?_; intro v3)
              refine ⟨sF, ?_⟩
              rw [← hin]
              refine gb_take 12 rfl (by decide +kernel) rfl rfl (ys_ev (nw := true) hT rfl sI) sF ?_
              refine gb_nil (by decide +kernel) ?_
              exact ⟨_, (by repeat (first | exact trivial | refine ⟨rfl, ?_⟩)), sA, sS⟩
            refine gball_not (by decide +kernel) ?_
            refine gball_yes rfl rfl ?_ ?_
            · (refine mv_buildSlice (len := 1) rfl hT rfl rfl rfl rfl rfl rfl rfl rfl ?_; intro g6)
              refine ⟨sF, ?_⟩
              refine gb_only 4 (by decide +kernel) rfl rfl ?_
              (refine mv_append (L := []) rfl (L.take i) rfl rfl rfl rfl elt_U (by intro _; first | ((repeat (first | with_reducible exact Upd.here _ | with_reducible apply Upd.there)); done) | ((repeat (first | exact Upd.here _ | apply Upd.there)); done) | fail) (src_R mE) (by omega) oneU (by simp only [maxLen, List.length_append, List.length_cons, List.length_nil]; omega) (by simp only [List.length_append, List.length_cons, List.length_nil]; omega) (Nat.zero_le _) ?_; intro v1)
              refine ⟨sF, ?_⟩
              refine gb_only 7 (by decide +kernel) rfl rfl ?_
              (refine mv_append (L := L.take i) rfl [x] rfl rfl rfl rfl elt_U (by intro _; first | ((repeat (first | with_reducible exact Upd.here _ | with_reducible apply Upd.there)); done) | ((repeat (first | exact Upd.here _ | apply Upd.there)); done) | fail) (src_blk mE rfl) rfl oneU (by simp only [maxLen, List.length_append, List.length_cons, List.length_nil]; omega) (by simp only [List.length_append, List.length_cons, List.length_nil]; omega) (Nat.zero_le _) ?_; intro v2)
              refine ⟨sF, ?_⟩
              refine gb_only 11 (by decide +kernel) rfl rfl ?_
              (refine mv_append (L := L.take i ++ [x]) rfl (L.drop i) rfl rfl rfl rfl elt_U (by intro _; first | ((repeat (first | with_reducible exact Upd.here _ | with_reducible apply Upd.there)); done) | ((repeat (first | exact Upd.here _ | apply Upd.there)); done) | fail) (src_R mE) (by omega) oneU (by simp only [maxLen, List.length_append, List.length_cons, List.length_nil]; omega) (by simp only [List.length_append, List.length_cons, List.length_nil]; omega) (Nat.zero_le _) ?_; intro v3)
              refine ⟨sF, ?_⟩
              rw [← hin]
              refine gb_take 12 rfl (by decide +kernel) rfl rfl (ys_ev (nw := true) hT rfl sI) sF ?_
              refine gb_nil (by decide +kernel) ?_
              exact ⟨_, (by repeat (first | exact trivial | refine ⟨rfl, ?_⟩)), sA, sS⟩
            refine gball_not (by decide +kernel) ?_
            refine gball_not (by decide +kernel) ?_
            refine gball_not (by decide +kernel) ?_
            refine gball_not (by decide +kernel) ?_
            refine gball_not (by decide +kernel) ?_
            refine gball_not (by decide +kernel) ?_
            exact gball_end (by decide +kernel)
          refine gball_not (by decide +kernel) ?_
          refine gball_not (by decide +kernel) ?_
          refine gball_not (by decide +kernel) ?_
          refine gball_not (by decide +kernel) ?_
          refine gball_not (by decide +kernel) ?_
          refine gball_yes rfl rfl ?_ ?_
          · (refine mv_buildSlice (len := 1) rfl hT rfl rfl rfl rfl rfl rfl rfl rfl ?_; intro g6)
            refine ⟨sF, ?_⟩
            refine gb_only 0 (by decide +kernel) rfl rfl ?_
            (refine mv_empty 1 (IE .u64) rfl hT rfl rfl rfl rfl rfl ?_; intro g1)
            refine ⟨sF, ?_⟩
            refine gb_only 4 (by decide +kernel) rfl rfl ?_
            (refine mv_append (L := []) rfl (L.take i) rfl rfl rfl rfl elt_U (by intro _; first | ((repeat (first | with_reducible exact Upd.here _ | with_reducible apply Upd.there)); done) | ((repeat (first | exact Upd.here _ | apply Upd.there)); done) | fail) (src_R mE) (by omega) oneU (by simp only [maxLen, List.length_append, List.length_cons, List.length_nil]; omega) (by simp only [List.length_append, List.length_cons, List.length_nil]; omega) (Nat.zero_le _) ?_; intro v1)
            refine ⟨sF, ?_⟩
            refine gb_only 7 (by decide +kernel) rfl rfl ?_
            (refine mv_append (L := L.take i) rfl [x] rfl rfl rfl rfl elt_U (by intro _; first | ((repeat (first | with_reducible exact Upd.here _ | with_reducible apply Upd.there)); done) | ((repeat (first | exact Upd.here _ | apply Upd.there)); done) | fail) (src_blk mE rfl) rfl oneU (by simp only [maxLen, List.length_append, List.length_cons, List.length_nil]; omega) (by simp only [List.length_append, List.length_cons, List.length_nil]; omega) (Nat.zero_le _) ?_; intro v2)
            refine ⟨sF, ?_⟩
            refine gb_only 11 (by decide +kernel) rfl rfl ?_
            (refine mv_append (L := L.take i ++ [x]) rfl (L.drop i) rfl rfl rfl rfl elt_U (by intro _; first | ((repeat (first | with_reducible exact Upd.here _ | with_reducible apply Upd.there)); done) | ((repeat (first | exact Upd.here _ | apply Upd.there)); done) | fail) (src_R mE) (by omega) oneU (by simp only [maxLen, List.length_append, List.length_cons, List.length_nil]; omega) (by simp only [List.length_append, List.length_cons, List.length_nil]; omega) (Nat.zero_le _) ?_; intro v3)
            refine ⟨sF, ?_⟩
            rw [← hin]
            refine gb_take 12 rfl (by decide +kernel) rfl rfl (ys_ev (nw := true) hT rfl sI) sF ?_
            refine gb_nil (by decide +kernel) ?_
            exact ⟨_, (by repeat (first | exact trivial | refine ⟨rfl, ?_⟩)), sA, sS⟩
          refine gball_not (by decide +kernel) ?_
          refine gball_not (by decide +kernel) ?_
          refine gball_not (by decide +kernel) ?_
          refine gball_not (by decide +kernel) ?_
          refine gball_not (by decide +kernel) ?_
          refine gball_not (by decide +kernel) ?_
          exact gball_end (by decide +kernel)
        · refine gk_freeze _ (by intro _; first | ((repeat (first | with_reducible exact Upd.here _ | with_reducible apply Upd.there)); done) | ((repeat (first | exact Upd.here _ | apply Upd.there)); done) | fail) (fun A4 c4 hA4 hA41 hA42 hA43 => ?_); subst hA4
          (repeat (refine gG ?_; try intro _))
          refine gk_ret hT rfl rfl (.tmp rfl .nil) (fun w' hk => ?_)
          exact RetS.mk (⟨A4, (insU x L).length, c4⟩ : SlV) ⟨rfl, hA41, hA42, hA43⟩ rfl hk (.cons (RS1.own hk mE) .nil)
  · have hno : L[i]? = none := List.getElem?_eq_none (by omega)
    have h1 : L[i]? ≠ some x := by rw [hno]; exact fun h => by cases h
    have h2 : ∀ z, L[i]? = some z → ¬ z < x := fun z hz => by rw [hno] at hz; cases hz
    (repeat' (first | (refine gG ?_; try intro _) | ((first | refine g_split rfl rfl tE (fun _ => ?_) (fun _ => ?_) | refine gk_cond rfl rfl tE (fun _ => ?_) (fun _ => ?_)) <;> (try first | (exfalso; omega; done) | (rename_i hx; exact absurd rfl hx) | (rename_i hx; cases hx; done)))))
    have hin := insU_at (i := i) hlo h2 (by omega)
    rw [if_neg h1] at hin
    have hlT : (L.take i).length = i := by rw [List.length_take]; omega
    have hlD : (L.drop i).length = L.length - i := by rw [List.length_drop]
    refine gk_takeS (enc := IE .u64) (L := L) (sz := 1) i c mE (by omega) ?_
    refine gk_dropS (enc := IE .u64) (L := L) (sz := 1) i c mE (by omega) ?_
    refine gk_any [0, 1, 2] (Cut _ (fun v : Value => [(4, v)]) (fun v => [own 0 31 1 v (IE .u64) (insU x L)]) (fun _ => [])) rfl rfl (by kernel_rfl) ?_ (cut_k fun v => ?_)
    · skip
      refine gb_take 1 rfl (by decide +kernel) rfl rfl (ys_ev (nw := true) hT rfl sI) sF ?_
      refine gb_take 2 rfl (by decide +kernel) rfl rfl (ys_ev (nw := true) hT rfl sI) sF ?_
      refine gb_take 3 rfl (by decide +kernel) rfl rfl (ys_slice_h hT i rfl rfl rfl rfl rfl (by omega)) sF ?_
      refine gb_take 5 rfl (by decide +kernel) rfl rfl (ys_ev (nw := true) hT rfl sI) sF ?_
      refine gb_take 8 rfl (by decide +kernel) rfl rfl (ys_ev (nw := true) hT rfl sI) sF ?_
      refine gb_take 9 rfl (by decide +kernel) rfl rfl (ys_ev (nw := true) hT rfl sI) sF ?_
      refine gb_take 10 rfl (by decide +kernel) rfl rfl (ys_slice_l hT i rfl rfl rfl rfl rfl (by omega)) sF ?_
      refine gb_all (by decide +kernel) ?_
      refine gball_yes rfl rfl ?_ ?_
      · (refine mv_empty 1 (IE .u64) rfl hT rfl rfl rfl rfl rfl ?_; intro g1)
        refine ⟨sF, ?_⟩
        refine gb_all (by decide +kernel) ?_
        refine gball_not (by decide +kernel) ?_
        refine gball_not (by decide +kernel) ?_
        refine gball_not (by decide +kernel) ?_
        refine gball_not (by decide +kernel) ?_
        refine gball_yes rfl rfl ?_ ?_
        · (refine mv_append (L := []) rfl (L.take i) rfl rfl rfl rfl elt_U (by intro _; first | ((repeat (first | with_reducible exact Upd.here _ | with_reducible apply Upd.there)); done) | ((repeat (first | exact Upd.here _ | apply Upd.there)); done) | fail) (src_R mE) (by omega) oneU (by simp only [maxLen, List.length_append, List.length_cons, List.length_nil]; omega) (by simp only [List.length_append, List.length_cons, List.length_nil]; omega) (Nat.zero_le _) ?_; intro v1)
          refine ⟨sF, ?_⟩
          refine gb_only 6 (by decide +kernel) rfl rfl ?_
          (refine mv_buildSlice (len := 1) rfl hT rfl rfl rfl rfl rfl rfl rfl rfl ?_; intro g6)
          refine ⟨sF, ?_⟩
          refine gb_only 7 (by decide +kernel) rfl rfl ?_
          (refine mv_append (L := L.take i) rfl [x] rfl rfl rfl rfl elt_U (by intro _; first | ((repeat (first | with_reducible exact Upd.here _ | with_reducible apply Upd.there)); done) | ((repeat (first | exact Upd.here _ | apply Upd.there)); done) | fail) (src_blk mE rfl) rfl oneU (by simp only [maxLen, List.length_append, List.length_cons, List.length_nil]; omega) (by simp only [List.length_append, List.length_cons, List.length_nil]; omega) (Nat.zero_le _) ?_; intro v2)
          refine ⟨sF, ?_⟩
          refine gb_only 11 (by decide +kernel) rfl rfl ?_
          (refine mv_append (L := L.take i ++ [x]) rfl (L.drop i) rfl rfl rfl rfl elt_U (by intro _; first | ((repeat (first | with_reducible exact Upd.here _ | with_reducible apply Upd.there)); done) | ((repeat (first | exact Upd.here _ | apply Upd.there)); done) | fail) (src_R mE) (by omega) oneU (by simp only [maxLen, List.length_append, List.length_cons, List.length_nil]; omega) (by simp only [List.length_append, List.length_cons, List.length_nil]; omega) (Nat.zero_le _) ?_; intro v3)
          refine ⟨sF, ?_⟩
          rw [← hin]
          refine gb_take 12 rfl (by decide +kernel) rfl rfl (ys_ev (nw := true) hT rfl sI) sF ?_
          refine gb_nil (by decide +kernel) ?_
          exact ⟨_, (by repeat (first | exact trivial | refine ⟨rfl, ?_⟩)), sA, sS⟩
        refine gball_not (by decide +kernel) ?_
        refine gball_yes rfl rfl ?_ ?_
        · (refine mv_buildSlice (len := 1) rfl hT rfl rfl rfl rfl rfl rfl rfl rfl ?_; intro g6)
          refine ⟨sF, ?_⟩
          refine gb_only 4 (by decide +kernel) rfl rfl ?_
          (refine mv_append (L := []) rfl (L.take i) rfl rfl rfl rfl elt_U (by intro _; first | ((repeat (first | with_reducible exact Upd.here _ | with_reducible apply Upd.there)); done) | ((repeat (first | exact Upd.here _ | apply Upd.there)); done) | fail) (src_R mE) (by omega) oneU (by simp only [maxLen, List.length_append, List.length_cons, List.length_nil]; omega) (by simp only [List.length_append, List.length_cons, List.length_nil]; omega) (Nat.zero_le _) ?_; intro v1)
          refine ⟨sF, ?_⟩
          refine gb_only 7 (by decide +kernel) rfl rfl ?_
          (refine mv_append (L := L.take i) rfl [x] rfl rfl rfl rfl elt_U (by intro _; first | ((repeat (first | with_reducible exact Upd.here _ | with_reducible apply Upd.there)); done) | ((repeat (first | exact Upd.here _ | apply Upd.there)); done) | fail) (src_blk mE rfl) rfl oneU (by simp only [maxLen, List.length_append, List.length_cons, List.length_nil]; omega) (by simp only [List.length_append, List.length_cons, List.length_nil]; omega) (Nat.zero_le _) ?_; intro v2)
          refine ⟨sF, ?_⟩
          refine gb_only 11 (by decide +kernel) rfl rfl ?_
          (refine mv_append (L := L.take i ++ [x]) rfl (L.drop i) rfl rfl rfl rfl elt_U (by intro _; first | ((repeat (first | with_reducible exact Upd.here _ | with_reducible apply Upd.there)); done) | ((repeat (first | exact Upd.here _ | apply Upd.there)); done) | fail) (src_R mE) (by omega) oneU (by simp only [maxLen, List.length_append, List.length_cons, List.length_nil]; omega) (by simp only [List.length_append, List.length_cons, List.length_nil]; omega) (Nat.zero_le _) ?_; intro v3)
          refine ⟨sF, ?_⟩
          rw [← hin]
          refine gb_take 12 rfl (by decide +kernel) rfl rfl (ys_ev (nw := true) hT rfl sI) sF ?_
          refine gb_nil (by decide +kernel) ?_
          exact ⟨_, (by repeat (first | exact trivial | refine ⟨rfl, ?_⟩)), sA, sS⟩
        refine gball_not (by decide +kernel) ?_
        refine gball_not (by decide +kernel) ?_
        refine gball_not (by decide +kernel) ?_
        refine gball_not (by decide +kernel) ?_
        refine gball_not (by decide +kernel) ?_
        refine gball_not (by decide +kernel) ?_
        exact gball_end (by decide +kernel)
      refine gball_not (by decide +kernel) ?_
      refine gball_not (by decide +kernel) ?_
      refine gball_not (by decide +kernel) ?_
      refine gball_not (by decide +kernel) ?_
      refine gball_not (by decide +kernel) ?_
      refine gball_yes rfl rfl ?_ ?_
      · (refine mv_buildSlice (len := 1) rfl hT rfl rfl rfl rfl rfl rfl rfl rfl ?_; intro g6)
        refine ⟨sF, ?_⟩
        refine gb_only 0 (by decide +kernel) rfl rfl ?_
        (refine mv_empty 1 (IE .u64) rfl hT rfl rfl rfl rfl rfl ?_; intro g1)
        refine ⟨sF, ?_⟩
        refine gb_only 4 (by decide +kernel) rfl rfl ?_
        (refine mv_append (L := []) rfl (L.take i) rfl rfl rfl rfl elt_U (by intro _; first | ((repeat (first | with_reducible exact Upd.here _ | with_reducible apply Upd.there)); done) | ((repeat (first | exact Upd.here _ | apply Upd.there)); done) | fail) (src_R mE) (by omega) oneU (by simp only [maxLen, List.length_append, List.length_cons, List.length_nil]; omega) (by simp only [List.length_append, List.length_cons, List.length_nil]; omega) (Nat.zero_le _) ?_; intro v1)
        refine ⟨sF, ?_⟩
        refine gb_only 7 (by decide +kernel) rfl rfl ?_
        (refine mv_append (L := L.take i) rfl [x] rfl rfl rfl rfl elt_U (by intro _; first | ((repeat (first | with_reducible exact Upd.here _ | with_reducible apply Upd.there)); done) | ((repeat (first | exact Upd.here _ | apply Upd.there)); done) | fail) (src_blk mE rfl) rfl oneU (by simp only [maxLen, List.length_append, List.length_cons, List.length_nil]; omega) (by simp only [List.length_append, List.length_cons, List.length_nil]; omega) (Nat.zero_le _) ?_; intro v2)
        refine ⟨sF, ?_⟩
        refine gb_only 11 (by decide +kernel) rfl rfl ?_
        (refine mv_append (L := L.take i ++ [x]) rfl (L.drop i) rfl rfl rfl rfl elt_U (by intro _; first | ((repeat (first | with_reducible exact Upd.here _ | with_reducible apply Upd.there)); done) | ((repeat (first | exact Upd.here _ | apply Upd.there)); done) | fail) (src_R mE) (by omega) oneU (by simp only [maxLen, List.length_append, List.length_cons, List.length_nil]; omega) (by simp only [List.length_append, List.length_cons, List.length_nil]; omega) (Nat.zero_le _) ?_; intro v3)
        refine ⟨sF, ?_⟩
        rw [← hin]
        refine gb_take 12 rfl (by decide +kernel) rfl rfl (ys_ev (nw := true) hT rfl sI) sF ?_
        refine gb_nil (by decide +kernel) ?_
        exact ⟨_, (by repeat (first | exact trivial | refine ⟨rfl, ?_⟩)), sA, sS⟩
      refine gball_not (by decide +kernel) ?_
      refine gball_not (by decide +kernel) ?_
      refine gball_not (by decide +kernel) ?_
      refine gball_not (by decide +kernel) ?_
      refine gball_not (by decide +kernel) ?_
      refine gball_not (by decide +kernel) ?_
      exact gball_end (by decide +kernel)
    · refine gk_freeze _ (by intro _; first | ((repeat (first | with_reducible exact Upd.here _ | with_reducible apply Upd.there)); done) | ((repeat (first | exact Upd.here _ | apply Upd.there)); done) | fail) (fun A4 c4 hA4 hA41 hA42 hA43 => ?_); subst hA4
      (repeat (refine gG ?_; try intro _))
      refine gk_ret hT rfl rfl (.tmp rfl .nil) (fun w' hk => ?_)
      exact RetS.mk (⟨A4, (insU x L).length, c4⟩ : SlV) ⟨rfl, hA41, hA42, hA43⟩ rfl hk (.cons (RS1.own hk mE) .nil)
end Go.Proofs.Ytgpfedmfbkhhcaa.Po

