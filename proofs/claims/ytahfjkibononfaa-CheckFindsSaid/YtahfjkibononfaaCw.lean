/- append of a slice whose type has another name. The law's rises and wrong (layer 35). node.Inner, whose keys are still one's own. What check.Tree says of a root above leaves is what the law says (plain). -/
import Derived.Test.YtahfjkibononfaaGxL
import Derived.Test.YtahfjkibononfaaCe
import Derived.Test.YtahfjkibononfaaNdI
import Derived.Test.YtahfjkibononfaaWq
import Derived.Test.YtahfjkibononfaaCg
namespace Go.Proofs.Ytahfjkibononfaa.Gx
open Go.RowKit Mem
set_option linter.unusedVariables false
set_option linter.unusedSimpArgs false
theorem append_same {P : Program} {t t2 e e2 : TypeId} (ty : TypeId) (ht : P.underlying t = some (.slice e)) (h2 : P.underlying t2 = some (.slice e2)) (v x : Value) (w : World) :
    (Builtin.append_ #[t, t2] ty #[v, x]).run P w = (Builtin.append_ #[t, t] ty #[v, x]).run P w := by
  unfold Builtin.append_
  simp only [List.size_toArray, List.length_cons, List.length_nil, List.getElem?_toArray, List.getElem?_cons_zero, List.getElem?_cons_succ]
  rw [Sem.run_bind, Sem.run_bind, run_underlying ht]
  simp only [Result.andThen_ok]
  cases v <;> simp only [Sem.run_bind, run_underlying ht, run_underlying h2, Result.andThen_ok, Sem.run_pure]
section
variable {X : Cx} {f : Fr} {O R : List Fact} {o : Oper} {N : Fr → List Fact → List Fact → Prop}
theorem mv_append2 {dd : Nat} (hd : o.dst = some dd) {α : Type} [Inhabited α] {enc : α → Nat → Value} {L : List α} (M : List α) {c : Call} {v : Value} {A : Option Addr} {m cc t t2 e e2 sz bytes base : Nat} {OO : Value → List Fact} (ho : o.op = .call c) (hc : c.callee = .builtin .append) (ha : lookL X.n f c.args.toList = some [v, .slice A m cc]) (hat : c.argTypes.toList = [t, t2]) (h2 : X.P.underlying t2 = some (.slice e2))
    (hE : Elt X.P t e sz bytes) (hu : ∀ v', Upd (own base e sz v enc L) (own base e sz v' enc (L ++ M)) O (OO v')) (hs : Src X O R A sz enc M) (hm : m = M.length) (h1 : ∀ x j, (enc x j).oneCell' = true) (h63 : L.length + M.length ≤ maxLen) (hbytes : (L.length + M.length) * bytes ≤ 140737488355328) (hbase : base ≤ X.w0.heap.size)
    (hg : ∀ v', N ((dd, v') :: f) (OO v') R) : Mv X f O R o N := fun a w hr hk K Q hK => by
  have hargs := lookL_eq hr ha
  obtain ⟨ca, args, tys⟩ := c
  obtain ⟨args⟩ := args
  obtain ⟨tys⟩ := tys
  simp only at hc hat hargs
  subst hc
  match args, hargs with
  | [s, x], hargs =>
    simp at hargs
    obtain ⟨q1, q2⟩ := hargs
    subst hat
    have hown : OwnL w base e sz v enc L := hk.pO _ (hu v).mem
    have key := wp_append_sl (o := { o with op := .call { callee := .builtin .append, args := #[s, x], argTypes := #[t, t] } }) (K := K) (Q := Q) w s x t rfl hE base enc v L q1 hown A m cc M q2 hm (hs w hk) h1 h63 hbytes (Nat.le_trans hbase hk.size) fun v' w' h2 h3 => hK _ _ _ _ _ (hg v') (hr.put1 hd _) (Kn.grew hk h3 h2 (hu v'))
    have e3 : (execOp a.eval o).run X.P w = (execOp a.eval { o with op := .call { callee := .builtin .append, args := #[s, x], argTypes := #[t, t] } }).run X.P w := by
      have h3 := append_same (P := X.P) o.type hE.ht h2 v (.slice A m cc) w
      simp only [execOp, ho, resolve, invoke, builtin, Sem.run_bind, Sem.run_pure, Result.andThen_ok, List.map_toArray, List.map_cons, List.map_nil, q1, q2, h3]
    unfold Oper.wp at key ⊢
    rw [e3]
    exact key
  | [], hargs => simp at hargs
  | [_], hargs => simp at hargs
  | _ :: _ :: _ :: _, hargs => simp at hargs
end
end Go.Proofs.Ytahfjkibononfaa.Gx
namespace Go.Proofs.Ytahfjkibononfaa.Ck
open Go.RowKit Mem Nd Gx Sk Tw Wk
open Tr hiding T row
set_option linter.unusedVariables false
set_option linter.unusedSimpArgs false
set_option maxRecDepth 100000
set_option maxHeartbeats 1000000
theorem rises_any (A : Option Addr) (n c : Nat) (L : List EntD) (w : World) (hn : n = L.length) (h9 : n ≤ 1000000) (hs : Rd1 w (sl A 4 EE L)) :
    Calls Try.prog 34 [.slice A n c].toArray w fun e w' => e = .returned (.bool (tB (AscK (keysOf L)))) ∧ Below w.heap.size w w' := by
  refine g_enter0 T [] [] [sl A 4 EE L] Try.func34 rfl Try.ntmps34 rfl (Rds.cons hs .nil).kn ?_
  (repeat (refine gG ?_; try intro _))
  refine gk_loop_sel (fun (i : Nat) => (∀ j, j + 1 < i + 1 → j + 1 < n → klt ((keysOf L).getD j default) ((keysOf L).getD (j + 1) default))) (fun (i : Nat) => [(0, .slice A n c), (3, .int .i64 ((i + 1 : Nat) : Int))]) (fun (i : Nat) => []) (fun (i : Nat) => [sl A 4 EE L]) (fun (i : Nat) => n - i) 0 rfl (fun j hj => absurd hj (by omega)) (by repeat (first | exact trivial | refine ⟨rfl, ?_⟩)) sA sS ?_
  rintro i hI
  replace hI : (∀ j, j + 1 < i + 1 → j + 1 < n → klt ((keysOf L).getD j default) ((keysOf L).getD (j + 1) default)) := hI
  change GK _ _ [(0, .slice A n c), (3, .int .i64 ((i + 1 : Nat) : Int))] [] [sl A 4 EE L]
  by_cases hlt : i + 1 < n
  · obtain ⟨e, he⟩ : ∃ e, L[i + 1]? = some e := ⟨L[i + 1], List.getElem?_eq_getElem (by omega)⟩
    obtain ⟨e0, he0⟩ : ∃ e, L[i]? = some e := ⟨L[i], List.getElem?_eq_getElem (by omega)⟩
    refine gk_elem (enc := EE) (L := L) (i + 1) mE (by omega) (by decide) (fun b1 o1 y1 eA hy1 => ?_)
    subst eA
    obtain rfl : e = y1 := by rw [he] at hy1; exact Option.some.inj hy1
    refine gk_elem (enc := EE) (L := L) i mE (by omega) (by decide) (fun b2 o2 y2 eA hy2 => ?_)
    injection eA with eA
    injection eA with e2 e3
    subst e2 e3
    obtain rfl : e0 = y2 := by rw [he0] at hy2; exact Option.some.inj hy2
    (repeat' (first | (refine gG ?_; try intro _) | ((first | refine g_split rfl rfl tE (fun _ => ?_) (fun _ => ?_) | refine gk_cond rfl rfl tE (fun _ => ?_) (fun _ => ?_)) <;> (try first | (exfalso; omega; done) | (rename_i hx; exact absurd rfl hx) | (rename_i hx; cases hx; done)))))
    by_cases hlk : klt e0.k e.k
    · refine gk_any [0, 1] (Cut _ (fun _ : Unit => [(0, .slice (some ⟨b1, o1, none⟩) n c), (3, .int .i64 ((i + 1 : Nat) : Int)), (22, .bool false)]) (fun _ => []) (fun _ => [sl (some ⟨b1, o1, none⟩) 4 EE L])) rfl rfl (by kernel_rfl) ?_ (cut_k fun _ => ?_)
      · skip
        refine gb_take 0 rfl (by decide +kernel) rfl rfl (ys_ev (nw := true) hT rfl sI) sF ?_
        refine gb_take 1 rfl (by decide +kernel) rfl rfl (ys_ev (nw := true) hT rfl sI) sF ?_
        refine gb_take 2 rfl (by decide +kernel) rfl rfl (ys_ev (nw := true) hT rfl sI) sF ?_
        try (refine gb_say 12 (.int .i64 (i : Nat)) rfl (by congr 1; omega) ?_)
        refine gb_take 3 rfl (by decide +kernel) rfl rfl (ys_ev (nw := true) hT rfl sI) sF ?_
        refine gb_take 4 rfl (by decide +kernel) rfl rfl (ys_ev (nw := true) hT rfl sI) sF ?_
        refine gb_take 5 rfl (by decide +kernel) rfl rfl (by first | exact ys_blk hT rfl rfl mE rfl rfl | exact ys_row hT rfl rfl mE rfl rfl | exact ys_row0 hT rfl rfl mE rfl rfl) sF ?_
        refine gb_take 6 rfl (by decide +kernel) rfl rfl (ys_ev (nw := true) hT rfl sI) sF ?_
        refine gb_take 7 rfl (by decide +kernel) rfl rfl (ys_ev (nw := true) hT rfl sI) sF ?_
        refine gb_take 8 rfl (by decide +kernel) rfl rfl (ys_ev (nw := true) hT rfl sI) sF ?_
        refine gb_take 9 rfl (by decide +kernel) rfl rfl (ys_ev (nw := true) hT rfl sI) sF ?_
        refine gb_take 10 rfl (by decide +kernel) rfl rfl (by first | exact ys_blk hT rfl rfl mE rfl rfl | exact ys_row hT rfl rfl mE rfl rfl | exact ys_row0 hT rfl rfl mE rfl rfl) sF ?_
        refine gb_only 11 (by decide +kernel) rfl rfl ?_
        refine mv_call_bel (fun w hk => rless_any e0.k e.k w) rfl rfl rfl rfl rfl (by kernel_rfl) ?_
        refine ⟨sF, ?_⟩
        try (refine gb_say 21 (.bool true) rfl (congrArg Value.bool (tB_true hlk)) ?_)
        refine gb_take 12 rfl (by decide +kernel) rfl rfl (ys_ev (nw := true) hT rfl sI) sF ?_
        refine gb_nil (by decide +kernel) ?_
        exact ⟨(), (by repeat (first | exact trivial | refine ⟨rfl, ?_⟩)), sA, sS⟩
      · (repeat (refine gG ?_; try intro _))
        refine gk_again_sel rfl (i + 1) (fun j hj hjn => ?_) (by omega) (by repeat (first | exact trivial | refine ⟨rfl, ?_⟩)) sA sS
        by_cases ej : j = i
        · subst ej
          rw [keys_at he0, keys_at he]
          exact hlk
        · exact hI j (by omega) hjn
    · refine gk_any [0, 1] (Cut _ (fun _ : Unit => [(22, .bool true)]) (fun _ => []) (fun _ => [])) rfl rfl (by kernel_rfl) ?_ (cut_k fun _ => ?_)
      · skip
        refine gb_take 0 rfl (by decide +kernel) rfl rfl (ys_ev (nw := true) hT rfl sI) sF ?_
        refine gb_take 1 rfl (by decide +kernel) rfl rfl (ys_ev (nw := true) hT rfl sI) sF ?_
        refine gb_take 2 rfl (by decide +kernel) rfl rfl (ys_ev (nw := true) hT rfl sI) sF ?_
        try (refine gb_say 12 (.int .i64 (i : Nat)) rfl (by congr 1; omega) ?_)
        refine gb_take 3 rfl (by decide +kernel) rfl rfl (ys_ev (nw := true) hT rfl sI) sF ?_
        refine gb_take 4 rfl (by decide +kernel) rfl rfl (ys_ev (nw := true) hT rfl sI) sF ?_
        refine gb_take 5 rfl (by decide +kernel) rfl rfl (by first | exact ys_blk hT rfl rfl mE rfl rfl | exact ys_row hT rfl rfl mE rfl rfl | exact ys_row0 hT rfl rfl mE rfl rfl) sF ?_
        refine gb_take 6 rfl (by decide +kernel) rfl rfl (ys_ev (nw := true) hT rfl sI) sF ?_
        refine gb_take 7 rfl (by decide +kernel) rfl rfl (ys_ev (nw := true) hT rfl sI) sF ?_
        refine gb_take 8 rfl (by decide +kernel) rfl rfl (ys_ev (nw := true) hT rfl sI) sF ?_
        refine gb_take 9 rfl (by decide +kernel) rfl rfl (ys_ev (nw := true) hT rfl sI) sF ?_
        refine gb_take 10 rfl (by decide +kernel) rfl rfl (by first | exact ys_blk hT rfl rfl mE rfl rfl | exact ys_row hT rfl rfl mE rfl rfl | exact ys_row0 hT rfl rfl mE rfl rfl) sF ?_
        refine gb_only 11 (by decide +kernel) rfl rfl ?_
        refine mv_call_bel (fun w hk => rless_any e0.k e.k w) rfl rfl rfl rfl rfl (by kernel_rfl) ?_
        refine ⟨sF, ?_⟩
        try (refine gb_say 21 (.bool false) rfl (congrArg Value.bool (tB_false hlk)) ?_)
        refine gb_take 12 rfl (by decide +kernel) rfl rfl (ys_ev (nw := true) hT rfl sI) sF ?_
        refine gb_nil (by decide +kernel) ?_
        exact ⟨(), (by repeat (first | exact trivial | refine ⟨rfl, ?_⟩)), sA, sS⟩
      · (repeat (refine gG ?_; try intro _))
        refine gk_ret hT rfl rfl (.tmp rfl .nil) (fun w' hk => ?_)
        refine ⟨?_, hk.toBelow⟩
        rw [tB_false (fun h : AscK (keysOf L) => hlk (by have := h i (i + 1) (by omega) (by rw [keys_len]; omega); rw [keys_at he0, keys_at he] at this; exact this))]
        rfl
  · (repeat' (first | (refine gG ?_; try intro _) | ((first | refine g_split rfl rfl tE (fun _ => ?_) (fun _ => ?_) | refine gk_cond rfl rfl tE (fun _ => ?_) (fun _ => ?_)) <;> (try first | (exfalso; omega; done) | (rename_i hx; exact absurd rfl hx) | (rename_i hx; cases hx; done)))))
    refine gk_ret hT rfl rfl (.tmp rfl .nil) (fun w' hk => ?_)
    refine ⟨?_, hk.toBelow⟩
    rw [tB_true (asc_near fun j hj => hI j (by rw [keys_len] at hj; omega) (by rw [keys_len] at hj; omega))]
    rfl
/-- A leaf as an argument has it. -/
structure LfD where
  s : SlV
  E : List EntD
instance : Inhabited LfD := ⟨⟨⟨none, 0, 0⟩, []⟩⟩
def SE : LfD → Nat → Value := fun x _ => .slice x.s.A x.s.n x.s.c
abbrev lfF (x : LfD) : Fact := sl x.s.A 4 EE x.E
noncomputable def badL : List (List EntD) → Int
  | [] => 0
  | E :: r => if tB (AscK (keysOf E)) = true then (if 3 ≤ E.length ∧ E.length ≤ 6 then badL r else 2) else 1
theorem badL_cons (E : List EntD) (r : List (List EntD)) : badL (E :: r) = if tB (AscK (keysOf E)) = true then (if 3 ≤ E.length ∧ E.length ≤ 6 then badL r else 2) else 1 := rfl
def FstP (Es : List (List EntD)) (Ks : List KeyD) : Prop := ∀ i E, Es[i]? = some E → E.length ≠ 0 ∧ fstK E = Ks.getD i default
noncomputable def wrongP (Es : List (List EntD)) (Ks : List KeyD) (n : Int) : Int :=
  if tB (AscK Ks) = true then (if 2 ≤ Es.length ∧ Es.length ≤ 6 then (if tB (FstP Es Ks) = true then (if badL Es = 0 then (if tB (AscK (keysOf Es.flatten)) = true then (if (Es.flatten.length : Int) = n then 0 else 5) else 1) else badL Es) else 4) else 2) else 1
theorem flat_le : ∀ (Es : List (List EntD)), (∀ E ∈ Es, E.length ≤ 9) → Es.flatten.length ≤ 9 * Es.length
  | [], _ => Nat.le_refl _
  | E :: r, h => by
    have h1 := h E (.head _)
    have h2 := flat_le r fun E hE => h E (.tail _ hE)
    rw [List.flatten_cons, List.length_append, List.length_cons]
    omega
theorem wrong_any (lb lo ln lc : Nat) (LS : List LfD) (kA : Option Addr) (kn kc : Nat) (K : List EntD) (n : Int) (w : World) (hln : ln = LS.length) (hl9 : ln ≤ 100) (hkn : kn = K.length) (hkl : K.length = LS.length) (hok : ∀ x ∈ LS, x.s.Ok x.E.length ∧ x.E.length ≤ 9) (hL : Rd1 w (sl (some ⟨lb, lo, none⟩) 1 SE LS)) (hE : Rd1 w (allF LS lfF)) (hK : Rd1 w (sl kA 4 EE K)) :
    Calls Try.prog 12 [.slice (some ⟨lb, lo, none⟩) ln lc, .slice kA kn kc, .int .i64 n].toArray w fun e w' => e = .returned (.int .i64 (wrongP (LS.map LfD.E) (keysOf K) n)) ∧ Below w.heap.size w w' := by
  obtain ⟨Es, hEs⟩ : ∃ Es, Es = LS.map LfD.E := ⟨_, rfl⟩
  have hEl : Es.length = LS.length := by rw [hEs, List.length_map]
  have h9E : ∀ E ∈ Es, E.length ≤ 9 := fun E hE => by
    rw [hEs] at hE
    obtain ⟨x, hx, rfl⟩ := List.mem_map.1 hE
    exact (hok x hx).2
  rw [← hEs]
  refine g_enter0 T [] [] [sl (some ⟨lb, lo, none⟩) 1 SE LS, allF LS lfF, sl kA 4 EE K] Try.func12 rfl Try.ntmps12 rfl (Rds.cons hL (.cons hE (.cons hK .nil))).kn ?_
  (repeat (refine gG ?_; try intro _))
  refine g_mv rfl ?_; refine mv_call_bel (fun w hk => rises_any kA kn kc K w hkn (by omega) (hk.rR (φ := sl kA 4 EE K) mE)) rfl rfl rfl rfl rfl (by kernel_rfl) ?_
  unfold wrongP
  by_cases hA : AscK (keysOf K)
  · rw [tB_true hA, if_pos rfl]
    by_cases h26 : 2 ≤ Es.length ∧ Es.length ≤ 6
    · rw [if_pos h26]
      (repeat' (first | (refine gG ?_; try intro _) | ((first | refine g_split rfl rfl tE (fun _ => ?_) (fun _ => ?_) | refine gk_cond rfl rfl tE (fun _ => ?_) (fun _ => ?_)) <;> (try first | (exfalso; omega; done) | (rename_i hx; exact absurd rfl hx) | (rename_i hx; cases hx; done)))))
      refine gk_own 0 29 4 EE ?_
      refine gk_loop_sel (fun (q : Value × Nat) => match q with | (v, i) => (i ≤ LS.length ∧ ∀ j E, j < i → Es[j]? = some E → E.length ≠ 0 ∧ fstK E = (keysOf K).getD j default)) (fun (q : Value × Nat) => match q with | (v, i) => [(0, .slice (some ⟨lb, lo, none⟩) ln lc), (1, .slice kA kn kc), (2, .int .i64 n), (7, v), (8, .int .i64 i)]) (fun (q : Value × Nat) => match q with | (v, i) => [own 0 29 4 v EE ((Es.take i).flatten)]) (fun (q : Value × Nat) => match q with | (v, i) => [sl (some ⟨lb, lo, none⟩) 1 SE LS, allF LS lfF, sl kA 4 EE K]) (fun (q : Value × Nat) => match q with | (v, i) => LS.length - i) (.slice none 0 0, 0) rfl ⟨Nat.zero_le _, fun j E hj => absurd hj (by omega)⟩ (by repeat (first | exact trivial | refine ⟨rfl, ?_⟩)) sA sS ?_
      rintro ⟨v, i⟩ hI
      replace hI : (i ≤ LS.length ∧ ∀ j E, j < i → Es[j]? = some E → E.length ≠ 0 ∧ fstK E = (keysOf K).getD j default) := hI
      change GK _ _ [(0, .slice (some ⟨lb, lo, none⟩) ln lc), (1, .slice kA kn kc), (2, .int .i64 n), (7, v), (8, .int .i64 i)] [own 0 29 4 v EE ((Es.take i).flatten)] [sl (some ⟨lb, lo, none⟩) 1 SE LS, allF LS lfF, sl kA 4 EE K]
      obtain ⟨hi, hF⟩ := hI
      have hfl := fun k => flat_le (Es.take k) (fun E hE => h9E E (List.mem_of_mem_take hE))
      by_cases hlt : i < LS.length
      · obtain ⟨x, hx⟩ : ∃ x, LS[i]? = some x := ⟨LS[i], List.getElem?_eq_getElem hlt⟩
        obtain ⟨k, hk0⟩ : ∃ k, K[i]? = some k := ⟨K[i], List.getElem?_eq_getElem (by omega)⟩
        have hxm := List.mem_of_getElem? hx
        have hxE : Es[i]? = some x.E := by rw [hEs, List.getElem?_map, hx]; rfl
        obtain ⟨hxo, hx9⟩ := hok x hxm
        have hflat : (Es.take i).flatten ++ x.E = (Es.take (i + 1)).flatten := by
          obtain ⟨h1, h2⟩ := List.getElem?_eq_some_iff.1 hxE
          rw [List.take_succ_eq_append_getElem h1, h2, List.flatten_append]
          simp
        have hfi := hfl i
        rw [List.length_take] at hfi
        refine gk_elem (enc := SE) (L := LS) i mE hlt (by decide) (fun b1 o1 y1 e1 hy1 => ?_)
        injection e1 with e1
        injection e1 with e2 e3
        subst e2 e3
        obtain rfl : x = y1 := by rw [hx] at hy1; exact Option.some.inj hy1
        refine gk_allR (l := LS) (F := lfF) (x := x) mE hxm ?_
        obtain ⟨⟨xA, xn, xc⟩, E⟩ := x
        have hxn : xn = E.length := hxo.n
        dsimp only at hxE hx9 hflat
        change GK _ _ _ _ (sl xA 4 EE E :: row lb (lo + i * 1) [.slice xA xn xc] :: _)
        refine gk_elem (enc := EE) (L := K) i mE (by omega) (by decide) (fun b2 o2 y2 eA hy2 => ?_)
        subst eA
        obtain rfl : k = y2 := by rw [hk0] at hy2; exact Option.some.inj hy2
        by_cases h0 : E.length = 0
        · (repeat' (first | (refine gG ?_; try intro _) | ((first | refine g_split rfl rfl tE (fun _ => ?_) (fun _ => ?_) | refine gk_cond rfl rfl tE (fun _ => ?_) (fun _ => ?_)) <;> (try first | (exfalso; omega; done) | (rename_i hx; exact absurd rfl hx) | (rename_i hx; cases hx; done)))))
          refine gk_any [3] (Cut _ (fun _ : Unit => [(47, .bool true)]) (fun _ => []) (fun _ => [])) rfl rfl (by kernel_rfl) ?_ (cut_k fun _ => ?_)
          · skip
            refine gb_take 0 rfl (by decide +kernel) rfl rfl (ys_ev (nw := true) hT rfl sI) sF ?_
            refine gb_take 1 rfl (by decide +kernel) rfl rfl (ys_ev (nw := true) hT rfl sI) sF ?_
            refine gb_take 2 rfl (by decide +kernel) rfl rfl (ys_ev (nw := true) hT rfl sI) sF ?_
            refine gb_take 3 rfl (by decide +kernel) rfl rfl (by first | exact ys_blk hT rfl rfl mE rfl rfl | exact ys_row hT rfl rfl mE rfl rfl | exact ys_row0 hT rfl rfl mE rfl rfl) sF ?_
            refine gb_take 4 rfl (by decide +kernel) rfl rfl (ys_ev (nw := true) hT rfl sI) sF ?_
            refine gb_take 5 rfl (by decide +kernel) rfl rfl (ys_ev (nw := true) hT rfl sI) sF ?_
            try (refine gb_say 32 (.bool true) rfl (congrArg Value.bool (tB_true (by omega))) ?_)
            refine gb_take 6 rfl (by decide +kernel) rfl rfl (ys_ev (nw := true) hT rfl sI) sF ?_
            first | refine gb_take 7 rfl (by decide +kernel) rfl rfl (ys_ev (nw := true) hT rfl sI) sF ?_ | refine gb_skip 7 rfl (by decide +kernel) rfl rfl sF ?_
            first | refine gb_take 8 rfl (by decide +kernel) rfl rfl (ys_ev (nw := true) hT rfl sI) sF ?_ | refine gb_skip 8 rfl (by decide +kernel) rfl rfl sF ?_
            first | refine gb_take 9 rfl (by decide +kernel) rfl rfl (ys_ev (nw := true) hT rfl sI) sF ?_ | refine gb_skip 9 rfl (by decide +kernel) rfl rfl sF ?_
            first | refine gb_take 10 rfl (by decide +kernel) rfl rfl (by first | exact ys_blk hT rfl rfl mE rfl rfl | exact ys_row hT rfl rfl mE rfl rfl | exact ys_row0 hT rfl rfl mE rfl rfl) sF ?_ | refine gb_skip 10 rfl (by decide +kernel) rfl rfl sF ?_
            first | refine gb_take 11 rfl (by decide +kernel) rfl rfl (ys_ev (nw := true) hT rfl sI) sF ?_ | refine gb_skip 11 rfl (by decide +kernel) rfl rfl sF ?_
            first | refine gb_take 12 rfl (by decide +kernel) rfl rfl (ys_ev (nw := true) hT rfl sI) sF ?_ | refine gb_skip 12 rfl (by decide +kernel) rfl rfl sF ?_
            first | refine gb_take 13 rfl (by decide +kernel) rfl rfl (by first | exact ys_blk hT rfl rfl mE rfl rfl | exact ys_row hT rfl rfl mE rfl rfl | exact ys_row0 hT rfl rfl mE rfl rfl) sF ?_ | refine gb_skip 13 rfl (by decide +kernel) rfl rfl sF ?_
            first | refine gb_take 14 rfl (by decide +kernel) rfl rfl (ys_ev (nw := true) hT rfl sI) sF ?_ | refine gb_skip 14 rfl (by decide +kernel) rfl rfl sF ?_
            first | refine gb_take 15 rfl (by decide +kernel) rfl rfl (ys_ev (nw := true) hT rfl sI) sF ?_ | refine gb_skip 15 rfl (by decide +kernel) rfl rfl sF ?_
            first | refine gb_take 16 rfl (by decide +kernel) rfl rfl (ys_ev (nw := true) hT rfl sI) sF ?_ | refine gb_skip 16 rfl (by decide +kernel) rfl rfl sF ?_
            first | refine gb_take 17 rfl (by decide +kernel) rfl rfl (ys_ev (nw := true) hT rfl sI) sF ?_ | refine gb_skip 17 rfl (by decide +kernel) rfl rfl sF ?_
            first | refine gb_take 18 rfl (by decide +kernel) rfl rfl (by first | exact ys_blk hT rfl rfl mE rfl rfl | exact ys_row hT rfl rfl mE rfl rfl | exact ys_row0 hT rfl rfl mE rfl rfl) sF ?_ | refine gb_skip 18 rfl (by decide +kernel) rfl rfl sF ?_
            first | refine gb_take 19 rfl (by decide +kernel) rfl rfl (ys_ev (nw := true) hT rfl sI) sF ?_ | refine gb_skip 19 rfl (by decide +kernel) rfl rfl sF ?_
            refine gb_take 20 rfl (by decide +kernel) rfl rfl (ys_ev (nw := true) hT rfl sI) sF ?_
            refine gb_nil (by decide +kernel) ?_
            exact ⟨(), (by repeat (first | exact trivial | refine ⟨rfl, ?_⟩)), sA, sS⟩
          · (repeat (refine gG ?_; try intro _))
            refine gk_ret hT rfl rfl (.tmp rfl .nil) (fun w' hk => ?_)
            refine ⟨?_, hk.toBelow⟩
            rw [if_neg (by rw [tB_false (fun h : FstP Es (keysOf K) => (h i E hxE).1 h0)]; decide)]
            rfl
        · obtain ⟨e0, he0⟩ : ∃ e, E[0]? = some e := ⟨E[0], List.getElem?_eq_getElem (by omega)⟩
          have hfk : fstK E = e0.k := by
            obtain ⟨y, r, hyr, hyk⟩ := fstK_at (B := E) (by omega)
            rw [hyk]
            rw [hyr] at he0
            rw [Option.some.inj he0]
          refine gk_elem (enc := EE) (L := E) 0 mE (by omega) (by decide) (fun b3 o3 y3 eA hy3 => ?_)
          subst eA
          obtain rfl : e0 = y3 := by rw [he0] at hy3; exact Option.some.inj hy3
          by_cases hke : e0.k = k.k
          · (repeat' (first | (refine gG ?_; try intro _) | ((first | refine g_split rfl rfl tE (fun _ => ?_) (fun _ => ?_) | refine gk_cond rfl rfl tE (fun _ => ?_) (fun _ => ?_)) <;> (try first | (exfalso; omega; done) | (rename_i hx; exact absurd rfl hx) | (rename_i hx; cases hx; done)))))
            refine gk_any [0, 1, 2, 4] (Cut _ (fun _ : Unit => [(0, .slice (some ⟨lb, lo, none⟩) ln lc), (1, .slice (some ⟨b2, o2, none⟩) kn kc), (2, .int .i64 n), (7, v), (8, .int .i64 i), (47, .bool false)]) (fun _ => [own 0 29 4 v EE ((Es.take i).flatten)]) (fun _ => [row lb (lo + i * 1) [.slice (some ⟨b3, o3, none⟩) xn xc], sl (some ⟨b3, o3, none⟩) 4 EE E, sl (some ⟨lb, lo, none⟩) 1 SE LS, allF LS lfF, sl (some ⟨b2, o2, none⟩) 4 EE K])) rfl rfl (by kernel_rfl) ?_ (cut_k fun _ => ?_)
            · skip
              refine gb_take 0 rfl (by decide +kernel) rfl rfl (ys_ev (nw := true) hT rfl sI) sF ?_
              refine gb_take 1 rfl (by decide +kernel) rfl rfl (ys_ev (nw := true) hT rfl sI) sF ?_
              refine gb_take 2 rfl (by decide +kernel) rfl rfl (ys_ev (nw := true) hT rfl sI) sF ?_
              refine gb_take 3 rfl (by decide +kernel) rfl rfl (by first | exact ys_blk hT rfl rfl mE rfl rfl | exact ys_row hT rfl rfl mE rfl rfl | exact ys_row0 hT rfl rfl mE rfl rfl) sF ?_
              refine gb_take 4 rfl (by decide +kernel) rfl rfl (ys_ev (nw := true) hT rfl sI) sF ?_
              refine gb_take 5 rfl (by decide +kernel) rfl rfl (ys_ev (nw := true) hT rfl sI) sF ?_
              try (refine gb_say 32 (.bool false) rfl (congrArg Value.bool (tB_false (by omega))) ?_)
              refine gb_take 6 rfl (by decide +kernel) rfl rfl (ys_ev (nw := true) hT rfl sI) sF ?_
              first | refine gb_take 7 rfl (by decide +kernel) rfl rfl (ys_ev (nw := true) hT rfl sI) sF ?_ | refine gb_skip 7 rfl (by decide +kernel) rfl rfl sF ?_
              first | refine gb_take 8 rfl (by decide +kernel) rfl rfl (ys_ev (nw := true) hT rfl sI) sF ?_ | refine gb_skip 8 rfl (by decide +kernel) rfl rfl sF ?_
              first | refine gb_take 9 rfl (by decide +kernel) rfl rfl (ys_ev (nw := true) hT rfl sI) sF ?_ | refine gb_skip 9 rfl (by decide +kernel) rfl rfl sF ?_
              first | refine gb_take 10 rfl (by decide +kernel) rfl rfl (by first | exact ys_blk hT rfl rfl mE rfl rfl | exact ys_row hT rfl rfl mE rfl rfl | exact ys_row0 hT rfl rfl mE rfl rfl) sF ?_ | refine gb_skip 10 rfl (by decide +kernel) rfl rfl sF ?_
              first | refine gb_take 11 rfl (by decide +kernel) rfl rfl (ys_ev (nw := true) hT rfl sI) sF ?_ | refine gb_skip 11 rfl (by decide +kernel) rfl rfl sF ?_
              first | refine gb_take 12 rfl (by decide +kernel) rfl rfl (ys_ev (nw := true) hT rfl sI) sF ?_ | refine gb_skip 12 rfl (by decide +kernel) rfl rfl sF ?_
              first | refine gb_take 13 rfl (by decide +kernel) rfl rfl (by first | exact ys_blk hT rfl rfl mE rfl rfl | exact ys_row hT rfl rfl mE rfl rfl | exact ys_row0 hT rfl rfl mE rfl rfl) sF ?_ | refine gb_skip 13 rfl (by decide +kernel) rfl rfl sF ?_
              first | refine gb_take 14 rfl (by decide +kernel) rfl rfl (ys_ev (nw := true) hT rfl sI) sF ?_ | refine gb_skip 14 rfl (by decide +kernel) rfl rfl sF ?_
              first | refine gb_take 15 rfl (by decide +kernel) rfl rfl (ys_ev (nw := true) hT rfl sI) sF ?_ | refine gb_skip 15 rfl (by decide +kernel) rfl rfl sF ?_
              first | refine gb_take 16 rfl (by decide +kernel) rfl rfl (ys_ev (nw := true) hT rfl sI) sF ?_ | refine gb_skip 16 rfl (by decide +kernel) rfl rfl sF ?_
              first | refine gb_take 17 rfl (by decide +kernel) rfl rfl (ys_ev (nw := true) hT rfl sI) sF ?_ | refine gb_skip 17 rfl (by decide +kernel) rfl rfl sF ?_
              first | refine gb_take 18 rfl (by decide +kernel) rfl rfl (by first | exact ys_blk hT rfl rfl mE rfl rfl | exact ys_row hT rfl rfl mE rfl rfl | exact ys_row0 hT rfl rfl mE rfl rfl) sF ?_ | refine gb_skip 18 rfl (by decide +kernel) rfl rfl sF ?_
              first | refine gb_take 19 rfl (by decide +kernel) rfl rfl (ys_neq rfl rfl rfl rfl rfl (by kernel_rfl)) sF ?_ | refine gb_skip 19 rfl (by decide +kernel) rfl rfl sF ?_
              try (refine gb_say 46 (.bool false) rfl (congrArg Value.bool (tB_false (fun h => h (by rw [hke]; exact ⟨rfl, rfl, rfl, trivial⟩)))) ?_)
              refine gb_take 20 rfl (by decide +kernel) rfl rfl (ys_ev (nw := true) hT rfl sI) sF ?_
              refine gb_nil (by decide +kernel) ?_
              exact ⟨(), (by repeat (first | exact trivial | refine ⟨rfl, ?_⟩)), sA, sS⟩
            · (repeat (refine gG ?_; try intro _))
              refine g_mv rfl (mv_append2 (L := (Es.take i).flatten) rfl E rfl rfl rfl rfl Try.underlying32 elt_E (by intro _; first | ((repeat (first | with_reducible exact Upd.here _ | with_reducible apply Upd.there)); done) | ((repeat (first | exact Upd.here _ | apply Upd.there)); done) | fail) (src_R mE) hxn oneE (by unfold maxLen; omega) (by omega) (Nat.zero_le _) (fun v1 => ?_))
              rw [hflat]
              (repeat (refine gG ?_; try intro _))
              refine gk_again_sel rfl (v1, i + 1) ⟨hlt, fun j E' hj hE' => by
                by_cases e : j = i
                · subst e
                  rw [hxE] at hE'
                  obtain rfl := Option.some.inj hE'
                  exact ⟨h0, by rw [hfk, hke, keys_at hk0]⟩
                · exact hF j E' (by omega) hE'⟩ (by dsimp only; omega) (by repeat (first | exact trivial | refine ⟨rfl, ?_⟩)) sA sS
          · (repeat' (first | (refine gG ?_; try intro _) | ((first | refine g_split rfl rfl tE (fun _ => ?_) (fun _ => ?_) | refine gk_cond rfl rfl tE (fun _ => ?_) (fun _ => ?_)) <;> (try first | (exfalso; omega; done) | (rename_i hx; exact absurd rfl hx) | (rename_i hx; cases hx; done)))))
            refine gk_any [0, 1, 2, 4] (Cut _ (fun _ : Unit => [(47, .bool true)]) (fun _ => []) (fun _ => [])) rfl rfl (by kernel_rfl) ?_ (cut_k fun _ => ?_)
            · skip
              refine gb_take 0 rfl (by decide +kernel) rfl rfl (ys_ev (nw := true) hT rfl sI) sF ?_
              refine gb_take 1 rfl (by decide +kernel) rfl rfl (ys_ev (nw := true) hT rfl sI) sF ?_
              refine gb_take 2 rfl (by decide +kernel) rfl rfl (ys_ev (nw := true) hT rfl sI) sF ?_
              refine gb_take 3 rfl (by decide +kernel) rfl rfl (by first | exact ys_blk hT rfl rfl mE rfl rfl | exact ys_row hT rfl rfl mE rfl rfl | exact ys_row0 hT rfl rfl mE rfl rfl) sF ?_
              refine gb_take 4 rfl (by decide +kernel) rfl rfl (ys_ev (nw := true) hT rfl sI) sF ?_
              refine gb_take 5 rfl (by decide +kernel) rfl rfl (ys_ev (nw := true) hT rfl sI) sF ?_
              try (refine gb_say 32 (.bool false) rfl (congrArg Value.bool (tB_false (by omega))) ?_)
              refine gb_take 6 rfl (by decide +kernel) rfl rfl (ys_ev (nw := true) hT rfl sI) sF ?_
              first | refine gb_take 7 rfl (by decide +kernel) rfl rfl (ys_ev (nw := true) hT rfl sI) sF ?_ | refine gb_skip 7 rfl (by decide +kernel) rfl rfl sF ?_
              first | refine gb_take 8 rfl (by decide +kernel) rfl rfl (ys_ev (nw := true) hT rfl sI) sF ?_ | refine gb_skip 8 rfl (by decide +kernel) rfl rfl sF ?_
              first | refine gb_take 9 rfl (by decide +kernel) rfl rfl (ys_ev (nw := true) hT rfl sI) sF ?_ | refine gb_skip 9 rfl (by decide +kernel) rfl rfl sF ?_
              first | refine gb_take 10 rfl (by decide +kernel) rfl rfl (by first | exact ys_blk hT rfl rfl mE rfl rfl | exact ys_row hT rfl rfl mE rfl rfl | exact ys_row0 hT rfl rfl mE rfl rfl) sF ?_ | refine gb_skip 10 rfl (by decide +kernel) rfl rfl sF ?_
              first | refine gb_take 11 rfl (by decide +kernel) rfl rfl (ys_ev (nw := true) hT rfl sI) sF ?_ | refine gb_skip 11 rfl (by decide +kernel) rfl rfl sF ?_
              first | refine gb_take 12 rfl (by decide +kernel) rfl rfl (ys_ev (nw := true) hT rfl sI) sF ?_ | refine gb_skip 12 rfl (by decide +kernel) rfl rfl sF ?_
              first | refine gb_take 13 rfl (by decide +kernel) rfl rfl (by first | exact ys_blk hT rfl rfl mE rfl rfl | exact ys_row hT rfl rfl mE rfl rfl | exact ys_row0 hT rfl rfl mE rfl rfl) sF ?_ | refine gb_skip 13 rfl (by decide +kernel) rfl rfl sF ?_
              first | refine gb_take 14 rfl (by decide +kernel) rfl rfl (ys_ev (nw := true) hT rfl sI) sF ?_ | refine gb_skip 14 rfl (by decide +kernel) rfl rfl sF ?_
              first | refine gb_take 15 rfl (by decide +kernel) rfl rfl (ys_ev (nw := true) hT rfl sI) sF ?_ | refine gb_skip 15 rfl (by decide +kernel) rfl rfl sF ?_
              first | refine gb_take 16 rfl (by decide +kernel) rfl rfl (ys_ev (nw := true) hT rfl sI) sF ?_ | refine gb_skip 16 rfl (by decide +kernel) rfl rfl sF ?_
              first | refine gb_take 17 rfl (by decide +kernel) rfl rfl (ys_ev (nw := true) hT rfl sI) sF ?_ | refine gb_skip 17 rfl (by decide +kernel) rfl rfl sF ?_
              first | refine gb_take 18 rfl (by decide +kernel) rfl rfl (by first | exact ys_blk hT rfl rfl mE rfl rfl | exact ys_row hT rfl rfl mE rfl rfl | exact ys_row0 hT rfl rfl mE rfl rfl) sF ?_ | refine gb_skip 18 rfl (by decide +kernel) rfl rfl sF ?_
              first | refine gb_take 19 rfl (by decide +kernel) rfl rfl (ys_neq rfl rfl rfl rfl rfl (by kernel_rfl)) sF ?_ | refine gb_skip 19 rfl (by decide +kernel) rfl rfl sF ?_
              try (refine gb_say 46 (.bool true) rfl (congrArg Value.bool (tB_true (fun h => hke (key_ext h.1 h.2.1 h.2.2.1)))) ?_)
              refine gb_take 20 rfl (by decide +kernel) rfl rfl (ys_ev (nw := true) hT rfl sI) sF ?_
              refine gb_nil (by decide +kernel) ?_
              exact ⟨(), (by repeat (first | exact trivial | refine ⟨rfl, ?_⟩)), sA, sS⟩
            · (repeat (refine gG ?_; try intro _))
              refine gk_ret hT rfl rfl (.tmp rfl .nil) (fun w' hk => ?_)
              refine ⟨?_, hk.toBelow⟩
              rw [if_neg (by rw [tB_false (fun h : FstP Es (keysOf K) => hke (by have := (h i E hxE).2; rw [hfk, keys_at hk0] at this; exact this))]; decide)]
              rfl
      · have hil : i = Es.length := by omega
        have hFst : FstP Es (keysOf K) := fun j E hj => hF j E (by have := (List.getElem?_eq_some_iff.1 hj).1; omega) hj
        rw [if_pos (tB_true hFst)]
        (repeat' (first | (refine gG ?_; try intro _) | ((first | refine g_split rfl rfl tE (fun _ => ?_) (fun _ => ?_) | refine gk_cond rfl rfl tE (fun _ => ?_) (fun _ => ?_)) <;> (try first | (exfalso; omega; done) | (rename_i hx; exact absurd rfl hx) | (rename_i hx; cases hx; done)))))
        rw [hil, List.take_length]
        have hf9 := flat_le Es h9E
        refine gk_loop_sel (fun (j : Nat) => (j ≤ LS.length ∧ badL Es = badL (Es.drop j))) (fun (j : Nat) => [(0, .slice (some ⟨lb, lo, none⟩) ln lc), (2, .int .i64 n), (7, v), (9, .int .i64 j)]) (fun (j : Nat) => [own 0 29 4 v EE Es.flatten]) (fun (j : Nat) => [sl (some ⟨lb, lo, none⟩) 1 SE LS, allF LS lfF]) (fun (j : Nat) => LS.length - j) 0 rfl ⟨Nat.zero_le _, rfl⟩ (by repeat (first | exact trivial | refine ⟨rfl, ?_⟩)) sA sS ?_
        rintro j hI
        replace hI : (j ≤ LS.length ∧ badL Es = badL (Es.drop j)) := hI
        change GK _ _ [(0, .slice (some ⟨lb, lo, none⟩) ln lc), (2, .int .i64 n), (7, v), (9, .int .i64 j)] [own 0 29 4 v EE Es.flatten] [sl (some ⟨lb, lo, none⟩) 1 SE LS, allF LS lfF]
        obtain ⟨hj, hbj⟩ := hI
        by_cases hlt2 : j < LS.length
        · obtain ⟨x, hx⟩ : ∃ x, LS[j]? = some x := ⟨LS[j], List.getElem?_eq_getElem hlt2⟩
          have hxm := List.mem_of_getElem? hx
          have hxE : Es[j]? = some x.E := by rw [hEs, List.getElem?_map, hx]; rfl
          obtain ⟨hxo, hx9⟩ := hok x hxm
          have hdr : Es.drop j = x.E :: Es.drop (j + 1) := by
            obtain ⟨h1, h2⟩ := List.getElem?_eq_some_iff.1 hxE
            rw [List.drop_eq_getElem_cons h1, h2]
          refine gk_elem (enc := SE) (L := LS) j mE hlt2 (by decide) (fun b1 o1 y1 e1 hy1 => ?_)
          injection e1 with e1
          injection e1 with e2 e3
          subst e2 e3
          obtain rfl : x = y1 := by rw [hx] at hy1; exact Option.some.inj hy1
          refine gk_allR (l := LS) (F := lfF) (x := x) mE hxm ?_
          obtain ⟨⟨xA, xn, xc⟩, E⟩ := x
          have hxn : xn = E.length := hxo.n
          dsimp only at hxE hx9 hdr
          change GK _ _ _ _ (sl xA 4 EE E :: row lb (lo + j * 1) [.slice xA xn xc] :: _)
          rw [hdr, badL_cons] at hbj
          (repeat' (first | (refine gG ?_; try intro _) | ((first | refine g_split rfl rfl tE (fun _ => ?_) (fun _ => ?_) | refine gk_cond rfl rfl tE (fun _ => ?_) (fun _ => ?_)) <;> (try first | (exfalso; omega; done) | (rename_i hx; exact absurd rfl hx) | (rename_i hx; cases hx; done)))))
          refine g_mv rfl ?_; refine mv_call_bel (fun w hk => rises_any xA xn xc E w hxn (by omega) (hk.rR (φ := sl xA 4 EE E) mE)) rfl rfl rfl rfl rfl (by kernel_rfl) ?_
          by_cases hEA : AscK (keysOf E)
          · rw [tB_true hEA]
            rw [if_pos (tB_true hEA)] at hbj
            by_cases h36 : 3 ≤ E.length ∧ E.length ≤ 6
            · rw [if_pos h36] at hbj
              (repeat' (first | (refine gG ?_; try intro _) | ((first | refine g_split rfl rfl tE (fun _ => ?_) (fun _ => ?_) | refine gk_cond rfl rfl tE (fun _ => ?_) (fun _ => ?_)) <;> (try first | (exfalso; omega; done) | (rename_i hx; exact absurd rfl hx) | (rename_i hx; cases hx; done)))))
              refine gk_again_sel rfl (j + 1) ⟨hlt2, hbj⟩ (by omega) (by repeat (first | exact trivial | refine ⟨rfl, ?_⟩)) sA sS
            · rw [if_neg h36] at hbj
              rw [hbj, if_neg (by decide)]
              (repeat' (first | (refine gG ?_; try intro _) | ((first | refine g_split rfl rfl tE (fun _ => ?_) (fun _ => ?_) | refine gk_cond rfl rfl tE (fun _ => ?_) (fun _ => ?_)) <;> (try first | (exfalso; omega; done) | (rename_i hx; exact absurd rfl hx) | (rename_i hx; cases hx; done)))))
              all_goals first | (refine gk_ret hT rfl rfl (.tmp rfl .nil) (fun w' hk => ?_); exact ⟨rfl, hk.toBelow⟩) | (exfalso; omega)
          · rw [tB_false hEA]
            rw [if_neg (by rw [tB_false hEA]; decide)] at hbj
            rw [hbj, if_neg (by decide)]
            (repeat (refine gG ?_; try intro _))
            refine gk_ret hT rfl rfl (.tmp rfl .nil) (fun w' hk => ?_)
            exact ⟨rfl, hk.toBelow⟩
        · have hjl : j = Es.length := by omega
          rw [hjl, List.drop_length] at hbj
          rw [hbj, show badL [] = 0 from rfl, if_pos rfl]
          (repeat' (first | (refine gG ?_; try intro _) | ((first | refine g_split rfl rfl tE (fun _ => ?_) (fun _ => ?_) | refine gk_cond rfl rfl tE (fun _ => ?_) (fun _ => ?_)) <;> (try first | (exfalso; omega; done) | (rename_i hx; exact absurd rfl hx) | (rename_i hx; cases hx; done)))))
          refine g_freeze v (by intro _; first | ((repeat (first | with_reducible exact Upd.here _ | with_reducible apply Upd.there)); done) | ((repeat (first | exact Upd.here _ | apply Upd.there)); done) | fail) (fun uA uc hv _ _ _ => ?_)
          subst hv
          refine g_mv rfl ?_; refine mv_call_bel (fun w hk => rises_any uA Es.flatten.length uc Es.flatten w rfl (by omega) (hk.rO (φ := sl uA 4 EE Es.flatten) mE)) rfl rfl rfl rfl rfl (by kernel_rfl) ?_
          by_cases hFA : AscK (keysOf Es.flatten)
          · rw [tB_true hFA, if_pos rfl]
            (repeat' (first | (refine gG ?_; try intro _) | ((first | refine g_split rfl rfl tE (fun _ => ?_) (fun _ => ?_) | refine gk_cond rfl rfl tE (fun _ => ?_) (fun _ => ?_)) <;> (try first | (exfalso; omega; done) | (rename_i hx; exact absurd rfl hx) | (rename_i hx; cases hx; done)))))
            all_goals
              refine gk_ret hT rfl rfl (.tmp rfl .nil) (fun w' hk => ?_)
              refine ⟨?_, hk.toBelow⟩
              split <;> first | rfl | (exfalso; omega)
          · rw [tB_false hFA, if_neg (by decide)]
            (repeat (refine gG ?_; try intro _))
            refine gk_ret hT rfl rfl (.tmp rfl .nil) (fun w' hk => ?_)
            exact ⟨rfl, hk.toBelow⟩
    · rw [if_neg h26]
      (repeat' (first | (refine gG ?_; try intro _) | ((first | refine g_split rfl rfl tE (fun _ => ?_) (fun _ => ?_) | refine gk_cond rfl rfl tE (fun _ => ?_) (fun _ => ?_)) <;> (try first | (exfalso; omega; done) | (rename_i hx; exact absurd rfl hx) | (rename_i hx; cases hx; done)))))
      all_goals first | (refine gk_ret hT rfl rfl (.tmp rfl .nil) (fun w' hk => ?_); exact ⟨rfl, hk.toBelow⟩) | (exfalso; omega)
  · rw [tB_false hA, if_neg (by decide)]
    (repeat (refine gG ?_; try intro _))
    refine gk_ret hT rfl rfl (.tmp rfl .nil) (fun w' hk => ?_)
    exact ⟨rfl, hk.toBelow⟩
end Go.Proofs.Ytahfjkibononfaa.Ck
namespace Go.Proofs.Ytahfjkibononfaa.Ck
open Go.RowKit Mem Nd Gx Sk Tw Wk
open Go.ChangeShapes Go.WideShapes Go.Deep
open Tr hiding T row
set_option linter.unusedVariables false
set_option linter.unusedSimpArgs false
set_option maxRecDepth 100000
set_option maxHeartbeats 1000000
structure _root_.Go.Proofs.Ytahfjkibononfaa.Nd.EntD.Bd2 (e : EntD) : Prop where
  k : e.k.Bd
  a : 0 ≤ e.a ∧ e.a < 4294967296
theorem innerO_any (A : Option Addr) (n c : Nat) (ds : List NodeD) (w : World) (hn : n = ds.length) (h0 : 0 < n) (h9 : n ≤ 1000) (hne : ∀ d ∈ ds, 0 < d.Ks.length ∧ d.Ok) (hB : Rds w [allF ds kidB, allF ds kidK, sl A 1 PE (ds.map NodeD.g)]) :
    Calls Try.prog 9 [.slice A n c].toArray w (Ret (fun d : NodeD => IsInner ds d ∧ d.K.A.isSome = true) NodeD.ptr (fun d => [own 0 27 3 d.K.v KE d.Ks, blk d.g [.bool d.leaf, d.K.v, d.V.v, d.C.v, .int .u32 d.a] 40, sl d.C.A 1 PE d.Cs]) w) := by
  refine g_enter0 T [] [] [allF ds kidB, allF ds kidK, sl A 1 PE (ds.map NodeD.g)] Try.func9 rfl Try.ntmps9 rfl hB.kn ?_
  (repeat (refine gG ?_; try intro _))
  refine g_mv rfl ?_; refine mv_call_rt (fun w hk => clone_Pn A n c (ds.map NodeD.g) w (by rw [List.length_map]; exact hn) (by omega) (hk.pR (sl A 1 PE (ds.map NodeD.g)) mE)) rfl rfl rfl rfl rfl (by kernel_rfl) (fun _ => rfl) (fun cs hcs => ?_)
  (repeat (refine gG ?_; try intro _))
  rename_i g
  refine gk_own 0 27 3 KE ?_
  refine gk_loop_sel (fun (q : Nat × Value × (List KeyD)) => match q with | (j, a, M) => j ≤ ds.length ∧ M = (ds.take j).map (fun x => x.Ks.getD 0 default)) (fun (q : Nat × Value × (List KeyD)) => match q with | (j, a, M) => [(3, .pointer (some ⟨g, 0, none⟩)), (10, .slice A n c), (11, .int .i64 n), (12, .int .i64 j)]) (fun (q : Nat × Value × (List KeyD)) => match q with | (j, a, M) => [own 0 27 3 a KE M, blk g [.bool false, a, .slice none 0 0, cs.v, .int .u32 0] 40, sl cs.A 1 PE (ds.map NodeD.g)]) (fun (q : Nat × Value × (List KeyD)) => match q with | (j, a, M) => [allF ds kidB, allF ds kidK, sl A 1 PE (ds.map NodeD.g)]) (fun (q : Nat × Value × (List KeyD)) => match q with | (j, a, M) => ds.length - j) (0, .slice none 0 0, []) rfl ⟨Nat.zero_le _, rfl⟩ (by repeat (first | exact trivial | refine ⟨rfl, ?_⟩)) sA sS ?_
  rintro ⟨j, a, M⟩ hI
  replace hI : j ≤ ds.length ∧ M = (ds.take j).map (fun x => x.Ks.getD 0 default) := hI
  change GK _ _ [(3, .pointer (some ⟨g, 0, none⟩)), (10, .slice A n c), (11, .int .i64 n), (12, .int .i64 j)] [own 0 27 3 a KE M, blk g [.bool false, a, .slice none 0 0, cs.v, .int .u32 0] 40, sl cs.A 1 PE (ds.map NodeD.g)] [allF ds kidB, allF ds kidK, sl A 1 PE (ds.map NodeD.g)]
  obtain ⟨hj, hM⟩ := hI
  have hMl : M.length = j := by rw [hM, List.length_map, List.length_take]; omega
  (repeat (refine gG ?_; try intro _))
  refine gk_cond rfl rfl (tells_tB _) (fun h1 => ?_) (fun h1 => ?_)
  · have hjL : j < ds.length := by omega
    obtain ⟨d, hd⟩ : ∃ d, ds[j]? = some d := ⟨ds[j], List.getElem?_eq_getElem hjL⟩
    have hdm := List.mem_of_getElem? hd
    refine gk_allR (l := ds) (F := kidB) (x := d) mE hdm ?_
    refine gk_allR (l := ds) (F := kidK) (x := d) mE hdm ?_
    refine gk_elem (enc := PE) (L := ds.map NodeD.g) j mE (by rw [List.length_map]; omega) (by decide) (fun b0 off y eA hy => ?_)
    subst eA
    obtain rfl : d.g = y := by
      rw [List.getElem?_map, hd] at hy
      exact Option.some.inj hy
    have hd0 : 0 < d.K.n := by rw [(hne d hdm).2.K.n]; exact (hne d hdm).1
    refine gk_elem (enc := KE) (L := d.Ks) 0 mE (hne d hdm).1 (by decide) (fun b1 o1 k eA hk0 => ?_)
    (repeat (refine gG ?_; try intro _))
    refine gk_any [3, 6] (Cut _ (fun v : Value => [(3, .pointer (some ⟨g, 0, none⟩)), (10, .slice (some ⟨b0, off, none⟩) n c), (11, .int .i64 n), (12, .int .i64 j)]) (fun v => [own 0 27 3 v KE (M ++ [k]), blk g [.bool false, v, .slice none 0 0, cs.v, .int .u32 0] 40, sl cs.A 1 PE (ds.map NodeD.g)]) (fun _ => [allF ds kidB, allF ds kidK, sl (some ⟨b0, off, none⟩) 1 PE (ds.map NodeD.g)])) rfl rfl (by kernel_rfl) ?_ (cut_k fun v => ?_)
    · skip
      refine gb_take 0 rfl (by decide +kernel) rfl rfl (ys_ev (nw := true) hT rfl sI) sF ?_
      refine gb_take 1 rfl (by decide +kernel) rfl rfl (ys_ev (nw := true) hT rfl sI) sF ?_
      refine gb_take 2 rfl (by decide +kernel) rfl rfl (ys_ev (nw := true) hT rfl sI) sF ?_
      refine gb_take 3 rfl (by decide +kernel) rfl rfl (ys_ev (nw := true) hT rfl sI) sF ?_
      refine gb_take 5 rfl (by decide +kernel) rfl rfl (ys_ev (nw := true) hT rfl sI) sF ?_
      refine gb_take 6 rfl (by decide +kernel) rfl rfl (ys_ev (nw := true) hT rfl sI) sF ?_
      refine gb_take 7 rfl (by decide +kernel) rfl rfl (ys_ev (nw := true) hT rfl sI) sF ?_
      refine gb_take 8 rfl (by decide +kernel) rfl rfl (by first | exact ys_blk hT rfl rfl mE rfl rfl | exact ys_row hT rfl rfl mE rfl rfl | exact ys_row0 hT rfl rfl mE rfl rfl) sF ?_
      try (refine gb_say 24 (.slice (some ⟨b1, o1, none⟩) d.K.n d.K.c) rfl (by show d.K.v = _; unfold SlV.v; rw [eA]) ?_)
      refine gb_take 9 rfl (by decide +kernel) rfl rfl (ys_ev (nw := true) hT rfl sI) sF ?_
      refine gb_take 10 rfl (by decide +kernel) rfl rfl (by first | exact ys_blk hT rfl rfl mE rfl rfl | exact ys_row hT rfl rfl mE rfl rfl | exact ys_row0 hT rfl rfl mE rfl rfl) sF ?_
      refine gb_all (by decide +kernel) ?_
      refine gball_not (by decide +kernel) ?_
      refine gball_not (by decide +kernel) ?_
      refine gball_not (by decide +kernel) ?_
      refine gball_not (by decide +kernel) ?_
      refine gball_yes rfl rfl ?_ ?_
      · refine mv_yd rfl (yd_load_blk hT rfl rfl mE rfl rfl) ?_
        refine ⟨sF, ?_⟩
        refine gb_only 11 (by decide +kernel) rfl rfl ?_
        (refine mv_buildSlice (len := 1) rfl hT rfl rfl rfl rfl rfl rfl rfl rfl ?_; intro g6)
        refine ⟨sF, ?_⟩
        refine gb_only 12 (by decide +kernel) rfl rfl ?_
        refine mv_append rfl [k] rfl rfl rfl rfl elt_K (by intro _; first | ((repeat (first | with_reducible exact Upd.here _ | with_reducible apply Upd.there)); done) | ((repeat (first | exact Upd.here _ | apply Upd.there)); done) | fail) (src_blk mE rfl) rfl (by intro x j; rcases j with _ | _ | _ | j <;> rfl) (by simp only [maxLen, List.length_cons, List.length_nil]; omega) (by simp only [List.length_cons, List.length_nil]; omega) (Nat.zero_le _) (fun v1 => ?_)
        refine ⟨sF, ?_⟩
        (refine gb_ownv v1 mE (fun A1 c1 hv1 _ _ _ => ?_); subst hv1)
        refine gb_take 13 rfl (by decide +kernel) rfl rfl (ys_ev (nw := true) hT rfl sI) sF ?_
        refine gb_take 14 rfl (by decide +kernel) rfl rfl (ys_ev (nw := true) hT rfl sI) sF ?_
        refine gb_only 15 (by decide +kernel) rfl rfl ?_
        first | (refine mv_box rfl rfl rfl rfl ?_; intro _) | (refine mv_alloc rfl hT rfl rfl ?_; intro _) | refine mv_store hT rfl rfl rfl rfl rfl rfl sO rfl ?_ | (refine mv_buildSlice rfl hT rfl rfl rfl rfl rfl rfl rfl rfl ?_; intro _)
        refine ⟨sF, ?_⟩
        refine gb_nil (by decide +kernel) ?_
        exact ⟨.slice A1 (M ++ [k]).length c1, (by repeat (first | exact trivial | refine ⟨rfl, ?_⟩)), sA, sS⟩
      refine gball_not (by decide +kernel) ?_
      refine gball_not (by decide +kernel) ?_
      refine gball_not (by decide +kernel) ?_
      refine gball_not (by decide +kernel) ?_
      refine gball_not (by decide +kernel) ?_
      refine gball_not (by decide +kernel) ?_
      refine gball_yes rfl rfl ?_ ?_
      · (refine mv_buildSlice (len := 1) rfl hT rfl rfl rfl rfl rfl rfl rfl rfl ?_; intro g6)
        refine ⟨sF, ?_⟩
        refine gb_only 4 (by decide +kernel) rfl rfl ?_
        refine mv_yd rfl (yd_load_blk hT rfl rfl mE rfl rfl) ?_
        refine ⟨sF, ?_⟩
        refine gb_only 12 (by decide +kernel) rfl rfl ?_
        refine mv_append rfl [k] rfl rfl rfl rfl elt_K (by intro _; first | ((repeat (first | with_reducible exact Upd.here _ | with_reducible apply Upd.there)); done) | ((repeat (first | exact Upd.here _ | apply Upd.there)); done) | fail) (src_blk mE rfl) rfl (by intro x j; rcases j with _ | _ | _ | j <;> rfl) (by simp only [maxLen, List.length_cons, List.length_nil]; omega) (by simp only [List.length_cons, List.length_nil]; omega) (Nat.zero_le _) (fun v1 => ?_)
        refine ⟨sF, ?_⟩
        (refine gb_ownv v1 mE (fun A1 c1 hv1 _ _ _ => ?_); subst hv1)
        refine gb_take 13 rfl (by decide +kernel) rfl rfl (ys_ev (nw := true) hT rfl sI) sF ?_
        refine gb_take 14 rfl (by decide +kernel) rfl rfl (ys_ev (nw := true) hT rfl sI) sF ?_
        refine gb_only 15 (by decide +kernel) rfl rfl ?_
        first | (refine mv_box rfl rfl rfl rfl ?_; intro _) | (refine mv_alloc rfl hT rfl rfl ?_; intro _) | refine mv_store hT rfl rfl rfl rfl rfl rfl sO rfl ?_ | (refine mv_buildSlice rfl hT rfl rfl rfl rfl rfl rfl rfl rfl ?_; intro _)
        refine ⟨sF, ?_⟩
        refine gb_nil (by decide +kernel) ?_
        exact ⟨.slice A1 (M ++ [k]).length c1, (by repeat (first | exact trivial | refine ⟨rfl, ?_⟩)), sA, sS⟩
      refine gball_not (by decide +kernel) ?_
      refine gball_not (by decide +kernel) ?_
      refine gball_not (by decide +kernel) ?_
      refine gball_not (by decide +kernel) ?_
      exact gball_end (by decide +kernel)
    · (repeat (refine gG ?_; try intro _))
      refine gk_again_sel rfl (j + 1, v, M ++ [k]) ⟨by omega, by
        rw [hM, List.take_succ_eq_append_getElem hjL, List.map_append]
        rw [List.getElem?_eq_getElem hjL] at hd
        injection hd with hd
        rw [hd]
        show _ = _ ++ [d.Ks.getD 0 default]
        rw [List.getD_eq_getElem?_getD, hk0]; rfl⟩ (by dsimp only; omega) (by repeat (first | exact trivial | refine ⟨rfl, ?_⟩)) sA sS
  · have hjn : j = ds.length := by omega
    (repeat (refine gG ?_; try intro _))
    have hMl0 : 0 < M.length := by omega
    refine gk_own0 a mE hMl0 (fun b1 c1 hv hc1 hc2 => ?_)
    subst hv
    (repeat (refine gG ?_; try intro _))
    refine gk_ret hT rfl rfl (.tmp rfl .nil) (fun w' hk => ?_)
    exact Ret.mk ⟨g, false, ⟨some ⟨b1, 0, none⟩, M.length, c1⟩, M, ⟨none, 0, 0⟩, [], cs, ds.map NodeD.g, 0⟩ ⟨⟨⟨⟨rfl, hc1, hc2, fun h => by cases h⟩, SlV.ok_nil, hcs⟩, rfl, by rw [hM, hjn, List.take_length], rfl, rfl, rfl⟩, rfl⟩ rfl hk sA
/-! ### leaves as arguments -/
theorem ent_leavesB {H : Type} {enc : TypeId × Value → H} {W : World} {V : Nat → Value} {l : List TypeId} (hl : l = [23, 24, 25, 24]) (hV : ∀ (j : Nat) (tj : TypeId), l[j]? = some tj → Leaf enc Try.prog W tj (V j)) :
    ∃ y : EntD, (∀ j, j < 4 → V j = EE y j) ∧ y.k.Bd := by
  subst hl
  obtain ⟨a0, e0, w0⟩ := leaf_int Try.underlying23 (hV 0 _ rfl)
  obtain ⟨a1, e1, w1⟩ := leaf_int Try.underlying24 (hV 1 _ rfl)
  obtain ⟨a2, e2, w2⟩ := leaf_int Try.underlying25 (hV 2 _ rfl)
  obtain ⟨a3, e3, w3⟩ := leaf_int Try.underlying24 (hV 3 _ rfl)
  refine ⟨⟨⟨a0, a1, a2⟩, a3⟩, fun j hj => ?_, ⟨bd16 w0, bd32 w1, bd64 w2⟩⟩
  match j, hj with
  | 0, _ => exact e0
  | 1, _ => exact e1
  | 2, _ => exact e2
  | 3, _ => exact e3
theorem lf_leaves {H : Type} {enc : TypeId × Value → H} {W : World} {V : Nat → Value} {l : List TypeId} (hl : l = [32]) (hV : ∀ (j : Nat) (tj : TypeId), l[j]? = some tj → Leaf enc Try.prog W tj (V j)) :
    ∃ y : LfD, (∀ j, j < 1 → V j = SE y j) ∧ (y.s.Ok y.E.length ∧ Sl W y.s.A 4 EE y.E ∧ ∀ e ∈ y.E, e.k.Bd) := by
  subst hl
  have hl : leaves Try.prog 8 29 = some [23, 24, 25, 24] := by decide +kernel
  obtain ⟨A, n, c, F, e, hA, h1, h2, h3, h4⟩ := leaf_slice Try.underlying32 hl (by kernel_rfl) (by decide) (hV 0 _ rfl)
  obtain ⟨L, hn, hs, hb⟩ := arr_list (enc := EE) (Q := fun x => x.k.Bd) hA (fun i hi => ent_leavesB rfl (h4 i hi))
  refine ⟨⟨⟨A, n, c⟩, L⟩, fun j hj => ?_, ⟨hn, h1, h2, fun h => (h3 h).2⟩, hs, hb⟩
  match j, hj with
  | 0, _ => exact e
theorem lfs_of {H : Type} {enc : TypeId × Value → H} {W : World} {base : Nat} {v : Value} {d : DataW H} {p : List MemPlace} (hv : Value.okWide Try.prog W .any base 22 v) (h : DataW.Trod enc Try.prog W 0 (fun _ => true) true 22 v d p) :
    ∃ (A : Option Addr) (n c : Nat) (L : List LfD), v = .slice A n c ∧ ((SlV.mk A n c).Ok L.length ∧ Sl W A 1 SE L ∧ ∀ x ∈ L, x.s.Ok x.E.length ∧ Sl W x.s.A 4 EE x.E ∧ ∀ e ∈ x.E, e.k.Bd) := by
  have hl : leaves Try.prog 8 32 = some [32] := by decide +kernel
  obtain ⟨A, n, c, F, rfl, hA, h1, h2, h3, h4⟩ := open_slices Try.underlying22 hl (by kernel_rfl) (by decide) hv h
  obtain ⟨L, hn, hs, hb⟩ := arr_list (enc := SE) (Q := fun y => y.s.Ok y.E.length ∧ Sl W y.s.A 4 EE y.E ∧ ∀ e ∈ y.E, e.k.Bd) hA (fun i hi => lf_leaves rfl (h4 i hi))
  exact ⟨A, n, c, L, rfl, ⟨hn, h1, h2, fun h => (h3 h).2⟩, hs, hb⟩
theorem ent_ofB {H : Type} {enc : TypeId × Value → H} {W : World} {base : Nat} {v : Value} {d : DataW H} {p : List MemPlace} (hv : Value.okWide Try.prog W .any base 29 v) (h : DataW.Trod enc Try.prog W 0 (fun _ => true) true 29 v d p) :
    ∃ y : EntD, v = y.val ∧ y.Bd2 := by
  have hl : leaves Try.prog 8 29 = some [23, 24, 25, 24] := by decide +kernel
  obtain ⟨V, rfl, hV⟩ := open_flat hl (by kernel_rfl) (by kernel_rfl) hv h
  obtain ⟨a0, e0, w0⟩ := leaf_int Try.underlying23 (hV 0 _ rfl)
  obtain ⟨a1, e1, w1⟩ := leaf_int Try.underlying24 (hV 1 _ rfl)
  obtain ⟨a2, e2, w2⟩ := leaf_int Try.underlying25 (hV 2 _ rfl)
  obtain ⟨a3, e3, w3⟩ := leaf_int Try.underlying24 (hV 3 _ rfl)
  refine ⟨⟨⟨a0, a1, a2⟩, a3⟩, ?_, ⟨⟨bd16 w0, bd32 w1, bd64 w2⟩, bd32 w3⟩⟩
  have e' : (List.range 4).map V = [V 0, V 1, V 2, V 3] := rfl
  show Value.agg ((List.range 4).map V).toArray = _
  rw [e', e0, e1, e2, e3]
end Go.Proofs.Ytahfjkibononfaa.Ck
namespace Go.Proofs.Ytahfjkibononfaa.Ck
open Go.RowKit Mem Nd Gx Sk Tw Wk
open Tr hiding T row
set_option linter.unusedVariables false
set_option linter.unusedSimpArgs false
set_option maxRecDepth 100000
set_option maxHeartbeats 1000000
/-- A root above leaves. -/
structure Two (d : NodeD) (ls : List (Tr.T 0)) : Prop where
  ok : d.Ok
  leaf : d.leaf = false
  Vs : d.Vs = []
  Cs : d.Cs = (ls.map (nd 0)).map NodeD.g
  a : d.a = 0
  Kl : d.Ks.length = ls.length
  lf : ∀ l ∈ ls, IsLeaf l.2 l.1
abbrev two (d : NodeD) (ls : List (Tr.T 0)) : AT := ⟨1, ((d, ls) : NodeD × List (Tr.T 0))⟩
theorem Two.wok {d : NodeD} {ls : List (Tr.T 0)} (h : Two d ls) : WOk (two d ls).h (two d ls).t := ⟨h.ok, h.leaf, h.Cs, h.Kl, fun k hk => h.lf k hk⟩
theorem two_kids (d : NodeD) (ls : List (Tr.T 0)) : (two d ls).kids = ls.map fun k => (⟨0, k⟩ : AT) := rfl
theorem two_bfs {d : NodeD} {ls : List (Tr.T 0)} {P : List AT} {i : Nat} (h : BfsR (two d ls) P i) : (i = 0 ∧ P = [two d ls]) ∨ (0 < i ∧ P = two d ls :: (two d ls).kids) := by
  induction h with
  | start => exact .inl ⟨rfl, rfl⟩
  | @step Q i b h hb ih =>
    right
    refine ⟨Nat.succ_pos _, ?_⟩
    rcases ih with ⟨rfl, rfl⟩ | ⟨hi, rfl⟩
    · obtain rfl := Option.some.inj hb
      rfl
    · cases i with
      | zero => omega
      | succ i =>
        have hb' : (two d ls).kids[i]? = some b := hb
        rw [two_kids, List.getElem?_map] at hb'
        obtain ⟨k, hk, rfl⟩ := Option.map_eq_some_iff.1 hb'
        show (two d ls :: (two d ls).kids) ++ [] = _
        rw [List.append_nil]
theorem lf_fst {l : Tr.T 0} (h : IsLeaf l.2 l.1) : l.1.Ks.length = l.2.length ∧ (l.2.length ≠ 0 → l.1.Ks.getD 0 default = fstK l.2) := by
  refine ⟨by rw [h.Ks, List.length_map], fun h0 => ?_⟩
  obtain ⟨y, r, hy, hk⟩ := fstK_at (B := l.2) (by omega)
  rw [h.Ks, hk, hy]
  rfl
theorem two_first {d : NodeD} {ls : List (Tr.T 0)} (h : Two d ls) : FirstP d.Ks ((two d ls).kids.map fun k => nd k.h k.t) ↔ FstP (ls.map fun l => l.2) d.Ks := by
  constructor
  · intro hf i E hE
    rw [List.getElem?_map] at hE
    obtain ⟨l, hl, rfl⟩ := Option.map_eq_some_iff.1 hE
    have h1 := hf i l.1 (by rw [two_kids, List.getElem?_map, List.getElem?_map, hl]; rfl)
    obtain ⟨h2, h3⟩ := lf_fst (h.lf l (List.mem_of_getElem? hl))
    have h0 : l.2.length ≠ 0 := by rw [← h2]; exact h1.1
    exact ⟨h0, by rw [← h3 h0]; exact h1.2⟩
  · intro hf i e he
    rw [two_kids, List.getElem?_map, List.getElem?_map] at he
    obtain ⟨x, hx, rfl⟩ := Option.map_eq_some_iff.1 he
    obtain ⟨l, hl, rfl⟩ := Option.map_eq_some_iff.1 hx
    have h1 := hf i l.2 (by rw [List.getElem?_map, hl]; rfl)
    obtain ⟨h2, h3⟩ := lf_fst (h.lf l (List.mem_of_getElem? hl))
    exact ⟨by show l.1.Ks.length ≠ 0; rw [h2]; exact h1.1, by show l.1.Ks.getD 0 default = _; rw [h3 h1.1]; exact h1.2⟩
theorem two_fill {d : NodeD} {ls : List (Tr.T 0)} (h : Two d ls) : FillP (nd (two d ls).h (two d ls).t).leaf true (nd (two d ls).h (two d ls).t).K.n (nd (two d ls).h (two d ls).t).V.n (nd (two d ls).h (two d ls).t).C.n ↔ 2 ≤ ls.length ∧ ls.length ≤ 6 := by
  show FillP d.leaf true d.K.n d.V.n d.C.n ↔ _
  unfold FillP
  rw [h.leaf, h.ok.K.n, h.ok.C.n, h.Kl, h.Cs, List.length_map, List.length_map]
  simp
theorem two_good {d : NodeD} {ls : List (Tr.T 0)} (h : Two d ls) : goodN (two d ls) true ↔ AscK d.Ks ∧ (2 ≤ ls.length ∧ ls.length ≤ 6) ∧ FstP (ls.map fun l => l.2) d.Ks :=
  and_congr Iff.rfl (and_congr (two_fill h) (two_first h))
theorem leaf_fill {l : Tr.T 0} (h : IsLeaf l.2 l.1) : FillP (nd 0 l).leaf false (nd 0 l).K.n (nd 0 l).V.n (nd 0 l).C.n ↔ 3 ≤ l.2.length ∧ l.2.length ≤ 6 := by
  show FillP l.1.leaf false l.1.K.n l.1.V.n l.1.C.n ↔ _
  unfold FillP
  rw [h.leaf, h.ok.K.n, h.ok.V.n, h.Ks, h.Vs, List.length_map, List.length_map]
  simp
theorem leaf_asc {l : Tr.T 0} (h : IsLeaf l.2 l.1) : AscK (nd 0 l).Ks ↔ AscK (keysOf l.2) := by show AscK l.1.Ks ↔ _; rw [h.Ks]
theorem leaf_good {l : Tr.T 0} (h : IsLeaf l.2 l.1) : goodN ⟨0, l⟩ false ↔ AscK (keysOf l.2) ∧ (3 ≤ l.2.length ∧ l.2.length ≤ 6) :=
  ⟨fun ⟨h1, h2, _⟩ => ⟨(leaf_asc h).1 h1, (leaf_fill h).1 h2⟩, fun ⟨h1, h2⟩ => ⟨(leaf_asc h).2 h1, (leaf_fill h).2 h2, fun i e he => by cases he⟩⟩
theorem badL_drop : ∀ (Es : List (List EntD)) (m : Nat), (∀ (j : Nat) (E : List EntD), j < m → Es[j]? = some E → AscK (keysOf E) ∧ (3 ≤ E.length ∧ E.length ≤ 6)) → badL Es = badL (Es.drop m)
  | _, 0, _ => rfl
  | [], m + 1, _ => rfl
  | E :: r, m + 1, h => by
    obtain ⟨h1, h2⟩ := h 0 E (by omega) rfl
    rw [badL_cons, if_pos (tB_true h1), if_pos h2]
    exact badL_drop r m fun j E' hj hE => h (j + 1) E' (by omega) hE
theorem badL_all {Es : List (List EntD)} (h : ∀ (j : Nat) (E : List EntD), Es[j]? = some E → AscK (keysOf E) ∧ (3 ≤ E.length ∧ E.length ≤ 6)) : badL Es = 0 := by
  rw [badL_drop Es Es.length fun j E _ hE => h j E hE, List.drop_length]
  rfl
theorem codeN_leaf {l : Tr.T 0} (h : IsLeaf l.2 l.1) (hb : ¬ goodN ⟨0, l⟩ false) (r : List (List EntD)) : codeN ⟨0, l⟩ false = badL (l.2 :: r) ∧ badL (l.2 :: r) ≠ 0 := by
  rw [badL_cons]
  unfold codeN
  by_cases hA : AscK (keysOf l.2)
  · have hF : ¬ (3 ≤ l.2.length ∧ l.2.length ≤ 6) := fun h2 => hb ((leaf_good h).2 ⟨hA, h2⟩)
    rw [if_pos (tB_true ((leaf_asc h).2 hA)), if_neg (by rw [tB_false (fun h3 => hF ((leaf_fill h).1 h3))]; decide), if_pos (tB_true hA), if_neg hF]
    exact ⟨rfl, by decide⟩
  · rw [if_neg (by rw [tB_false (fun h3 => hA ((leaf_asc h).1 h3))]; decide), if_neg (by rw [tB_false hA]; decide)]
    exact ⟨rfl, by decide⟩
theorem two_at {d : NodeD} {ls : List (Tr.T 0)} : ∀ j, j ≤ ls.length → BfsR (two d ls) (two d ls :: (two d ls).kids) (j + 1)
  | 0, _ => BfsR.step (Q := [two d ls]) .start rfl
  | j + 1, hj => by
    have h1 := two_at (d := d) (ls := ls) j (by omega)
    have h2 : (two d ls :: (two d ls).kids)[j + 1]? = some ⟨0, ls[j]⟩ := by
      show (two d ls).kids[j]? = _
      rw [two_kids, List.getElem?_map, List.getElem?_eq_getElem (by omega)]
      rfl
    have h3 := BfsR.step h1 h2
    rw [show (⟨0, ls[j]⟩ : AT).kids = [] from rfl, List.append_nil] at h3
    exact h3
theorem two_leaf {d : NodeD} {ls : List (Tr.T 0)} (h : Two d ls) (hall : AllGood (two d ls)) {j : Nat} {E : List EntD} (hE : (ls.map fun l => l.2)[j]? = some E) : AscK (keysOf E) ∧ (3 ≤ E.length ∧ E.length ≤ 6) := by
  rw [List.getElem?_map] at hE
  obtain ⟨l, hl, rfl⟩ := Option.map_eq_some_iff.1 hE
  have hj := (List.getElem?_eq_some_iff.1 hl).1
  refine (leaf_good (h.lf l (List.mem_of_getElem? hl))).1 (hall _ (j + 1) ⟨0, l⟩ (two_at j (by omega)) ?_)
  show (two d ls).kids[j]? = _
  rw [two_kids, List.getElem?_map, hl]
  rfl
theorem two_wrong {d : NodeD} {ls : List (Tr.T 0)} {n r : Int} (h : Two d ls) (hr : TreeR (two d ls) n (ls.map fun l => l.2).flatten r) : r = wrongP (ls.map fun l => l.2) d.Ks n := by
  have hlen : (ls.map fun l => l.2).length = ls.length := List.length_map ..
  unfold wrongP
  rcases hr with ⟨P, i, b, hP, hb, hprev, hbad, rfl⟩ | ⟨hall, rfl⟩
  · rcases two_bfs hP with ⟨rfl, rfl⟩ | ⟨hi, rfl⟩
    · obtain rfl := Option.some.inj hb
      rw [show (decide ((0 : Nat) = 0)) = true from rfl] at hbad ⊢
      unfold codeN
      rw [show (nd (two d ls).h (two d ls).t).Ks = d.Ks from rfl]
      by_cases hA : AscK d.Ks
      · rw [if_pos (tB_true hA), if_pos (tB_true hA)]
        by_cases hF : 2 ≤ ls.length ∧ ls.length ≤ 6
        · rw [if_pos (tB_true ((two_fill h).2 hF)), if_pos (by rw [hlen]; exact hF), if_neg (by rw [tB_false (fun h3 => hbad ((two_good h).2 ⟨hA, hF, h3⟩))]; decide)]
        · rw [if_neg (by rw [tB_false (fun h3 => hF ((two_fill h).1 h3))]; decide), if_neg (by rw [hlen]; exact hF)]
      · rw [if_neg (by rw [tB_false hA]; decide), if_neg (by rw [tB_false hA]; decide)]
    · obtain ⟨m, rfl⟩ : ∃ m, i = m + 1 := ⟨i - 1, by omega⟩
      have hroot := (two_good h).1 (hprev 0 (by omega) [two d ls] (two d ls) .start rfl)
      obtain ⟨hA, hF, hFs⟩ := hroot
      rw [if_pos (tB_true hA), if_pos (by rw [hlen]; exact hF), if_pos (tB_true hFs)]
      have hb' : (two d ls).kids[m]? = some b := hb
      rw [two_kids, List.getElem?_map] at hb'
      obtain ⟨l, hl, rfl⟩ := Option.map_eq_some_iff.1 hb'
      rw [show (decide (m + 1 = 0)) = false from rfl] at hbad ⊢
      have hlf := h.lf l (List.mem_of_getElem? hl)
      have hEl : (ls.map fun l => l.2)[m]? = some l.2 := by rw [List.getElem?_map, hl]; rfl
      have hdr : (ls.map fun l => l.2).drop m = l.2 :: (ls.map fun l => l.2).drop (m + 1) := by
        obtain ⟨q1, q2⟩ := List.getElem?_eq_some_iff.1 hEl
        rw [List.drop_eq_getElem_cons q1, q2]
      obtain ⟨c1, c2⟩ := codeN_leaf hlf hbad ((ls.map fun l => l.2).drop (m + 1))
      rw [badL_drop _ m (fun j E hj hE => by
        rw [List.getElem?_map] at hE
        obtain ⟨l', hl', rfl⟩ := Option.map_eq_some_iff.1 hE
        obtain ⟨P2, b2, S2, q1, q2, _⟩ := bfs_at hP (j + 1) (by omega)
        rcases two_bfs q1 with ⟨e, _⟩ | ⟨_, rfl⟩
        · omega
        · have q3 : (two d ls).kids[j]? = some b2 := q2
          rw [two_kids, List.getElem?_map, hl'] at q3
          obtain rfl := Option.some.inj q3
          exact (leaf_good (h.lf l' (List.mem_of_getElem? hl'))).1 (hprev (j + 1) (by omega) _ _ q1 q2)), hdr, if_neg c2]
      exact c1
  · have hroot := (two_good h).1 (hall [two d ls] 0 (two d ls) .start rfl)
    obtain ⟨hA, hF, hFs⟩ := hroot
    have hstep : BfsR (two d ls) ([two d ls] ++ (two d ls).kids) 1 := .step .start rfl
    rw [if_pos (tB_true hA), if_pos (by rw [hlen]; exact hF), if_pos (tB_true hFs), if_pos (badL_all fun j E hE => two_leaf h hall hE)]
    rfl
/-- If all is well, the entries are gone through as in any tree. -/
theorem two_end {d : NodeD} {ls : List (Tr.T 0)} (h : Two d ls) (hbd : ∀ l ∈ ls, ∀ e ∈ l.2, e.k.Bd) (hall : AllGood (two d ls)) :
    LvO (some (two d ls)) ⟨0, 0, 0⟩ ls ∧ UpTo maxK (rows ls) ∧ rows ls = (ls.map fun l => l.2).flatten ∧ win ⟨0, 0, 0⟩ maxK (rows ls) = (ls.map fun l => l.2).flatten := by
  have hroot := (two_good h).1 (hall [two d ls] 0 (two d ls) .start rfl)
  obtain ⟨hA, hF, hFs⟩ := hroot
  have hgl : ∀ l ∈ ls, AscK (keysOf l.2) ∧ (3 ≤ l.2.length ∧ l.2.length ≤ 6) := fun l hl => by
    obtain ⟨j, hj⟩ := List.getElem?_of_mem hl
    exact two_leaf h hall (j := j) (by rw [List.getElem?_map, hj]; rfl)
  have hKs : d.Ks = (ls.map (nd 0)).map fun x => x.Ks.getD 0 default := by
    refine List.ext_getElem? fun i => ?_
    by_cases hi : i < ls.length
    · obtain ⟨l, hl⟩ : ∃ l, ls[i]? = some l := ⟨ls[i], List.getElem?_eq_getElem hi⟩
      obtain ⟨h2, h3⟩ := lf_fst (h.lf l (List.mem_of_getElem? hl))
      obtain ⟨f1, f2⟩ := hFs i l.2 (by rw [List.getElem?_map, hl]; rfl)
      rw [List.getElem?_map, List.getElem?_map, hl]
      have hk : d.Ks[i]? = some (d.Ks.getD i default) := by
        rw [List.getD_eq_getElem?_getD, List.getElem?_eq_getElem (by rw [h.Kl]; exact hi)]
        rfl
      rw [hk, ← f2, ← h3 f1]
      rfl
    · rw [List.getElem?_eq_none (by rw [h.Kl]; omega), List.getElem?_eq_none (by rw [List.length_map, List.length_map]; omega)]
  have hok : Tr.Ok 1 ((d, ls) : NodeD × List (Tr.T 0)) := ⟨⟨h.ok, h.leaf, hKs, h.Vs, h.Cs, h.a⟩, (by show 0 < ls.length; omega), fun k hk => ⟨h.lf k hk, by have := (hgl k hk).2.1; omega⟩⟩
  have hrt : Tr.Root 1 ((d, ls) : NodeD × List (Tr.T 0)) := ⟨hF.1, hF.2, fun k hk => (hgl k hk).2⟩
  have hks : KsAsc 1 ((d, ls) : NodeD × List (Tr.T 0)) := ⟨hA, fun c hc => (leaf_asc (h.lf c hc)).2 (hgl c hc).1⟩
  have hlv : lvs 1 ((d, ls) : NodeD × List (Tr.T 0)) = ls := by
    show (ls.map (lvs 0)).flatten = ls
    have : ∀ l : List (Tr.T 0), (l.map (lvs 0)).flatten = l := fun l => by
      induction l with
      | nil => rfl
      | cons x l ih => show [x] ++ _ = _; rw [ih]; rfl
    exact this ls
  have hents : ents 1 ((d, ls) : NodeD × List (Tr.T 0)) = (ls.map fun l => l.2).flatten := rfl
  have hrows : rows ls = (ls.map fun l => l.2).flatten := rfl
  have hbe : ∀ e ∈ (ls.map fun l => l.2).flatten, e.k.Bd := fun e he => by
    obtain ⟨E, hE, heE⟩ := List.mem_flatten.1 he
    obtain ⟨l, hl, rfl⟩ := List.mem_map.1 hE
    exact hbd l hl e heE
  have hlf := lf_zero 1 ((d, ls) : NodeD × List (Tr.T 0)) hok hks (by rw [hents]; exact hbe)
  rw [hlv] at hlf
  refine ⟨⟨⟨hok, hrt, hks, st_der _⟩, (by show 1 ≤ 12; omega), hlf⟩, upTo_max fun e he => ?_, hrows, by rw [hrows]; exact win_all0 hbe⟩
  have hb := hbe e (by rw [← hrows]; exact he)
  have h1 := hb.v; have h2 := hb.b; have h3 := hb.s
  unfold klt maxK
  dsimp only
  omega
end Go.Proofs.Ytahfjkibononfaa.Ck

