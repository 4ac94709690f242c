/- maps.Keys, and what is made of it (uint32). -/
import Derived.Test.YtdkgmgfadpnhbaaGxR
import Derived.Test.YtdkgmgfadpnhbaaSoU5
namespace Go.Proofs.Ytdkgmgfadpnhbaa.KyU
open Go.RowKit Mem Gx Gm Pq SoU
set_option linter.unusedVariables false
set_option linter.unusedSimpArgs false
set_option maxRecDepth 100000
set_option maxHeartbeats 1000000
theorem elt_K : Elt Try.prog 85 87 1 4 := Elt.mk' (z := .int .u32 0) Try.underlying85 (by kernel_rfl) rfl (by decide)
theorem oneK : ∀ (x : Int) (j : Nat), ((IE .u32) x j).oneCell' = true := by intro x j; rfl
theorem keys_any (mv : Value) (hmv : ∃ b, mv = .map b) (w : World) :
    Calls Try.prog 140 [mv].toArray w (Ret (fun _ : Nat => True) (fun s => .func (.func 176) #[] #[.pointer (some ⟨s, 0, none⟩)]) (fun s => [blk s [mv] 81]) w) := by
  obtain ⟨b, rfl⟩ := hmv
  refine g_enter0 T [] [] [] Try.func140 rfl Try.ntmps140 rfl (Kn.start _) ?_
  (repeat (refine gG ?_; try intro _))
  rename_i g1
  refine g_yd rfl rfl (Ys.yd (ys_makeFuncB rfl rfl rfl)) ?_
  (repeat (refine gG ?_; try intro _))
  refine gk_ret hT rfl rfl (.tmp rfl .nil) (fun w' hk => ?_)
  exact Ret.mk g1 trivial rfl hk sA
/-- Keys that have come, and their places. -/
structure GoodK (M : List (Int × Value)) (q : List Nat × List (Int)) : Prop where
  nd : q.1.Nodup
  lt : ∀ i, i ∈ q.1 → i < M.length
  pm : q.2.Perm (q.1.filterMap fun i => (M[i]?).map (·.1))
theorem good_nil (M : List (Int × Value)) : GoodK M ([], []) := ⟨List.nodup_nil, fun i h => (by cases h), List.Perm.refl _⟩
theorem GoodK.step {M : List (Int × Value)} {Q : List Nat} {ys : List (Int)} {i : Nat} {x : Int} {v : Value} (g : GoodK M (Q, ys)) (hi : M[i]? = some (x, v)) (hq : i ∉ Q) : GoodK M (i :: Q, ys ++ [x]) :=
  ⟨List.nodup_cons.2 ⟨hq, g.nd⟩, fun j hj => by
    rcases List.mem_cons.1 hj with rfl | hj
    · exact (List.getElem?_eq_some_iff.1 hi).1
    · exact g.lt j hj, by
    have e : (i :: Q).filterMap (fun i => (M[i]?).map (·.1)) = x :: Q.filterMap (fun i => (M[i]?).map (·.1)) := by rw [List.filterMap_cons, hi]; rfl
    show (ys ++ [x]).Perm ((i :: Q).filterMap fun i => (M[i]?).map (·.1))
    rw [e]
    exact (List.perm_append_singleton x ys).trans (g.pm.cons x)⟩
theorem range_keys (M : List (Int × Value)) (k : Nat) (hk : k ≤ M.length) : (List.range k).filterMap (fun i => (M[i]?).map (·.1)) = (M.take k).map (·.1) := by
  induction k with
  | zero => rfl
  | succ k ih =>
    have e : M[k]? = some M[k] := List.getElem?_eq_getElem (by omega)
    rw [List.range_succ, List.filterMap_append, ih (by omega), List.take_succ_eq_append_getElem (by omega), List.map_append, List.filterMap_cons, e]
    rfl
theorem GoodK.fin {M : List (Int × Value)} {q : List Nat × List (Int)} (g : GoodK M q) (h : ∀ i, i < M.length → i ∈ q.1) : q.2.Perm (M.map (·.1)) := by
  have h1 : q.1.Perm (List.range M.length) := (List.perm_ext_iff_of_nodup g.nd List.nodup_range).2 fun i => by
    rw [List.mem_range]
    exact ⟨g.lt i, h i⟩
  have h2 := range_keys M M.length (Nat.le_refl _)
  rw [List.take_length] at h2
  rw [← h2]
  exact g.pm.trans (h1.filterMap _)
abbrev LbK (M : List (Int × Value)) := { q : List Nat × List (Int) // GoodK M q }
/-- A key that hasn't come comes. -/
def StK (M : List (Int × Value)) (q : LbK M) (x : Int) (q' : LbK M) : Prop := ∃ i v, M[i]? = some (x, v) ∧ i ∉ q.1.1 ∧ q'.1 = (i :: q.1.1, q.1.2 ++ [x])
def FinK (M : List (Int × Value)) (q : LbK M) : Prop := ∀ i, i < M.length → i ∈ q.1.1
theorem keys_iter (M : List (Int × Value)) (B : List Nat) (ck r bt : Nat) (w1 : World) (hB : Rds w1 [blk bt [.map (some r)] 81, mpc r (Value.int .u32) M B ck]) :
    IterG Try.prog 176 [.pointer (some ⟨bt, 0, none⟩)] (fun x : Int => [(Value.int .u32) x]) (StK M) ⟨([], []), good_nil M⟩ (FinK M) [blk bt [.map (some r)] 81, mpc r (Value.int .u32) M B ck] w1 := by
  intro l τ Γ Iv Dn t0 h0 hΓ hdis hY
  refine g_enter0 T (finE (Γ t0) w1) [Γ t0] [blk bt [.map (some r)] 81, mpc r (Value.int .u32) M B ck] Try.func176 rfl Try.ntmps176 rfl (Kn.startM hΓ (fun b hb => (finE_mem hΓ.2 b).2 hb) (fun ψ hψ => ⟨hB.mem hψ, fun b h1 => hdis ψ hψ b h1⟩)) ?_
  refine gk_rowR (g := bt) mE ?_
  (repeat (refine gG ?_; try intro _))
  refine g_mv rfl (mv_rangeR rfl rfl rfl Try.underlying81 mE (fun it => ?_))
  (repeat (refine gG ?_; try intro _))
  refine gk_loop_sel (fun (q : (List Nat) × (List (Int)) × τ) => match q with | (Q, ys, t) => (∃ g, Iv ⟨(Q, ys), g⟩ t)) (fun (q : (List Nat) × (List (Int)) × τ) => match q with | (Q, ys, t) => [(0, .func (.yield l) #[] #[]), (1, .pointer (some ⟨bt, 0, none⟩)), (5, .pointer (some ⟨it, 0, none⟩))]) (fun (q : (List Nat) × (List (Int)) × τ) => match q with | (Q, ys, t) => [itr it r B ck Q, Γ t]) (fun (q : (List Nat) × (List (Int)) × τ) => match q with | (Q, ys, t) => [blk bt [.map (some r)] 81, mpc r (Value.int .u32) M B ck]) (fun (q : (List Nat) × (List (Int)) × τ) => match q with | (Q, ys, t) => leftN M.length Q) ([], [], t0) rfl ⟨good_nil M, h0⟩ (by repeat (first | exact trivial | refine ⟨rfl, ?_⟩)) sA sS ?_
  rintro ⟨Q, ys, t⟩ hI
  replace hI : (∃ g, Iv ⟨(Q, ys), g⟩ t) := hI
  change GK _ _ [(0, .func (.yield l) #[] #[]), (1, .pointer (some ⟨bt, 0, none⟩)), (5, .pointer (some ⟨it, 0, none⟩))] [itr it r B ck Q, Γ t] [blk bt [.map (some r)] 81, mpc r (Value.int .u32) M B ck]
  obtain ⟨g, hI⟩ := hI
  (repeat (refine gG ?_; try intro _))
  refine g_mv rfl (mv_nextR rfl rfl rfl mE (by intro _; first | ((repeat (first | with_reducible exact Upd.here _ | with_reducible apply Upd.there)); done) | ((repeat (first | exact Upd.here _ | apply Upd.there)); done) | fail) (fun hall => ?_) (fun i x v hi hq => ?_))
  · (repeat' (first | (refine gG ?_; try intro _) | ((first | refine g_split rfl rfl tE (fun _ => ?_) (fun _ => ?_) | refine gk_cond rfl rfl tE (fun _ => ?_) (fun _ => ?_)) <;> (try first | (exfalso; omega; done) | (rename_i hx; exact absurd rfl hx) | (rename_i hx; cases hx; done)))))
    refine gk_fin hT rfl rfl .nil (fun w' hk => ?_)
    exact ⟨⟨_, rfl⟩, t, hk.outM (fun b hb => finE_in b hb) mE, .inl ⟨⟨(Q, ys), g⟩, hall, hI⟩⟩
  · (repeat' (first | (refine gG ?_; try intro _) | ((first | refine g_split rfl rfl tE (fun _ => ?_) (fun _ => ?_) | refine gk_cond rfl rfl tE (fun _ => ?_) (fun _ => ?_)) <;> (try first | (exfalso; omega; done) | (rename_i hx; exact absurd rfl hx) | (rename_i hx; cases hx; done)))))
    refine g_mv rfl (mv_entryR rfl rfl rfl mE mE hi ?_)
    refine g_say 8 (.tuple #[(Value.int .u32) x, v]) rfl rfl ?_
    (repeat (refine gG ?_; try intro _))
    refine g_yield Γ t (fun b t2 => (b = true → Iv ⟨(i :: Q, ys ++ [x]), g.step hi hq⟩ t2) ∧ (b = false → Dn t2)) rfl rfl rfl rfl rfl rfl (fun w hk => hY ⟨(Q, ys), g⟩ x ⟨(i :: Q, ys ++ [x]), g.step hi hq⟩ t w ⟨i, v, hi, hq, rfl⟩ hI (hk.outM (fun b hb => finE_in b hb) mE)) (by intro _; first | ((repeat (first | with_reducible exact Upd.here _ | with_reducible apply Upd.there)); done) | ((repeat (first | exact Upd.here _ | apply Upd.there)); done) | fail) (fun b t2 hJ => ?_)
    have hlt := leftN_lt (List.getElem?_eq_some_iff.1 hi).1 hq
    cases b with
    | true =>
      (repeat (refine gG ?_; try intro _))
      refine gk_again_sel rfl (i :: Q, ys ++ [x], t2) ⟨g.step hi hq, hJ.1 rfl⟩ (by dsimp only; omega) (by repeat (first | exact trivial | refine ⟨rfl, ?_⟩)) sA sS
    | false =>
      (repeat (refine gG ?_; try intro _))
      refine gk_ret hT rfl rfl .nil (fun w' hk => ?_)
      exact ⟨⟨_, rfl⟩, t2, hk.outM (fun b hb => finE_in b hb) mE, .inr (hJ.2 rfl)⟩
theorem keys_iter_nil (bt : Nat) (w1 : World) (hB : Rds w1 [blk bt [.map none] 81]) :
    IterG Try.prog 176 [.pointer (some ⟨bt, 0, none⟩)] (fun x : Int => [(Value.int .u32) x]) (StK []) ⟨([], []), good_nil []⟩ (FinK []) [blk bt [.map none] 81] w1 := by
  intro l τ Γ Iv Dn t0 h0 hΓ hdis hY
  refine g_enter0 T (finE (Γ t0) w1) [Γ t0] [blk bt [.map none] 81] Try.func176 rfl Try.ntmps176 rfl (Kn.startM hΓ (fun b hb => (finE_mem hΓ.2 b).2 hb) (fun ψ hψ => ⟨hB.mem hψ, fun b h1 => hdis ψ hψ b h1⟩)) ?_
  refine gk_rowR (g := bt) mE ?_
  (repeat (refine gG ?_; try intro _))
  refine g_mv rfl (mv_rangeN rfl rfl rfl Try.underlying81 (fun it => ?_))
  (repeat (refine gG ?_; try intro _))
  refine gk_loop_sel (fun (q : Nat × Unit) => match q with | (Q, z) => True) (fun (q : Nat × Unit) => match q with | (Q, z) => [(5, .pointer (some ⟨it, 0, none⟩))]) (fun (q : Nat × Unit) => match q with | (Q, z) => [itn it, Γ t0]) (fun (q : Nat × Unit) => match q with | (Q, z) => []) (fun (q : Nat × Unit) => match q with | (Q, z) => 1) (0, ()) rfl trivial (by repeat (first | exact trivial | refine ⟨rfl, ?_⟩)) sA sS ?_
  rintro ⟨Q, z⟩ hI
  replace hI : True := hI
  change GK _ _ [(5, .pointer (some ⟨it, 0, none⟩))] [itn it, Γ t0] []
  (repeat (refine gG ?_; try intro _))
  refine g_mv rfl (mv_nextN rfl rfl rfl mE ?_)
  (repeat' (first | (refine gG ?_; try intro _) | ((first | refine g_split rfl rfl tE (fun _ => ?_) (fun _ => ?_) | refine gk_cond rfl rfl tE (fun _ => ?_) (fun _ => ?_)) <;> (try first | (exfalso; omega; done) | (rename_i hx; exact absurd rfl hx) | (rename_i hx; cases hx; done)))))
  refine gk_fin hT rfl rfl .nil (fun w' hk => ?_)
  exact ⟨⟨_, rfl⟩, t0, hk.outM (fun b hb => finE_in b hb) mE, .inl ⟨⟨([], []), good_nil []⟩, fun i hi => absurd hi (Nat.not_lt_zero _), h0⟩⟩
theorem rds_of {w : World} : ∀ {l : List Fact}, (∀ φ, φ ∈ l → Rd1 w φ) → Rds w l
  | [], _ => .nil
  | _ :: _, h => .cons (h _ (.head _)) (rds_of fun φ hφ => h φ (.tail _ hφ))
theorem Kn.rds {E : List Nat} {w0 w : World} {O R l : List Fact} (h : Kn E w0 w O R) (hl : l ⊆ R) : Rds w l := rds_of fun φ hφ => h.rR (hl hφ)
theorem app_any {κ : Type} (gf : Nat) (caps : List Value) (St : κ → Int → κ → Prop) (k0 : κ) (Fin : κ → Prop) (lst : κ → List (Int)) (RA : List Fact) (w : World) (hok : callable Try.prog gf = true) (hB : Rds w RA) (hit : ∀ w', Rds w' RA → IterG Try.prog gf caps (fun x : Int => [(Value.int .u32) x]) St k0 Fin RA w') (h0 : lst k0 = []) (hst : ∀ q x q', St q x q' → lst q' = lst q ++ [x]) (h9 : ∀ q x q', St q x q' → (lst q).length ≤ 10000) :
    Calls Try.prog 191 [.slice none 0 0, .func (.func gf) #[] caps.toArray].toArray w (Ret (fun s : Value × List (Int) => ∃ q, Fin q ∧ s.2 = lst q) (fun s => s.1) (fun s => [own 0 87 1 s.1 (IE .u32) s.2]) w) := by
  refine g_enter0 T [] [] RA Try.func191 rfl Try.ntmps191 rfl hB.kn ?_
  (repeat (refine gG ?_; try intro _))
  rename_i g3
  refine gk_own 0 87 1 (IE .u32) ?_
  refine gk_rangeG (κ := κ) (σ := Value × List (Int)) (σx := Unit) (α := Int) (enc := fun x : Int => [(Value.int .u32) x]) (St := St) (k0 := k0) (Fin := Fin) (RA := RA) (pl := [7]) (gf := gf) (caps := caps) (fun q s => s.2 = lst q) (fun s => [blk g3 [s.1] 85, own 0 87 1 s.1 (IE .u32) s.2]) (fun _ _ => False) (fun _ _ => []) (.slice none 0 0, []) [] rfl rfl hok rfl (fun _ => rfl) (fun w hk => hit w (Kn.rds hk (List.Subset.refl _))) (List.Subset.refl _) h0.symm sA (fun L q q' x s w hX hRc hI hOO hOut hOX hx hi hup => ?_) (fun D s q hfq hi => ?_) (fun D c y h => h.elim)
  · obtain ⟨X', l, D, rc, Inv', OO', Out', OX'⟩ := L
    dsimp only at hX hI hOO hOut hOX
    subst hX hI hOO hOut hOX
    obtain ⟨v, N⟩ := s
    dsimp only at hi
    subst hi
    have h10 := h9 q x q' hx
    change GK _ _ _ [recF l (rc .ready none), dfr D, blk g3 [v] 85, own 0 87 1 v (IE .u32) (lst q)] _
    (repeat (refine gG ?_; try intro _))
    refine Gm.gk_begin rfl (by repeat (first | with_reducible exact Sel.here | with_reducible apply Sel.there)) (hRc.st _ _) (fun bF hbF => ?_)
    (repeat (refine gG ?_; try intro _))
    refine g_mv rfl (mv_append (L := lst q) rfl [x] rfl rfl rfl rfl elt_K (by intro _; first | ((repeat (first | with_reducible exact Upd.here _ | with_reducible apply Upd.there)); done) | ((repeat (first | exact Upd.here _ | apply Upd.there)); done) | fail) (src_blk mE rfl) rfl oneK (by simp only [maxLen, List.length_cons, List.length_nil]; omega) (by simp only [List.length_cons, List.length_nil]; omega) (Nat.zero_le _) (fun v1 => ?_))
    refine g_ownv v1 mE (fun A1 c1 hv1 _ _ _ => ?_)
    subst hv1
    (repeat (refine gG ?_; try intro _))
    refine Gm.gk_round hRc (.slice A1 (lst q ++ [x]).length c1, lst q ++ [x]) rfl (hst q x q' hx).symm [blk g3 [.slice A1 (lst q ++ [x]).length c1] 85, own 0 87 1 (.slice A1 (lst q ++ [x]).length c1) (IE .u32) (lst q ++ [x])] rfl hbF sA
  · obtain ⟨v, N⟩ := s
    dsimp only at hi
    subst hi
    change GK _ _ _ [dfr D, blk g3 [v] 85, own 0 87 1 v (IE .u32) (lst q)] _
    (repeat (refine gG ?_; try intro _))
    refine gk_retM hT (.cons (by repeat (first | with_reducible exact Sel.here | with_reducible apply Sel.there)) .nil) rfl rfl (.tmp rfl .nil) (fun w' hk => ?_)
    exact Ret.mk (v, lst q) ⟨q, hfq, rfl⟩ rfl hk sA
theorem collect_any {κ : Type} (gf : Nat) (caps : List Value) (St : κ → Int → κ → Prop) (k0 : κ) (Fin : κ → Prop) (lst : κ → List (Int)) (RA : List Fact) (w : World) (hok : callable Try.prog gf = true) (hB : Rds w RA) (hit : ∀ w', Rds w' RA → IterG Try.prog gf caps (fun x : Int => [(Value.int .u32) x]) St k0 Fin RA w') (h0 : lst k0 = []) (hst : ∀ q x q', St q x q' → lst q' = lst q ++ [x]) (h9 : ∀ q x q', St q x q' → (lst q).length ≤ 10000) :
    Calls Try.prog 175 [.func (.func gf) #[] caps.toArray].toArray w (Ret (fun s : Value × List (Int) => ∃ q, Fin q ∧ s.2 = lst q) (fun s => s.1) (fun s => [own 0 87 1 s.1 (IE .u32) s.2]) w) := by
  refine g_enter0 T [] [] RA Try.func175 rfl Try.ntmps175 rfl hB.kn ?_
  (repeat (refine gG ?_; try intro _))
  refine g_mv rfl ?_; refine mv_call_rt (fun w hk => by exact app_any gf caps St k0 Fin lst RA w hok (Kn.rds hk (List.Subset.refl _)) hit h0 hst h9) rfl rfl rfl rfl rfl (by kernel_rfl) (fun _ => rfl) (fun s hs => ?_)
  (repeat (refine gG ?_; try intro _))
  refine gk_ret hT rfl rfl (.tmp rfl .nil) (fun w' hk => ?_)
  exact Ret.mk s hs rfl hk sA
theorem sorted_any {κ : Type} (gf : Nat) (caps : List Value) (St : κ → Int → κ → Prop) (k0 : κ) (Fin : κ → Prop) (lst : κ → List (Int)) (RA : List Fact) (w : World) (hok : callable Try.prog gf = true) (hB : Rds w RA) (hit : ∀ w', Rds w' RA → IterG Try.prog gf caps (fun x : Int => [(Value.int .u32) x]) St k0 Fin RA w') (h0 : lst k0 = []) (hst : ∀ q x q', St q x q' → lst q' = lst q ++ [x]) (h9 : ∀ q x q', St q x q' → (lst q).length ≤ 10000) (hfl : ∀ q, Fin q → (lst q).length ≤ 100000) :
    Calls Try.prog 139 [.func (.func gf) #[] caps.toArray].toArray w (Ret (fun s : Value × List (Int) => (∃ q, Fin q ∧ s.2.Perm (lst q)) ∧ SortedIn lt 0 s.2.length s.2) (fun s => s.1) (fun s => [own 0 87 1 s.1 (IE .u32) s.2]) w) := by
  refine g_enter0 T [] [] RA Try.func139 rfl Try.ntmps139 rfl hB.kn ?_
  (repeat (refine gG ?_; try intro _))
  refine g_mv rfl ?_; refine mv_call_rt (fun w hk => by exact collect_any gf caps St k0 Fin lst RA w hok (Kn.rds hk (List.Subset.refl _)) hit h0 hst h9) rfl rfl rfl rfl rfl (by kernel_rfl) (fun _ => rfl) (fun s hs => ?_)
  obtain ⟨v, N⟩ := s
  obtain ⟨q, hfq, hN⟩ := hs
  dsimp only at hN ⊢
  have hl := hfl q hfq
  rw [← hN] at hl
  (repeat (refine gG ?_; try intro _))
  refine g_mv rfl (mv_call_mod (φ := own 0 87 1 v (IE .u32) N) (ψ := fun L' : List (Int) => own 0 87 1 v (IE .u32) L') (fun w1 hk => by exact sort_any v N w1 (by omega) (hk.rO (φ := own 0 87 1 v (IE .u32) N) mE)) rfl rfl rfl rfl rfl (by kernel_rfl) (by intro _; first | ((repeat (first | with_reducible exact Upd.here _ | with_reducible apply Upd.there)); done) | ((repeat (first | exact Upd.here _ | apply Upd.there)); done) | fail) (fun S hS => ?_))
  (repeat (refine gG ?_; try intro _))
  refine gk_ret hT rfl rfl (.tmp rfl .nil) (fun w' hk => ?_)
  exact Ret.mk (v, S) ⟨⟨q, hfq, by rw [← hN]; exact hS.1⟩, by rw [hS.1.length_eq]; exact hS.2⟩ rfl hk sA
end Go.Proofs.Ytdkgmgfadpnhbaa.KyU

