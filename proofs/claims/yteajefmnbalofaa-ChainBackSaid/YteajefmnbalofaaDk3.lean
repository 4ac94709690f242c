/- Late writes that may be are done. -/
import Derived.Test.YteajefmnbalofaaDk2
namespace Go.Proofs.Yteajefmnbalofaa.Dk
open Go.RowKit Mem Gx Bytes
set_option linter.unusedVariables false
set_option linter.unusedSimpArgs false
set_option maxRecDepth 100000
set_option maxHeartbeats 1000000
theorem rds_ofA {w : World} : ∀ {l : List Fact}, (∀ φ, φ ∈ l → Rd1 w φ) → Rds w l
  | [], _ => .nil
  | φ :: l, h => .cons (h φ (.head _)) (rds_ofA fun ψ hψ => h ψ (.tail _ hψ))
theorem rds_ofK {E : List Nat} {w0 w : World} {O R : List Fact} (h : Kn E w0 w O R) : Rds w R := rds_ofA fun φ hφ => h.rR hφ
abbrev WrD.c (x : WrD) : Wr := (x.a, x.d.L)
theorem each_any (g : Nat) (sv0 lv : Value) (S0 : List SecD) (W : List WrD) (fm : Nat) (caps : List Value) (p : Nat → Bool) (RM : List Fact) (w : World) (hS : ∀ d ∈ S0, d.Ok) (hW : ∀ x ∈ W, x.d.Ok ∧ x.a < S0.length) (hn : S0.length ≤ 4096) (hl : W.length ≤ 100000) (hok : callable Try.prog fm = true)
    (hmay : ∀ i w', i < W.length → Rds w' RM → Calls Try.prog fm (.int .i64 (i : Nat) :: caps).toArray w' fun e w'' => e = .returned (.bool (p i)) ∧ Below w'.heap.size w' w'')
    (h : Rd1 w (dkF g ⟨sv0, lv, S0, W⟩)) (hR : ∀ ψ, ψ ∈ RM → Rd1 w ψ ∧ ∀ b, (dkF g ⟨sv0, lv, S0, W⟩).S b → ¬ ψ.S b) :
    Calls Try.prog 42 [.pointer (some ⟨g, 0, none⟩), .func (.func fm) #[] caps.toArray, .func (.func 44) #[.pointer (some ⟨g, 0, none⟩)] #[]].toArray w (RetM (dkF g ⟨sv0, lv, S0, W⟩) (fun q : Value × List SecD => (∀ d ∈ q.2, d.Ok) ∧ q.2.length = S0.length ∧ q.2.map SecD.L = eachC p 0 (W.map WrD.c) (S0.map SecD.L)) (fun _ => .tuple #[]) (fun q => dkF g ⟨q.1, .slice none 0 0, q.2, []⟩) w) := by
  obtain ⟨lA, lc, rfl, _, _, _, _⟩ := own_rdv (α := WrD) (Rd1.unpack h (φ := own 0 118 2 lv WE W) (.tail _ (.tail _ (.head _))))
  have hk0 : Kn (finE (dkF g ⟨sv0, .slice lA W.length lc, S0, W⟩) w) w w (dkL g ⟨sv0, .slice lA W.length lc, S0, W⟩) RM := Kn.startP h (fun b hb => (dk_fin g _ h b).2 hb) hR
  have hfin : ∀ b, b ∈ finE (dkF g ⟨sv0, .slice lA W.length lc, S0, W⟩) w → (dkF g ⟨sv0, .slice lA W.length lc, S0, W⟩).S b := fun b hb => (dk_fin g _ h b).1 hb
  refine g_enter0 T (finE (dkF g ⟨sv0, .slice lA W.length lc, S0, W⟩) w) [blk g [sv0, .slice lA W.length lc, .bool false, .int .i64 0] 75, own 0 36 1 sv0 SE S0, own 0 118 2 (.slice lA W.length lc) WE W, allF S0 secF, allF W wrF] RM Try.func42 rfl Try.ntmps42 rfl hk0 ?_
  (repeat (refine gG ?_; try intro _))
  refine gk_loop_sel (fun (q : Value × (List SecD) × Nat) => match q with | (sv, S, i) => (i ≤ W.length ∧ (∀ d ∈ S, d.Ok) ∧ S.length = S0.length ∧ S.map SecD.L = eachC p 0 ((W.map WrD.c).take i) (S0.map SecD.L))) (fun (q : Value × (List SecD) × Nat) => match q with | (sv, S, i) => [(0, .pointer (some ⟨g, 0, none⟩)), (1, .func (.func fm) #[] caps.toArray), (2, .func (.func 44) #[.pointer (some ⟨g, 0, none⟩)] #[]), (11, .slice lA W.length lc), (12, .int .i64 W.length), (13, .int .i64 i)]) (fun (q : Value × (List SecD) × Nat) => match q with | (sv, S, i) => [blk g [sv, .slice lA W.length lc, .bool false, .int .i64 0] 75, own 0 36 1 sv SE S, own 0 118 2 (.slice lA W.length lc) WE W, allF S secF, allF W wrF]) (fun (q : Value × (List SecD) × Nat) => match q with | (sv, S, i) => RM) (fun (q : Value × (List SecD) × Nat) => match q with | (sv, S, i) => W.length - i) (sv0, S0, 0) rfl ⟨Nat.zero_le _, hS, rfl, rfl⟩ (by repeat (first | exact trivial | refine ⟨rfl, ?_⟩)) sA sS ?_
  rintro ⟨sv, S, i⟩ hI
  replace hI : (i ≤ W.length ∧ (∀ d ∈ S, d.Ok) ∧ S.length = S0.length ∧ S.map SecD.L = eachC p 0 ((W.map WrD.c).take i) (S0.map SecD.L)) := hI
  change GK _ _ [(0, .pointer (some ⟨g, 0, none⟩)), (1, .func (.func fm) #[] caps.toArray), (2, .func (.func 44) #[.pointer (some ⟨g, 0, none⟩)] #[]), (11, .slice lA W.length lc), (12, .int .i64 W.length), (13, .int .i64 i)] [blk g [sv, .slice lA W.length lc, .bool false, .int .i64 0] 75, own 0 36 1 sv SE S, own 0 118 2 (.slice lA W.length lc) WE W, allF S secF, allF W wrF] RM
  obtain ⟨hil, hSo, hSl, hSc⟩ := hI
  by_cases hlt : i < W.length
  · obtain ⟨x, hx⟩ : ∃ x, W[i]? = some x := ⟨W[i], List.getElem?_eq_getElem hlt⟩
    have hxm := List.mem_of_getElem? hx
    obtain ⟨hxo, hxa⟩ := hW x hxm
    have ht1 : (W.map WrD.c).take (i + 1) = (W.map WrD.c).take i ++ [x.c] := by
      have h1 : i < (W.map WrD.c).length := by rw [List.length_map]; exact hlt
      obtain ⟨h2, h3⟩ := List.getElem?_eq_some_iff.1 hx
      rw [List.take_succ_eq_append_getElem h1, List.getElem_map, h3]
    have htl : ((W.map WrD.c).take i).length = i := by rw [List.length_take, List.length_map]; omega
    have hnx : eachC p 0 ((W.map WrD.c).take (i + 1)) (S0.map SecD.L) = if p i = true then (S.map SecD.L).set x.a x.d.L else S.map SecD.L := by
      rw [ht1, eachC_snoc, ← hSc, htl, Nat.zero_add]
    obtain ⟨a, ⟨⟨xA, xn, xc⟩, L⟩⟩ := x
    have hxn : xn = L.length := hxo.s.n
    have hxk : SecOk L := hxo.k
    dsimp only at hxa hnx
    refine gk_own0 (.slice lA W.length lc) (L := W) mE (by omega) (fun lb lc2 hlv2 _ _ => ?_)
    injection hlv2 with e1 e2 e3
    subst e1 e3
    (repeat' (first | (refine gG ?_; try intro _) | ((first | refine g_split rfl rfl tE (fun _ => ?_) (fun _ => ?_) | refine gk_cond rfl rfl tE (fun _ => ?_) (fun _ => ?_)) <;> (try first | (exfalso; omega; done) | (rename_i hx; exact absurd rfl hx) | (rename_i hx; cases hx; done)))))
    refine g_mv rfl (mv_yd rfl ((ys_load_el (S := [own 0 118 2 (.slice (some ⟨lb, 0, none⟩) W.length lc) WE W]) (o0 := 0) (sz := 2) (enc := WE) (L := W) hT i ⟨a, ⟨⟨xA, xn, xc⟩, L⟩⟩ 0 rfl rfl rfl rfl hx (at_own mE) rfl rfl).ydS sF) ?_)
    (repeat (refine gG ?_; try intro _))
    rename_i g7
    cases hpi : p i with
    | false =>
      refine g_mv rfl (mv_callc_bel (fun w1 hk => by have := hmay i w1 hlt (rds_ofK hk); rwa [hpi] at this) rfl rfl rfl rfl rfl hok ?_)
      (repeat' (first | (refine gG ?_; try intro _) | ((first | refine g_split rfl rfl tE (fun _ => ?_) (fun _ => ?_) | refine gk_cond rfl rfl tE (fun _ => ?_) (fun _ => ?_)) <;> (try first | (exfalso; omega; done) | (rename_i hx; exact absurd rfl hx) | (rename_i hx; cases hx; done)))))
      rw [hpi] at hnx
      refine gk_again_sel rfl (sv, S, i + 1) ⟨hlt, hSo, hSl, hnx.symm⟩ (by dsimp only; omega) (by repeat (first | exact trivial | refine ⟨rfl, ?_⟩)) sA sS
    | true =>
      refine g_mv rfl (mv_callc_bel (fun w1 hk => by have := hmay i w1 hlt (rds_ofK hk); rwa [hpi] at this) rfl rfl rfl rfl rfl hok ?_)
      (repeat' (first | (refine gG ?_; try intro _) | ((first | refine g_split rfl rfl tE (fun _ => ?_) (fun _ => ?_) | refine gk_cond rfl rfl tE (fun _ => ?_) (fun _ => ?_)) <;> (try first | (exfalso; omega; done) | (rename_i hx; exact absurd rfl hx) | (rename_i hx; cases hx; done)))))
      refine g_say 22 (.agg #[.int .i64 a, .slice xA xn xc]) rfl rfl ?_
      refine g_pack (dkL g ⟨sv, .slice (some ⟨lb, 0, none⟩) W.length lc, S, W⟩) [] sA ?_
      refine g_mv rfl (mv_callf_mod (φ := dkF g ⟨sv, .slice (some ⟨lb, 0, none⟩) W.length lc, S, W⟩) (ψ := fun d => dkF g ⟨sv, .slice (some ⟨lb, 0, none⟩) W.length lc, S.set a d, W⟩) (fun w1 hk => by exact done_any g sv (.slice (some ⟨lb, 0, none⟩) W.length lc) S W a xA xn xc L w1 hxm hxn hxk (by omega) (by omega) (hk.rO (φ := dkF g ⟨sv, .slice (some ⟨lb, 0, none⟩) W.length lc, S, W⟩) mE)) rfl rfl rfl rfl rfl (by kernel_rfl) (by intro _; first | ((repeat (first | with_reducible exact Upd.here _ | with_reducible apply Upd.there)); done) | ((repeat (first | exact Upd.here _ | apply Upd.there)); done) | fail) (fun d hd => ?_))
      refine g_unpack (l := [blk g [sv, .slice (some ⟨lb, 0, none⟩) W.length lc, .bool false, .int .i64 0] 75, own 0 36 1 sv SE (S.set a d), own 0 118 2 (.slice (some ⟨lb, 0, none⟩) W.length lc) WE W, allF (S.set a d) secF, allF W wrF]) (by repeat (first | with_reducible exact Sel.here | with_reducible apply Sel.there)) ?_
      obtain ⟨hd1, hd2⟩ := hd
      (repeat (refine gG ?_; try intro _))
      rw [hpi, if_pos rfl] at hnx
      refine gk_again_sel rfl (sv, S.set a d, i + 1) ⟨hlt, fun y hy => by
        rcases List.mem_or_eq_of_mem_set hy with h9 | rfl
        · exact hSo y h9
        · exact hd1, by rw [List.length_set]; exact hSl, by rw [List.map_set, hd2]; exact hnx.symm⟩ (by dsimp only; omega) (by repeat (first | exact trivial | refine ⟨rfl, ?_⟩)) sA sS
  · have hiw : i = W.length := by omega
    rw [hiw, List.take_of_length_le (by rw [List.length_map]; omega)] at hSc
    (repeat' (first | (refine gG ?_; try intro _) | ((first | refine g_split rfl rfl tE (fun _ => ?_) (fun _ => ?_) | refine gk_cond rfl rfl tE (fun _ => ?_) (fun _ => ?_)) <;> (try first | (exfalso; omega; done) | (rename_i hx; exact absurd rfl hx) | (rename_i hx; cases hx; done)))))
    refine gk_own 0 118 2 WE ?_
    refine gk_derO [] [blk g [sv, .slice none 0 0, .bool false, .int .i64 0] 75, own 0 36 1 sv SE S, own 0 118 2 (.slice none 0 0) WE [], allF S secF] (φ := allF ([] : List WrD) wrF) (.all fun x hx => by cases hx) sA ?_
    refine gk_fin hT rfl rfl .nil (fun w' hk => ?_)
    exact RetM.mkP (ll := fun q : Value × List SecD => dkL g ⟨q.1, .slice none 0 0, q.2, []⟩) (sv, S) ⟨hSo, hSl, hSc⟩ rfl hk hfin sA
end Go.Proofs.Yteajefmnbalofaa.Dk
