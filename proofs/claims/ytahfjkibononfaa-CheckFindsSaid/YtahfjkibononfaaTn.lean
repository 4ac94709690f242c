/- walk.Nodes: level by level. -/
import Derived.Test.YtahfjkibononfaaTt
namespace Go.Proofs.Ytahfjkibononfaa.Tw
open Go.RowKit Mem Nd Gx Sk
open Tr hiding T row
set_option linter.unusedVariables false
set_option linter.unusedSimpArgs false
set_option maxRecDepth 100000
set_option maxHeartbeats 4000000
/-- How far a queue of trees has come. -/
inductive BfsR (a : AT) : List AT → Nat → Prop
  | start : BfsR a [a] 0
  | step {Q : List AT} {i : Nat} {b : AT} (h : BfsR a Q i) (hb : Q[i]? = some b) : BfsR a (Q ++ b.kids) (i + 1)
theorem BfsR.count {a : AT} {Q : List AT} {i : Nat} (h : BfsR a Q i) : Q.length + left Q i = a.cnt := by
  induction h with
  | start =>
    have : 1 ≤ a.cnt := cnt_pos a.h a.t
    show 1 + left [a] 0 = _
    unfold left
    simp
    omega
  | step h hb ih => rw [left_step hb]; exact ih
theorem BfsR.der {a : AT} {Q : List AT} {i : Nat} (h : BfsR a Q i) : ∀ q ∈ Q, Der [stF (some a)] (treeF q.h q.t) := by
  induction h with
  | start =>
    intro q hq
    obtain rfl := List.mem_singleton.1 hq
    exact Der.elem (L := [q]) (F := fun a : AT => treeF a.h a.t) (Der.mem (.head _)) (.head _)
  | @step Q i b h hb ih =>
    intro q hq
    rcases List.mem_append.1 hq with hq | hq
    · exact ih q hq
    · skip
      obtain ⟨hh, tt⟩ := b
      cases hh with
      | zero => cases hq
      | succ hh =>
        obtain ⟨k, hk, rfl⟩ := List.mem_map.1 (show q ∈ (Tr.kids tt).map (fun k => (⟨hh, k⟩ : AT)) from hq)
        refine (der_kid (t := tt) hk).trans fun ψ hψ => ?_
        obtain rfl := List.mem_singleton.1 hψ
        exact ih _ (List.mem_of_getElem? hb)
theorem BfsR.ok {a : AT} {Q : List AT} {i : Nat} (h : BfsR a Q i) (ok : a.Ok) : ∀ q ∈ Q, q.Ok := by
  induction h with
  | start => intro q hq; obtain rfl := List.mem_singleton.1 hq; exact ok
  | step h hb ih =>
    intro q hq
    rcases List.mem_append.1 hq with hq | hq
    · exact ih q hq
    · exact AT.kids_ok (ih _ (List.mem_of_getElem? hb)) q hq
theorem BfsR.pos {a : AT} {Q : List AT} {i : Nat} (h : BfsR a Q i) : 0 < Q.length := by
  induction h with
  | start => exact Nat.one_pos
  | step h hb ih => rw [List.length_append]; omega
theorem nodes_nil (tg : Nat) (n : Int) (w : World) (hB : Rd1 w (blk tg [.pointer none, .int .i64 n] 63)) :
    Calls Try.prog 15 [.pointer (some ⟨tg, 0, none⟩)].toArray w fun e w' => e = .returned (.slice none 0 0) ∧ Below w.heap.size w w' := by
  refine g_enter0 T [] [] [blk tg [.pointer none, .int .i64 n] 63] Try.func15 rfl Try.ntmps15 rfl (Rds.cons hB .nil).kn ?_
  (repeat' (first | (refine gG ?_; try intro _) | (refine g_mv rfl ?_; first | refine mv_call_bel (fun w hk => troot_any tg (.pointer none) n w (hk.rR mE)) rfl rfl rfl rfl rfl (by kernel_rfl) ?_) | ((first | refine g_split rfl rfl tE (fun _ => ?_) (fun _ => ?_) | refine gk_cond rfl rfl tE (fun _ => ?_) (fun _ => ?_)) <;> (try first | (exfalso; omega; done) | (rename_i hx; exact absurd rfl hx) | (rename_i hx; cases hx; done)))))
  refine gk_ret hT rfl rfl (.tmp rfl .nil) (fun w' hk => ?_)
  exact ⟨rfl, hk.toBelow⟩
theorem nodes_any (a : AT) (tg : Nat) (n : Int) (w : World) (ok : a.Ok) (h9 : a.cnt ≤ 10000) (hB : Rd1 w (blk tg [.pointer (some ⟨(nd a.h a.t).g, 0, none⟩), .int .i64 n] 63)) (hF : Rd1 w (stF (some a))) :
    Calls Try.prog 15 [.pointer (some ⟨tg, 0, none⟩)].toArray w (Ret (fun s : Value × List AT => BfsR a s.2 s.2.length) (fun s => s.1) (fun s => [own 0 33 1 s.1 PE (s.2.map fun q => (nd q.h q.t).g)]) w) := by
  refine g_enter0 T [] [] [blk tg [.pointer (some ⟨(nd a.h a.t).g, 0, none⟩), .int .i64 n] 63, stF (some a)] Try.func15 rfl Try.ntmps15 rfl (Rds.cons hB (.cons hF .nil)).kn ?_
  (repeat' (first | (refine gG ?_; try intro _) | (refine g_mv rfl ?_; first | refine mv_call_bel (fun w hk => troot_any tg (.pointer (some ⟨(nd a.h a.t).g, 0, none⟩)) n w (hk.rR mE)) rfl rfl rfl rfl rfl (by kernel_rfl) ?_) | ((first | refine g_split rfl rfl tE (fun _ => ?_) (fun _ => ?_) | refine gk_cond rfl rfl tE (fun _ => ?_) (fun _ => ?_)) <;> (try first | (exfalso; omega; done) | (rename_i hx; exact absurd rfl hx) | (rename_i hx; cases hx; done)))))
  rename_i g1
  refine gk_lit (enc := PE) g1 1 [(nd a.h a.t).g] rfl (by unfold maxLen; omega) rfl (by first | ((repeat (first | with_reducible exact Upd.here _ | with_reducible apply Upd.there)); done) | ((repeat (first | exact Upd.here _ | apply Upd.there)); done) | fail) ?_
  refine gk_loop_sel (fun (q : Value × (List AT) × Nat) => match q with | (v, Q, i) => BfsR a Q i ∧ i ≤ Q.length) (fun (q : Value × (List AT) × Nat) => match q with | (v, Q, i) => [(3, v), (4, .int .i64 i)]) (fun (q : Value × (List AT) × Nat) => match q with | (v, Q, i) => [own 0 33 1 v PE (Q.map fun q => (nd q.h q.t).g)]) (fun (q : Value × (List AT) × Nat) => match q with | (v, Q, i) => [stF (some a)]) (fun (q : Value × (List AT) × Nat) => match q with | (v, Q, i) => a.cnt - i) (.slice (some ⟨g1, 0, none⟩) 1 1, [a], 0) rfl ⟨.start, Nat.zero_le _⟩ (by repeat (first | exact trivial | refine ⟨rfl, ?_⟩)) sA sS ?_
  rintro ⟨v, Q, i⟩ hI
  replace hI : BfsR a Q i ∧ i ≤ Q.length := hI
  change GK _ _ [(3, v), (4, .int .i64 i)] [own 0 33 1 v PE (Q.map fun q => (nd q.h q.t).g)] [stF (some a)]
  obtain ⟨hQ, hi⟩ := hI
  have hpos := hQ.pos
  have hcount := hQ.count
  have hml : (Q.map fun q => (nd q.h q.t).g).length = Q.length := List.length_map ..
  refine gk_own0 v mE (by omega) (fun b1 c1 hv h1 h2 => ?_)
  subst hv
  by_cases hlt : i < Q.length
  · obtain ⟨b, hb⟩ : ∃ b, Q[i]? = some b := ⟨Q[i], List.getElem?_eq_getElem hlt⟩
    have hbm := List.mem_of_getElem? hb
    have hbo : Tr.Ok b.h b.t := hQ.ok ok b hbm
    have hCs : (nd b.h b.t).Cs = b.kids.map fun k => (nd k.h k.t).g := AT.Cs_eq (hQ.ok ok b hbm)
    have hCn := (nd_ok hbo).C.n
    have hnext := (BfsR.step hQ hb).count
    rw [List.length_append] at hnext
    have hCl : (nd b.h b.t).Cs.length = b.kids.length := by rw [hCs, List.length_map]
    refine gk_der [stF (some a)] (hQ.der b hbm) sS ?_
    refine gk_tnd (t := b.t) mE ?_
    refine gk_nB (d := nd b.h b.t) mE ?_
    refine gk_nC (d := nd b.h b.t) mE ?_
    (repeat' (first | (refine gG ?_; try intro _) | ((first | refine g_split rfl rfl tE (fun _ => ?_) (fun _ => ?_) | refine gk_cond rfl rfl tE (fun _ => ?_) (fun _ => ?_)) <;> (try first | (exfalso; omega; done) | (rename_i hx; exact absurd rfl hx) | (rename_i hx; cases hx; done)))))
    refine g_yd rfl rfl ((ys_load_el (S := [own 0 33 1 (.slice (some ⟨b1, 0, none⟩) (Q.map fun q => (nd q.h q.t).g).length c1) PE (Q.map fun q => (nd q.h q.t).g)]) (o0 := 0) (sz := 1) (enc := PE) (L := Q.map fun q => (nd q.h q.t).g) hT i (nd b.h b.t).g 0 rfl rfl rfl (by omega) (by rw [List.getElem?_map, hb]; rfl) (at_own mE) rfl rfl).ydS sF) ?_
    refine g_say 21 (.pointer (some ⟨(nd b.h b.t).g, 0, none⟩)) rfl rfl ?_
    (repeat (refine gG ?_; try intro _))
    refine g_say 24 (.slice (nd b.h b.t).C.A (nd b.h b.t).C.n (nd b.h b.t).C.c) rfl rfl ?_
    refine g_mv rfl (mv_append rfl (nd b.h b.t).Cs rfl rfl rfl rfl elt_P (by intro _; first | ((repeat (first | with_reducible exact Upd.here _ | with_reducible apply Upd.there)); done) | ((repeat (first | exact Upd.here _ | apply Upd.there)); done) | fail) (src_R mE) hCn (by intro x j; rfl) (by rw [hml]; unfold maxLen; omega) (by rw [hml]; omega) (Nat.zero_le _) (fun v1 => ?_))
    rw [hCs, ← List.map_append]
    (repeat (refine gG ?_; try intro _))
    refine gk_again_sel rfl (v1, Q ++ b.kids, i + 1) ⟨.step hQ hb, by rw [List.length_append]; omega⟩ (by dsimp only; omega) (by repeat (first | exact trivial | refine ⟨rfl, ?_⟩)) sA sS
  · have hiQ : i = Q.length := by omega
    subst hiQ
    (repeat' (first | (refine gG ?_; try intro _) | ((first | refine g_split rfl rfl tE (fun _ => ?_) (fun _ => ?_) | refine gk_cond rfl rfl tE (fun _ => ?_) (fun _ => ?_)) <;> (try first | (exfalso; omega; done) | (rename_i hx; exact absurd rfl hx) | (rename_i hx; cases hx; done)))))
    refine gk_ret hT rfl rfl (.tmp rfl .nil) (fun w' hk => ?_)
    exact Ret.mk (_, Q) hQ rfl hk sA
end Go.Proofs.Ytahfjkibononfaa.Tw

