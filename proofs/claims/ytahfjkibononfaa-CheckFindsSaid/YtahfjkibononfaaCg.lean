/- check.Tree of any tree that came of calls: fine; the chapter's example. -/
import Derived.Test.YtahfjkibononfaaCt
import Derived.Test.YtahfjkibononfaaWq
namespace Go.Proofs.Ytahfjkibononfaa.Ck
open Go.RowKit Mem Nd Gx Sk Tw Wk
open Tr hiding T row
set_option linter.unusedVariables false
set_option linter.unusedSimpArgs false
set_option maxRecDepth 100000
set_option maxHeartbeats 1000000
theorem win_all0 {M : List EntD} (h : ∀ e ∈ M, e.k.Bd) : win ⟨0, 0, 0⟩ maxK M = M := by
  unfold win
  rw [List.filter_eq_self]
  intro e he
  have h1 := (h e he).v; have h2 := (h e he).b; have h3 := (h e he).s
  unfold inW maxK
  rw [tB_false (klt_zero (h e he)), tB_false (by unfold klt; dsimp only; omega)]
  rfl
theorem bfs_fine {a : AT} {Q : List AT} {i : Nat} (h : BfsR a Q i) (f : a.Fine) : ∀ q ∈ Q, q.Fine := by
  induction h with
  | start => intro q hq; obtain rfl := List.mem_singleton.1 hq; exact f
  | step h hb ih =>
    intro q hq
    rcases List.mem_append.1 hq with hq | hq
    · exact ih q hq
    · exact (ih _ (List.mem_of_getElem? hb)).kids q hq
theorem bfs_good {a : AT} {Q : List AT} {i : Nat} (h : BfsR a Q i) (r : a.Root) : (∃ Q', Q = a :: Q' ∧ ∀ q ∈ Q', q.Good) := by
  induction h with
  | start => exact ⟨[], rfl, fun q hq => by cases hq⟩
  | @step Q i b h hb ih =>
    obtain ⟨Q', rfl, hg⟩ := ih
    refine ⟨Q' ++ b.kids, rfl, fun q hq => ?_⟩
    rcases List.mem_append.1 hq with hq | hq
    · exact hg q hq
    · rcases List.mem_cons.1 (List.mem_of_getElem? hb) with rfl | hb'
      · exact AT.Root.kids r q hq
      · exact AT.Good.kids (hg b hb') q hq
theorem good_of {b : AT} {rt : Bool} (f : b.Fine) (hl : (if rt = true then (if b.h = 0 then 1 else 2) else 3) ≤ b.nd.Ks.length ∧ b.nd.Ks.length ≤ 6) : goodN b rt := by
  have ok : b.Ok := f.1
  have hno : (nd b.h b.t).Ok := nd_ok ok
  have hlf : (nd b.h b.t).leaf = decide (b.h = 0) := AT.leaf_eq ok
  have hKl : b.nd.Ks.length = if b.h = 0 then b.ents.length else b.kids.length := AT.Ks_len ok
  refine ⟨f.keys, ?_, ?_⟩
  · unfold FillP
    rw [hlf, hno.K.n, hno.V.n, hno.C.n]
    refine ⟨?_, hl.2, ?_⟩
    · have := hl.1
      by_cases h0 : b.h = 0
      · simp only [h0, decide_true, if_true] at this ⊢; exact this
      · simp only [h0, decide_false, if_false, Bool.false_eq_true] at this ⊢; exact this
    · by_cases h0 : b.h = 0
      · rw [decide_eq_true h0, if_pos rfl]
        obtain ⟨h, t⟩ := b
        dsimp only at h0
        subst h0
        have ok' : IsLeaf t.2 t.1 := ok.1
        show t.1.Vs.length = t.1.Ks.length
        rw [ok'.Vs, ok'.Ks, List.length_map, List.length_map]
      · rw [decide_eq_false h0, if_neg (by decide)]
        have e1 : (nd b.h b.t).Cs.length = b.kids.length := by rw [show (nd b.h b.t).Cs = _ from AT.Cs_eq ok, List.length_map]
        rw [e1]
        rw [if_neg h0] at hKl
        exact hKl.symm
  · intro i d hd
    rw [List.getElem?_map] at hd
    obtain ⟨k, hk, rfl⟩ := Option.map_eq_some_iff.1 hd
    have hkm := List.mem_of_getElem? hk
    have hkf := f.kids k hkm
    have h0 : b.h ≠ 0 := by have := AT.kids_h k hkm; omega
    have hkl := AT.fst hkf.1
    constructor
    · have h1 := AT.Ks_len hkf.1
      have h2 : (nd k.h k.t).Ks.length = if k.h = 0 then k.ents.length else k.kids.length := h1
      rw [h2]
      split
      · omega
      · rename_i hk0
        have := hkf.1
        obtain ⟨kh, kt⟩ := k
        cases kh with
        | zero => exact absurd rfl hk0
        | succ kh =>
          show ((Tr.kids kt).map fun c => (⟨kh, c⟩ : AT)).length ≠ 0
          rw [List.length_map]
          have : 0 < kt.2.length := this.2.1
          show kt.2.length ≠ 0
          omega
    · have e1 : (nd b.h b.t).Ks = b.kids.map fun k => k.nd.Ks.getD 0 default := AT.keys_eq f.1 h0
      have e2 : (b.kids.map fun k => k.nd.Ks.getD 0 default)[i]? = some (k.nd.Ks.getD 0 default) := by rw [List.getElem?_map, hk]; rfl
      rw [e1, getD_at e2]
      rfl
theorem allGood_has {a : AT} {M : List EntD} (h : Has a.h a.t M) : AllGood a := by
  intro P i b hP hb
  have hf : a.Fine := ⟨h.ok, by have : a.ents = M := h.row; rw [this]; exact h.asc⟩
  have hbf := bfs_fine hP hf b (List.mem_of_getElem? hb)
  obtain ⟨Q', rfl, hg⟩ := bfs_good hP (show a.Root from h.size)
  cases i with
  | zero =>
    obtain rfl : a = b := Option.some.inj hb
    exact good_of hbf (by rw [if_pos (by decide)]; exact AT.Root.len h.size h.ok)
  | succ i =>
    have hbg := hg b (List.mem_of_getElem? (show Q'[i]? = some b from hb))
    exact good_of hbf (by rw [if_neg (by simp)]; exact AT.Good.len hbg hbf.1)
theorem ctree_nil (tg : Nat) (n : Int) (w : World) (hB : Rd1 w (blk tg [.pointer none, .int .i64 n] 63)) :
    Calls Try.prog 10 [.pointer (some ⟨tg, 0, none⟩)].toArray w fun e w' => e = .returned (.int .i64 (if n = 0 then 0 else 5)) ∧ Below w.heap.size w w' := by
  refine g_enter0 T [] [] [blk tg [.pointer none, .int .i64 n] 63] Try.func10 rfl Try.ntmps10 rfl (Rds.cons hB .nil).kn ?_
  (repeat' (first | (refine gG ?_; try intro _) | (refine g_mv rfl ?_; first | refine mv_call_bel (fun w hk => troot_any tg (.pointer none) n w (hk.rR mE)) rfl rfl rfl rfl rfl (by kernel_rfl) ?_ | refine mv_call_bel (fun w hk => tlen_any tg (.pointer none) n w (hk.rR mE)) rfl rfl rfl rfl rfl (by kernel_rfl) ?_) | ((first | refine g_split rfl rfl tE (fun _ => ?_) (fun _ => ?_) | refine gk_cond rfl rfl tE (fun _ => ?_) (fun _ => ?_)) <;> (try first | (exfalso; omega; done) | (rename_i hx; exact absurd rfl hx) | (rename_i hx; cases hx; done)))))
  all_goals
    refine gk_ret hT rfl rfl (.tmp rfl .nil) (fun w' hk => ?_)
    refine ⟨?_, hk.toBelow⟩
    split <;> first | rfl | (exfalso; omega)
/-- check.Tree of a tree that has a row: is the count right? -/
theorem ctree_has (a : Option AT) (M : List EntD) (tg : Nat) (n : Int) (w : World) (hh : HasO a M) (h9 : M.length ≤ 160) (hM : ∀ e ∈ M, e.k.Bd) (hB : Rd1 w (blk tg [rootV a, .int .i64 n] 63)) (hF : Rd1 w (stF a)) :
    Calls Try.prog 10 [.pointer (some ⟨tg, 0, none⟩)].toArray w fun e w' => e = .returned (.int .i64 (if (M.length : Int) = n then 0 else 5)) ∧ Below w.heap.size w w' := by
  cases a with
  | none =>
    obtain rfl : M = [] := hh
    refine (ctree_nil tg n w hB).mono fun e w' ⟨h1, h2⟩ => ⟨?_, h2⟩
    rw [h1]
    by_cases h : n = 0
    · rw [if_pos h, if_pos (by rw [h]; rfl)]
    · rw [if_neg h, if_neg (fun h' => h h'.symm)]
  | some a =>
    have hH : Has a.h a.t M := hh
    have hlow := hH.low h9
    have hcnt : a.cnt ≤ M.length / 2 + 1 := cnt_has hH
    have hf : a.Fine := ⟨hH.ok, by have : a.ents = M := hH.row; rw [this]; exact hH.asc⟩
    have hrows : rows (lvs a.h a.t) = M := by rw [lvs_rows]; exact hH.row
    refine (ctree_any a tg n ⟨0, 0, 0⟩ maxK (lvs a.h a.t) M w rfl rfl (ok_wok a.h a.t hH.ok) (by omega) (by omega) (fun P i hP q hq => ?_) (fun _ => ⟨⟨in_root hh, by omega, lf_zero a.h a.t hH.ok (in_root hh).ks (fun e he => hM e (by rw [← hH.row]; exact he))⟩, upTo_asc (by rw [hrows]; exact hH.asc), by rw [hrows]; omega, by rw [hrows]; exact win_all0 hM⟩) hB hF).mono ?_
    · have hqf := bfs_fine hP hf q hq
      have hq6 : (nd q.h q.t).Ks.length ≤ 6 := by
        obtain ⟨Q', rfl, hg⟩ := bfs_good hP (show a.Root from hH.size)
        rcases List.mem_cons.1 hq with rfl | hq
        · exact (AT.Root.len hH.size hH.ok).2
        · exact (AT.Good.len (hg q hq) hqf.1).2
      refine ⟨by omega, ?_⟩
      obtain ⟨h, t⟩ := q
      cases h with
      | zero =>
        have ok' : IsLeaf t.2 t.1 := hqf.1.1
        have e1 : t.1.Vs.length = t.1.Ks.length := by rw [ok'.Vs, ok'.Ks, List.length_map, List.length_map]
        show t.1.Vs.length ≤ 1000
        have : t.1.Ks.length ≤ 6 := hq6
        omega
      | succ h =>
        have ok' : t.1.Vs = [] := hqf.1.1.Vs
        show t.1.Vs.length ≤ 1000
        rw [ok']
        exact Nat.zero_le _
    · rintro e w' ⟨r, hr, he, hf'⟩
      refine ⟨?_, hf'.bel⟩
      rw [he]
      have hall := allGood_has hH
      rcases hr with ⟨P, i, b, h1, h2, _, h3, _⟩ | ⟨_, rfl⟩
      · exact absurd (hall P i b h1 h2) h3
      · unfold entR
        rw [if_pos (tB_true hH.asc)]
theorem alive35_any (w : World) : Calls Try.prog 13 #[] w fun e w' => e = .returned (.bool true) ∧ Below w.heap.size w w' := by
  refine g_enter0 T [] [] [] Try.func13 rfl Try.ntmps13 rfl (Kn.start _) ?_
  (repeat (refine gG ?_; try intro _))
  rename_i g4
  obtain ⟨e, he⟩ : ∃ e : EntD, e = ⟨⟨0, 0, 1⟩, 0⟩ := ⟨_, rfl⟩
  have hbe : ∀ x ∈ [e], x.k.Bd := fun x hx => by
    obtain rfl := List.mem_singleton.1 hx
    rw [he]
    exact ⟨by decide, by decide, by decide⟩
  refine g_mv rfl ?_; refine mv_call_rt (fun w hk => leaf_any (some ⟨g4, 0, none⟩) 1 1 [e] w rfl (by simp) (sl_of_blk (hk.pO (blk g4 [.int .u16 0, .int .u32 0, .int .u64 1, .int .u32 0] 29) mE) (by rw [he]; rfl))) rfl rfl rfl rfl rfl (by kernel_rfl) (fun _ => rfl) (fun d hd => ?_)
  (repeat (refine gG ?_; try intro _))
  rename_i g7
  refine g_mv rfl ?_; refine mv_call_bel (fun w hk => ctree_nil g7 0 w (hk.rO (φ := blk g7 [.pointer none, .int .i64 0] 63) mE)) rfl rfl rfl rfl rfl (by kernel_rfl) ?_
  rw [show (if (0 : Int) = 0 then (0 : Int) else 5) = 0 from rfl]
  (repeat' (first | (refine gG ?_; try intro _) | ((first | refine g_split rfl rfl tE (fun _ => ?_) (fun _ => ?_) | refine gk_cond rfl rfl tE (fun _ => ?_) (fun _ => ?_)) <;> (try first | (exfalso; omega; done) | (rename_i hx; exact absurd rfl hx) | (rename_i hx; cases hx; done)))))
  refine g_share (φ := blk d.g [.bool d.leaf, d.K.v, d.V.v, d.C.v, .int .u32 d.a] 40) (by repeat (first | with_reducible exact Sel.here | with_reducible apply Sel.there)) ?_
  refine g_share (φ := sl d.K.A 3 KE d.Ks) (by repeat (first | with_reducible exact Sel.here | with_reducible apply Sel.there)) ?_
  refine g_share (φ := sl d.V.A 1 (IE .u32) d.Vs) (by repeat (first | with_reducible exact Sel.here | with_reducible apply Sel.there)) ?_
  refine g_share (φ := sl d.C.A 1 PE d.Cs) (by repeat (first | with_reducible exact Sel.here | with_reducible apply Sel.there)) ?_
  refine g_der [blk d.g [.bool d.leaf, d.K.v, d.V.v, d.C.v, .int .u32 d.a] 40, sl d.K.A 3 KE d.Ks, sl d.V.A 1 (IE .u32) d.Vs, sl d.C.A 1 PE d.Cs] (der_node d) sS ?_
  have hD : Der [nodeF d] (stF (some ⟨0, ((d, [e]) : NodeD × List EntD)⟩)) := der_st ⟨0, ((d, [e]) : NodeD × List EntD)⟩
  refine g_der [nodeF d] hD sS ?_
  refine g_mv rfl ?_; refine mv_call_rt (fun w hk => tnew_some d.g 2 w) rfl rfl rfl rfl rfl (by kernel_rfl) (fun _ => rfl) (fun t2 _ => ?_)
  refine g_mv rfl ?_; refine mv_call_bel (fun w hk => ctree_has (some ⟨0, ((d, [e]) : NodeD × List EntD)⟩) [e] t2 2 w (has_leaf hd) (by simp) hbe (hk.rO (φ := blk t2 [.pointer (some ⟨d.g, 0, none⟩), .int .i64 2] 63) mE) (hk.rR mE)) rfl rfl rfl rfl rfl (by kernel_rfl) ?_
  rw [if_neg (by simp)]
  (repeat' (first | (refine gG ?_; try intro _) | ((first | refine g_split rfl rfl tE (fun _ => ?_) (fun _ => ?_) | refine gk_cond rfl rfl tE (fun _ => ?_) (fun _ => ?_)) <;> (try first | (exfalso; omega; done) | (rename_i hx; exact absurd rfl hx) | (rename_i hx; cases hx; done)))))
  refine g_mv rfl ?_; refine mv_call_rt (fun w hk => tnew_some d.g 1 w) rfl rfl rfl rfl rfl (by kernel_rfl) (fun _ => rfl) (fun t1 _ => ?_)
  refine g_mv rfl ?_; refine mv_call_bel (fun w hk => ctree_has (some ⟨0, ((d, [e]) : NodeD × List EntD)⟩) [e] t1 1 w (has_leaf hd) (by simp) hbe (hk.rO (φ := blk t1 [.pointer (some ⟨d.g, 0, none⟩), .int .i64 1] 63) mE) (hk.rR mE)) rfl rfl rfl rfl rfl (by kernel_rfl) ?_
  rw [if_pos (by simp)]
  (repeat (refine gG ?_; try intro _))
  rw [show tB ((0 : Int) = 0) = true from tB_true rfl]
  (repeat (refine gG ?_; try intro _))
  refine gk_ret hT rfl rfl (.tmp rfl .nil) (fun w' hk => ?_)
  exact ⟨ret_bool (by simp [tB_eq]), hk.toBelow⟩
end Go.Proofs.Ytahfjkibononfaa.Ck

