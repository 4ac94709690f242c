/- The law TreeShares: a change changes nothing of a copy, and leaves most nodes as they are. -/
import Derived.Test.YtajmjfnecmknnaaTy
import Derived.Test.YtajmjfnecmknnaaTal
namespace Go.Proofs.Ytajmjfnecmknnaa.Tw
open Go.RowKit Mem Nd Gx
open Tr hiding T row
set_option linter.unusedVariables false
set_option linter.unusedSimpArgs false
set_option maxRecDepth 100000
set_option maxHeartbeats 4000000
def depthV : Option AT → Nat
  | none => 0
  | some a => a.h + 1
theorem depth_le {a : Option AT} {L : List EntD} (hh : HasO a L) (h9 : L.length ≤ 160) : depthV a ≤ 4 := by
  cases a with
  | none => exact Nat.zero_le _
  | some a => exact Nat.succ_le_succ (Has.low hh h9)
theorem st_depth (a : Option AT) (L : List EntD) (tg : Nat) (n : Int) (w : World) (hh : HasO a L) (h9 : L.length ≤ 160) (hB : Rd1 w (blk tg [rootV a, .int .i64 n] 49)) (hF : Rd1 w (stF a)) :
    Calls Try.prog 26 [.pointer (some ⟨tg, 0, none⟩)].toArray w fun e w' => e = .returned (.int .i64 (depthV a : Nat)) ∧ Below w.heap.size w w' := by
  cases a with
  | none => exact depth_nil tg n w hB
  | some a => exact depth_any a.t L tg n w hh h9 hB (st_rd hF)
theorem st_new (a : Option AT) (n : Int) (w : World) : Calls Try.prog 15 [rootV a, .int .i64 n].toArray w (Ret (fun _ : Nat => True) (fun r => .pointer (some ⟨r, 0, none⟩)) (fun r => [blk r [rootV a, .int .i64 n] 49]) w) := by
  cases a with
  | none => exact tnew_none n w
  | some a => exact tnew_some (nd a.h a.t).g n w
theorem st_copy (a : Option AT) (tg : Nat) (n : Int) (w : World) (hB : Rd1 w (blk tg [rootV a, .int .i64 n] 49)) :
    Calls Try.prog 30 [.pointer (some ⟨tg, 0, none⟩)].toArray w (Ret (fun _ : Nat => True) (fun r => .pointer (some ⟨r, 0, none⟩)) (fun r => [blk r [rootV a, .int .i64 n] 49]) w) := by
  refine g_enter0 T [] [] [row tg 0 [rootV a, .int .i64 n]] Try.func30 rfl Try.ntmps30 rfl (Rds.cons hB.row .nil).kn ?_
  (repeat (first | refine g_nil ?_ | refine g_pure true hT rfl rfl rfl sI ?_ | refine g_skip rfl rfl ?_ | refine g_skip0 rfl rfl ?_ | refine gk_region rfl ?_ | refine gk_cond_t rfl rfl ?_ | refine gk_cond_f rfl rfl ?_ | refine g_yd rfl rfl (yd_load_blk hT rfl rfl mE rfl rfl) ?_ | refine g_yd rfl rfl (yd_load_row hT rfl rfl mE rfl rfl) ?_ | refine g_yd rfl rfl (yd_load_row0 hT rfl rfl mE rfl rfl) ?_ | refine g_yd rfl rfl (yd_eql rfl rfl rfl rfl rfl (by kernel_rfl)) ?_ | refine g_yd rfl rfl (yd_neq rfl rfl rfl rfl rfl (by kernel_rfl)) ?_ | refine g_yd rfl rfl (yd_index hT rfl rfl rfl sI rfl) ?_ | refine g_yd rfl rfl (yd_slice_nil hT rfl rfl rfl rfl) ?_ | refine g_yd rfl rfl (yd_build_arr hT rfl rfl rfl rfl rfl rfl) ?_ | (refine g_mv rfl ?_; first | (refine mv_box rfl rfl rfl rfl ?_; intro _) | (refine mv_alloc rfl hT rfl rfl ?_; intro _) | refine mv_store hT rfl rfl rfl rfl rfl rfl sO rfl ?_ | (refine mv_buildSlice rfl hT rfl rfl rfl rfl rfl rfl rfl rfl ?_; intro _)) | refine g_yd rfl rfl (Ys.yd (ys_str_eql hT rfl rfl rfl rfl)) ?_ | refine g_yd rfl rfl (Ys.yd (ys_str_neq hT rfl rfl rfl rfl)) ?_))
  refine gk_any [0] (Cut _ (fun r : Nat => [(2, .pointer (some ⟨r, 0, none⟩))]) (fun r => [blk r [rootV a, .int .i64 n] 49]) (fun _ => [])) rfl rfl (by kernel_rfl) ?_ (cut_k fun r => ?_)
  · skip
    refine gb_take 0 rfl (by decide +kernel) rfl rfl (ys_ev (nw := true) hT rfl sI) sF ?_
    refine gb_take 1 rfl (by decide +kernel) rfl rfl (ys_ev (nw := true) hT rfl sI) sF ?_
    refine gb_take 2 rfl (by decide +kernel) rfl rfl (ys_ev (nw := true) hT rfl sI) sF ?_
    refine gb_take 3 rfl (by decide +kernel) rfl rfl (by first | exact ys_blk hT rfl rfl mE rfl rfl | exact ys_row hT rfl rfl mE rfl rfl | exact ys_row0 hT rfl rfl mE rfl rfl) sF ?_
    refine gb_take 4 rfl (by decide +kernel) rfl rfl (ys_ev (nw := true) hT rfl sI) sF ?_
    refine gb_take 5 rfl (by decide +kernel) rfl rfl (ys_ev (nw := true) hT rfl sI) sF ?_
    refine gb_take 6 rfl (by decide +kernel) rfl rfl (ys_ev (nw := true) hT rfl sI) sF ?_
    refine gb_take 7 rfl (by decide +kernel) rfl rfl (by first | exact ys_blk hT rfl rfl mE rfl rfl | exact ys_row hT rfl rfl mE rfl rfl | exact ys_row0 hT rfl rfl mE rfl rfl) sF ?_
    refine gb_only 8 (by decide +kernel) rfl rfl ?_
    refine mv_call_rt (fun w hk => st_new a n w) rfl rfl rfl rfl rfl (by kernel_rfl) (fun _ => rfl) (fun r _ => ?_)
    refine ⟨sF, ?_⟩
    refine gb_take 9 rfl (by decide +kernel) rfl rfl (ys_ev (nw := true) hT rfl sI) sF ?_
    refine gb_nil (by decide +kernel) ?_
    exact ⟨_, (by repeat (first | exact trivial | refine ⟨rfl, ?_⟩)), sA, sS⟩
  · (repeat (first | refine g_nil ?_ | refine g_pure true hT rfl rfl rfl sI ?_ | refine g_skip rfl rfl ?_ | refine g_skip0 rfl rfl ?_ | refine gk_region rfl ?_ | refine gk_cond_t rfl rfl ?_ | refine gk_cond_f rfl rfl ?_ | refine g_yd rfl rfl (yd_load_blk hT rfl rfl mE rfl rfl) ?_ | refine g_yd rfl rfl (yd_load_row hT rfl rfl mE rfl rfl) ?_ | refine g_yd rfl rfl (yd_load_row0 hT rfl rfl mE rfl rfl) ?_ | refine g_yd rfl rfl (yd_eql rfl rfl rfl rfl rfl (by kernel_rfl)) ?_ | refine g_yd rfl rfl (yd_neq rfl rfl rfl rfl rfl (by kernel_rfl)) ?_ | refine g_yd rfl rfl (yd_index hT rfl rfl rfl sI rfl) ?_ | refine g_yd rfl rfl (yd_slice_nil hT rfl rfl rfl rfl) ?_ | refine g_yd rfl rfl (yd_build_arr hT rfl rfl rfl rfl rfl rfl) ?_ | (refine g_mv rfl ?_; first | (refine mv_box rfl rfl rfl rfl ?_; intro _) | (refine mv_alloc rfl hT rfl rfl ?_; intro _) | refine mv_store hT rfl rfl rfl rfl rfl rfl sO rfl ?_ | (refine mv_buildSlice rfl hT rfl rfl rfl rfl rfl rfl rfl rfl ?_; intro _)) | refine g_yd rfl rfl (Ys.yd (ys_str_eql hT rfl rfl rfl rfl)) ?_ | refine g_yd rfl rfl (Ys.yd (ys_str_neq hT rfl rfl rfl rfl)) ?_))
    refine gk_ret hT rfl rfl (.tmp rfl .nil) (fun w' hk => ?_)
    exact Ret.mk r trivial rfl hk sA
theorem st_shape (a : Option AT) (L : List EntD) (w : World) (hh : HasO a L) (h9 : L.length ≤ 160) (hF : Rd1 w (stF a)) :
    Calls Try.prog 27 [rootV a, .bool true].toArray w (Ret (fun _ : Value => True) (fun v => .tuple #[.int .i64 (depthV a : Nat), v, .bool a.isSome]) (fun v => [own 0 29 4 v EE L]) w) := by
  cases a with
  | none =>
    obtain rfl : L = [] := hh
    refine g_enter0 T [] [] [] Try.func27 rfl Try.ntmps27 rfl (Kn.start _) ?_
    (repeat' (first | (first | refine g_nil ?_ | refine g_pure true hT rfl rfl rfl sI ?_ | refine g_skip rfl rfl ?_ | refine g_skip0 rfl rfl ?_ | refine gk_region rfl ?_ | refine gk_cond_t rfl rfl ?_ | refine gk_cond_f rfl rfl ?_ | refine g_yd rfl rfl (yd_load_blk hT rfl rfl mE rfl rfl) ?_ | refine g_yd rfl rfl (yd_load_row hT rfl rfl mE rfl rfl) ?_ | refine g_yd rfl rfl (yd_load_row0 hT rfl rfl mE rfl rfl) ?_ | refine g_yd rfl rfl (yd_eql rfl rfl rfl rfl rfl (by kernel_rfl)) ?_ | refine g_yd rfl rfl (yd_neq rfl rfl rfl rfl rfl (by kernel_rfl)) ?_ | refine g_yd rfl rfl (yd_index hT rfl rfl rfl sI rfl) ?_ | refine g_yd rfl rfl (yd_slice_nil hT rfl rfl rfl rfl) ?_ | refine g_yd rfl rfl (yd_build_arr hT rfl rfl rfl rfl rfl rfl) ?_ | (refine g_mv rfl ?_; first | (refine mv_box rfl rfl rfl rfl ?_; intro _) | (refine mv_alloc rfl hT rfl rfl ?_; intro _) | refine mv_store hT rfl rfl rfl rfl rfl rfl sO rfl ?_ | (refine mv_buildSlice rfl hT rfl rfl rfl rfl rfl rfl rfl rfl ?_; intro _)) | refine g_yd rfl rfl (Ys.yd (ys_str_eql hT rfl rfl rfl rfl)) ?_ | refine g_yd rfl rfl (Ys.yd (ys_str_neq hT rfl rfl rfl rfl)) ?_) | ((first | refine g_split rfl rfl tE (fun _ => ?_) (fun _ => ?_) | refine gk_cond rfl rfl tE (fun _ => ?_) (fun _ => ?_)) <;> (try first | (exfalso; omega; done) | (rename_i hx; exact absurd rfl hx) | (rename_i hx; cases hx; done)))))
    refine gk_own 0 29 4 EE ?_
    refine gk_ret hT rfl rfl (.tmp rfl (.tmp rfl (.tmp rfl .nil))) (fun w' hk => ?_)
    exact Ret.mk (.slice none 0 0) trivial rfl hk sA
  | some a =>
    have hha : Has a.h a.t L := hh
    have := shape_any a.h (by have := Has.low hha h9; omega) a.t true w hha.ok hha.size (fun h => by cases h) (by rw [hha.row]; omega) (st_rd hF)
    rw [hha.row] at this
    exact this
theorem bfsO_der {a : Option AT} {Q : List AT} (h : BfsO a Q) : Der [stF a] (allF (Q.map fun q => nd q.h q.t) nodeF) := by
  refine Der.all fun d hd => ?_
  obtain ⟨q, hq, rfl⟩ := List.mem_map.1 hd
  cases a with
  | none =>
    obtain rfl : Q = [] := h
    cases hq
  | some a =>
    refine (der_nd q.t).trans fun ψ hψ => ?_
    obtain rfl := List.mem_singleton.1 hψ
    exact BfsR.der h q hq
theorem bfsO_len {a : Option AT} {Q : List AT} {L : List EntD} (h : BfsO a Q) (hh : HasO a L) : Q.length ≤ L.length / 2 + 1 := by
  cases a with
  | none =>
    obtain rfl : Q = [] := h
    exact Nat.zero_le _
  | some a =>
    have h1 := BfsR.count h
    rw [left_all, Nat.add_zero] at h1
    have h2 := cnt_has (show Has a.h a.t L from hh)
    rw [h1]
    exact h2
theorem bfsO_mem {a : Option AT} {Q : List AT} (h : BfsO a Q) : ∀ x ∈ (a.map AT.gs).getD [], x ∈ Q.map fun q => (nd q.h q.t).g := by
  intro x hx
  cases a with
  | none => cases hx
  | some a =>
    have h1 := bfs_all h (fun y => y == x)
    have h2 : 0 < (AT.gs a).countP (fun y => y == x) := List.countP_pos_iff.2 ⟨x, hx, by simp⟩
    rw [← h1] at h2
    obtain ⟨y, hy, hyx⟩ := List.countP_pos_iff.1 h2
    have : y = x := by simpa using hyx
    rw [← this]
    exact hy
theorem step_lost {a : AT} {M : List EntD} {o : OpD} {r : StepO} (hh : Has a.h a.t M) (hr : StepI (some a) M o r) : lost a.gs ((r.a.map AT.gs).getD []) ≤ 2 * a.h + 1 := by
  obtain ⟨p, hp, _, hd, hs⟩ := hr.p
  cases hb : o.del with
  | true =>
    obtain ⟨h1, h2⟩ := hd hb
    cases hf : tB ((keysOf M)[p]? = some o.e.k) with
    | true => exact delS_lost (h2 hf) hh.size
    | false =>
      rw [h1 hf]
      have : lost a.gs a.gs = 0 := lost_none fun x hx => hx
      show lost a.gs a.gs ≤ _
      omega
  | false =>
    obtain ⟨c, hc, hcs⟩ := hs hb
    rw [hc]
    have := setS_lost hcs
    show lost (Tr.gs a.h a.t) c.gs ≤ _
    omega
theorem shares {a : Option AT} {M : List EntD} {o : OpD} {r : StepO} {Q Q' : List AT} (hh : HasO a M) (hr : StepI a M o r) (hQ : BfsO a Q) (hQ' : BfsO r.a Q') :
    Q.length ≤ ((Q.map fun q => nd q.h q.t).map fun d => ((Q'.map fun q => nd q.h q.t).map NodeD.g).count d.g).sum + 2 * depthV a + 1 := by
  cases a with
  | none =>
    obtain rfl : Q = [] := hQ
    simp
  | some a =>
    have h1 := sum_lost (Q.map fun q => (nd q.h q.t).g) (Q'.map fun q => (nd q.h q.t).g)
    have h2 : lost (Q.map fun q => (nd q.h q.t).g) (Q'.map fun q => (nd q.h q.t).g) = lost a.gs (Q'.map fun q => (nd q.h q.t).g) := bfs_all hQ _
    have h3 : lost a.gs (Q'.map fun q => (nd q.h q.t).g) ≤ lost a.gs ((r.a.map AT.gs).getD []) := lost_mono (bfsO_mem hQ')
    have h4 := step_lost (show Has a.h a.t M from hh) hr
    have e1 : ((Q.map fun q => nd q.h q.t).map fun d => ((Q'.map fun q => nd q.h q.t).map NodeD.g).count d.g) = ((Q.map fun q => (nd q.h q.t).g).map fun x => (Q'.map fun q => (nd q.h q.t).g).count x) := by
      rw [List.map_map, List.map_map, List.map_map]
      rfl
    rw [e1]
    rw [List.length_map] at h1
    show Q.length ≤ _ + 2 * (a.h + 1) + 1
    omega
theorem treeShares_any (A : Option Addr) (n c : Nat) (L : List OpD) (o : OpD) (w : World) (hs0 : (SlV.mk A n c).Ok L.length) (hL : Sl w A 5 CE L) :
    Calls Try.prog 6 [.slice A n c, o.val].toArray w fun e' w' => e' = .returned (.bool true) ∧ Below w.heap.size w w' := by
  have hn : n = L.length := hs0.n
  have hn9 : n ≤ 9223372036854775807 := by
    have h1 : n ≤ c := hs0.c
    have h2 : c ≤ maxLen := hs0.mx
    unfold maxLen at h2; omega
  refine g_enter0 T [] [] [sl A 5 CE L] Try.func6 rfl Try.ntmps6 rfl ((Kn.start w).argR hL (by decide) (fun _ h => by cases h)) ?_
  by_cases h150 : 100 < n
  · (repeat' (first | (first | refine g_nil ?_ | refine g_pure true hT rfl rfl rfl sI ?_ | refine g_skip rfl rfl ?_ | refine g_skip0 rfl rfl ?_ | refine gk_region rfl ?_ | refine gk_cond_t rfl rfl ?_ | refine gk_cond_f rfl rfl ?_ | refine g_yd rfl rfl (yd_load_blk hT rfl rfl mE rfl rfl) ?_ | refine g_yd rfl rfl (yd_load_row hT rfl rfl mE rfl rfl) ?_ | refine g_yd rfl rfl (yd_load_row0 hT rfl rfl mE rfl rfl) ?_ | refine g_yd rfl rfl (yd_eql rfl rfl rfl rfl rfl (by kernel_rfl)) ?_ | refine g_yd rfl rfl (yd_neq rfl rfl rfl rfl rfl (by kernel_rfl)) ?_ | refine g_yd rfl rfl (yd_index hT rfl rfl rfl sI rfl) ?_ | refine g_yd rfl rfl (yd_slice_nil hT rfl rfl rfl rfl) ?_ | refine g_yd rfl rfl (yd_build_arr hT rfl rfl rfl rfl rfl rfl) ?_ | (refine g_mv rfl ?_; first | (refine mv_box rfl rfl rfl rfl ?_; intro _) | (refine mv_alloc rfl hT rfl rfl ?_; intro _) | refine mv_store hT rfl rfl rfl rfl rfl rfl sO rfl ?_ | (refine mv_buildSlice rfl hT rfl rfl rfl rfl rfl rfl rfl rfl ?_; intro _)) | refine g_yd rfl rfl (Ys.yd (ys_str_eql hT rfl rfl rfl rfl)) ?_ | refine g_yd rfl rfl (Ys.yd (ys_str_neq hT rfl rfl rfl rfl)) ?_) | ((first | refine g_split rfl rfl tE (fun _ => ?_) (fun _ => ?_) | refine gk_cond rfl rfl tE (fun _ => ?_) (fun _ => ?_)) <;> (try first | (exfalso; omega; done) | (rename_i hx; exact absurd rfl hx) | (rename_i hx; cases hx; done)))))
    refine gk_ret hT rfl rfl (.tmp rfl .nil) (fun w' hk => ?_)
    exact ⟨rfl, hk.toBelow⟩
  · (repeat' (first | (first | refine g_nil ?_ | refine g_pure true hT rfl rfl rfl sI ?_ | refine g_skip rfl rfl ?_ | refine g_skip0 rfl rfl ?_ | refine gk_region rfl ?_ | refine gk_cond_t rfl rfl ?_ | refine gk_cond_f rfl rfl ?_ | refine g_yd rfl rfl (yd_load_blk hT rfl rfl mE rfl rfl) ?_ | refine g_yd rfl rfl (yd_load_row hT rfl rfl mE rfl rfl) ?_ | refine g_yd rfl rfl (yd_load_row0 hT rfl rfl mE rfl rfl) ?_ | refine g_yd rfl rfl (yd_eql rfl rfl rfl rfl rfl (by kernel_rfl)) ?_ | refine g_yd rfl rfl (yd_neq rfl rfl rfl rfl rfl (by kernel_rfl)) ?_ | refine g_yd rfl rfl (yd_index hT rfl rfl rfl sI rfl) ?_ | refine g_yd rfl rfl (yd_slice_nil hT rfl rfl rfl rfl) ?_ | refine g_yd rfl rfl (yd_build_arr hT rfl rfl rfl rfl rfl rfl) ?_ | (refine g_mv rfl ?_; first | (refine mv_box rfl rfl rfl rfl ?_; intro _) | (refine mv_alloc rfl hT rfl rfl ?_; intro _) | refine mv_store hT rfl rfl rfl rfl rfl rfl sO rfl ?_ | (refine mv_buildSlice rfl hT rfl rfl rfl rfl rfl rfl rfl rfl ?_; intro _)) | refine g_yd rfl rfl (Ys.yd (ys_str_eql hT rfl rfl rfl rfl)) ?_ | refine g_yd rfl rfl (Ys.yd (ys_str_neq hT rfl rfl rfl rfl)) ?_) | ((first | refine g_split rfl rfl tE (fun _ => ?_) (fun _ => ?_) | refine gk_cond rfl rfl tE (fun _ => ?_) (fun _ => ?_)) <;> (try first | (exfalso; omega; done) | (rename_i hx; exact absurd rfl hx) | (rename_i hx; cases hx; done)))))
    rename_i g3 _ tg
    refine gk_der [] (φ := stF none) (Der.all fun x hx => by cases hx) (List.nil_subset _) ?_
    refine gk_nilR (α := EntD) none 4 EE ?_
    refine gk_loop_sel (fun (q : (Option AT) × (List EntD) × SlV × Nat) => match q with | (a, M, s, i) => (HasO a M ∧ s.Ok M.length ∧ M.length ≤ i ∧ i ≤ n)) (fun (q : (Option AT) × (List EntD) × SlV × Nat) => match q with | (a, M, s, i) => [(0, .slice A n c), (3, .pointer (some ⟨g3, 0, none⟩)), (5, .pointer (some ⟨tg, 0, none⟩)), (6, .slice s.A s.n s.c), (7, .int .i64 i)]) (fun (q : (Option AT) × (List EntD) × SlV × Nat) => match q with | (a, M, s, i) => [blk tg [rootV a, .int .i64 (M.length : Int)] 49, blk g3 [.bool o.del, .int .u16 o.e.k.v, .int .u32 o.e.k.b, .int .u64 o.e.k.s, .int .u32 o.e.a] 51]) (fun (q : (Option AT) × (List EntD) × SlV × Nat) => match q with | (a, M, s, i) => [stF a, sl s.A 4 EE M, sl A 5 CE L]) (fun (q : (Option AT) × (List EntD) × SlV × Nat) => match q with | (a, M, s, i) => n - i) (none, [], ⟨none, 0, 0⟩, 0) rfl ⟨rfl, SlV.ok_nil, Nat.zero_le _, Nat.zero_le _⟩ (by repeat (first | exact trivial | refine ⟨rfl, ?_⟩)) sA sS ?_
    rintro ⟨a, M, s, i⟩ hI
    replace hI : (HasO a M ∧ s.Ok M.length ∧ M.length ≤ i ∧ i ≤ n) := hI
    change GK _ _ [(0, .slice A n c), (3, .pointer (some ⟨g3, 0, none⟩)), (5, .pointer (some ⟨tg, 0, none⟩)), (6, .slice s.A s.n s.c), (7, .int .i64 i)] [blk tg [rootV a, .int .i64 (M.length : Int)] 49, blk g3 [.bool o.del, .int .u16 o.e.k.v, .int .u32 o.e.k.b, .int .u64 o.e.k.s, .int .u32 o.e.a] 51] [stF a, sl s.A 4 EE M, sl A 5 CE L]
    obtain ⟨hh, hs, hMi, hin⟩ := hI
    by_cases hlt : i < n
    · obtain ⟨y, hy⟩ : ∃ y, L[i]? = some y := ⟨L[i], List.getElem?_eq_getElem (by omega)⟩
      refine gk_elem (enc := CE) (L := L) i mE (by omega) (by decide) (fun b1 o1 y1 eA hy1 => ?_)
      subst eA
      obtain rfl : y = y1 := by rw [hy] at hy1; exact Option.some.inj hy1
      (repeat' (first | (first | refine g_nil ?_ | refine g_pure true hT rfl rfl rfl sI ?_ | refine g_skip rfl rfl ?_ | refine g_skip0 rfl rfl ?_ | refine gk_region rfl ?_ | refine gk_cond_t rfl rfl ?_ | refine gk_cond_f rfl rfl ?_ | refine g_yd rfl rfl (yd_load_blk hT rfl rfl mE rfl rfl) ?_ | refine g_yd rfl rfl (yd_load_row hT rfl rfl mE rfl rfl) ?_ | refine g_yd rfl rfl (yd_load_row0 hT rfl rfl mE rfl rfl) ?_ | refine g_yd rfl rfl (yd_eql rfl rfl rfl rfl rfl (by kernel_rfl)) ?_ | refine g_yd rfl rfl (yd_neq rfl rfl rfl rfl rfl (by kernel_rfl)) ?_ | refine g_yd rfl rfl (yd_index hT rfl rfl rfl sI rfl) ?_ | refine g_yd rfl rfl (yd_slice_nil hT rfl rfl rfl rfl) ?_ | refine g_yd rfl rfl (yd_build_arr hT rfl rfl rfl rfl rfl rfl) ?_ | (refine g_mv rfl ?_; first | (refine mv_box rfl rfl rfl rfl ?_; intro _) | (refine mv_alloc rfl hT rfl rfl ?_; intro _) | refine mv_store hT rfl rfl rfl rfl rfl rfl sO rfl ?_ | (refine mv_buildSlice rfl hT rfl rfl rfl rfl rfl rfl rfl rfl ?_; intro _)) | refine g_yd rfl rfl (Ys.yd (ys_str_eql hT rfl rfl rfl rfl)) ?_ | refine g_yd rfl rfl (Ys.yd (ys_str_neq hT rfl rfl rfl rfl)) ?_) | ((first | refine g_split rfl rfl tE (fun _ => ?_) (fun _ => ?_) | refine gk_cond rfl rfl tE (fun _ => ?_) (fun _ => ?_)) <;> (try first | (exfalso; omega; done) | (rename_i hx; exact absurd rfl hx) | (rename_i hx; cases hx; done)))))
      refine g_mv rfl ?_; refine mv_call_rx (fun w hk => step_any a M s y tg w hh (by omega) hs (hk.pO (blk tg [rootV a, .int .i64 (M.length : Int)] 49) mE) (hk.rR (φ := stF a) mE) (hk.rR (φ := sl s.A 4 EE M) mE) (fun h => hk.disR (blk tg [rootV a, .int .i64 (M.length : Int)] 49) mE (stF a) mE tg rfl h) (fun h => hk.disR (blk tg [rootV a, .int .i64 (M.length : Int)] 49) mE (sl s.A 4 EE M) mE tg rfl h)) rfl rfl rfl rfl rfl (by kernel_rfl) (by intro _; repeat (first | exact Upd.here _ | apply Upd.there)) sS (fun _ => rfl) (fun r hr hnr => ?_)
      have hM2 := step_len hr
      refine g_say 35 (.tuple #[.slice r.s.A r.s.n r.s.c, .bool true]) rfl rfl ?_
      (repeat (first | refine g_nil ?_ | refine g_pure true hT rfl rfl rfl sI ?_ | refine g_skip rfl rfl ?_ | refine g_skip0 rfl rfl ?_ | refine gk_region rfl ?_ | refine gk_cond_t rfl rfl ?_ | refine gk_cond_f rfl rfl ?_ | refine g_yd rfl rfl (yd_load_blk hT rfl rfl mE rfl rfl) ?_ | refine g_yd rfl rfl (yd_load_row hT rfl rfl mE rfl rfl) ?_ | refine g_yd rfl rfl (yd_load_row0 hT rfl rfl mE rfl rfl) ?_ | refine g_yd rfl rfl (yd_eql rfl rfl rfl rfl rfl (by kernel_rfl)) ?_ | refine g_yd rfl rfl (yd_neq rfl rfl rfl rfl rfl (by kernel_rfl)) ?_ | refine g_yd rfl rfl (yd_index hT rfl rfl rfl sI rfl) ?_ | refine g_yd rfl rfl (yd_slice_nil hT rfl rfl rfl rfl) ?_ | refine g_yd rfl rfl (yd_build_arr hT rfl rfl rfl rfl rfl rfl) ?_ | (refine g_mv rfl ?_; first | (refine mv_box rfl rfl rfl rfl ?_; intro _) | (refine mv_alloc rfl hT rfl rfl ?_; intro _) | refine mv_store hT rfl rfl rfl rfl rfl rfl sO rfl ?_ | (refine mv_buildSlice rfl hT rfl rfl rfl rfl rfl rfl rfl rfl ?_; intro _)) | refine g_yd rfl rfl (Ys.yd (ys_str_eql hT rfl rfl rfl rfl)) ?_ | refine g_yd rfl rfl (Ys.yd (ys_str_neq hT rfl rfl rfl rfl)) ?_))
      refine gk_again_sel rfl (r.a, r.M, r.s, i + 1) ⟨hr.has, hr.ok, by omega, by omega⟩ (by dsimp only; omega) (by repeat (first | exact trivial | refine ⟨rfl, ?_⟩)) sA sS
    · obtain ⟨xA, xn, xc⟩ := s
      have hsn : xn = M.length := hs.n
      change GK _ _ [(0, .slice A n c), (3, .pointer (some ⟨g3, 0, none⟩)), (5, .pointer (some ⟨tg, 0, none⟩)), (6, .slice xA xn xc), (7, .int .i64 i)] _ [stF a, sl xA 4 EE M, sl A 5 CE L]
      have hd4 := depth_le hh (by omega)
      (repeat' (first | (first | refine g_nil ?_ | refine g_pure true hT rfl rfl rfl sI ?_ | refine g_skip rfl rfl ?_ | refine g_skip0 rfl rfl ?_ | refine gk_region rfl ?_ | refine gk_cond_t rfl rfl ?_ | refine gk_cond_f rfl rfl ?_ | refine g_yd rfl rfl (yd_load_blk hT rfl rfl mE rfl rfl) ?_ | refine g_yd rfl rfl (yd_load_row hT rfl rfl mE rfl rfl) ?_ | refine g_yd rfl rfl (yd_load_row0 hT rfl rfl mE rfl rfl) ?_ | refine g_yd rfl rfl (yd_eql rfl rfl rfl rfl rfl (by kernel_rfl)) ?_ | refine g_yd rfl rfl (yd_neq rfl rfl rfl rfl rfl (by kernel_rfl)) ?_ | refine g_yd rfl rfl (yd_index hT rfl rfl rfl sI rfl) ?_ | refine g_yd rfl rfl (yd_slice_nil hT rfl rfl rfl rfl) ?_ | refine g_yd rfl rfl (yd_build_arr hT rfl rfl rfl rfl rfl rfl) ?_ | (refine g_mv rfl ?_; first | (refine mv_box rfl rfl rfl rfl ?_; intro _) | (refine mv_alloc rfl hT rfl rfl ?_; intro _) | refine mv_store hT rfl rfl rfl rfl rfl rfl sO rfl ?_ | (refine mv_buildSlice rfl hT rfl rfl rfl rfl rfl rfl rfl rfl ?_; intro _)) | refine g_yd rfl rfl (Ys.yd (ys_str_eql hT rfl rfl rfl rfl)) ?_ | refine g_yd rfl rfl (Ys.yd (ys_str_neq hT rfl rfl rfl rfl)) ?_) | ((first | refine g_split rfl rfl tE (fun _ => ?_) (fun _ => ?_) | refine gk_cond rfl rfl tE (fun _ => ?_) (fun _ => ?_)) <;> (try first | (exfalso; omega; done) | (rename_i hx; exact absurd rfl hx) | (rename_i hx; cases hx; done)))))
      refine g_mv rfl ?_; refine mv_call_rt (fun w hk => st_copy a tg M.length w (hk.rO (φ := blk tg [rootV a, .int .i64 (M.length : Int)] 49) mE)) rfl rfl rfl rfl rfl (by kernel_rfl) (fun _ => rfl) (fun cg _ => ?_)
      (repeat (first | refine g_nil ?_ | refine g_pure true hT rfl rfl rfl sI ?_ | refine g_skip rfl rfl ?_ | refine g_skip0 rfl rfl ?_ | refine gk_region rfl ?_ | refine gk_cond_t rfl rfl ?_ | refine gk_cond_f rfl rfl ?_ | refine g_yd rfl rfl (yd_load_blk hT rfl rfl mE rfl rfl) ?_ | refine g_yd rfl rfl (yd_load_row hT rfl rfl mE rfl rfl) ?_ | refine g_yd rfl rfl (yd_load_row0 hT rfl rfl mE rfl rfl) ?_ | refine g_yd rfl rfl (yd_eql rfl rfl rfl rfl rfl (by kernel_rfl)) ?_ | refine g_yd rfl rfl (yd_neq rfl rfl rfl rfl rfl (by kernel_rfl)) ?_ | refine g_yd rfl rfl (yd_index hT rfl rfl rfl sI rfl) ?_ | refine g_yd rfl rfl (yd_slice_nil hT rfl rfl rfl rfl) ?_ | refine g_yd rfl rfl (yd_build_arr hT rfl rfl rfl rfl rfl rfl) ?_ | (refine g_mv rfl ?_; first | (refine mv_box rfl rfl rfl rfl ?_; intro _) | (refine mv_alloc rfl hT rfl rfl ?_; intro _) | refine mv_store hT rfl rfl rfl rfl rfl rfl sO rfl ?_ | (refine mv_buildSlice rfl hT rfl rfl rfl rfl rfl rfl rfl rfl ?_; intro _)) | refine g_yd rfl rfl (Ys.yd (ys_str_eql hT rfl rfl rfl rfl)) ?_ | refine g_yd rfl rfl (Ys.yd (ys_str_neq hT rfl rfl rfl rfl)) ?_))
      refine g_mv rfl ?_; refine mv_call_rt (fun w hk => lnodes_any a M tg M.length w hh (by omega) (hk.rO (φ := blk tg [rootV a, .int .i64 (M.length : Int)] 49) mE) (hk.rR (φ := stF a) mE)) rfl rfl rfl rfl rfl (by kernel_rfl) (fun _ => rfl) (fun q1 hq1 => ?_)
      obtain ⟨v1, Q1⟩ := q1
      replace hq1 : BfsO a Q1 := hq1
      change G _ _ _ _ ((43, v1) :: _) (own 0 33 1 v1 PE (Q1.map fun q => (nd q.h q.t).g) :: _) _
      refine g_ownv v1 mE (fun A1 c1 hv1 _ _ _ => ?_)
      subst hv1
      have hq1l := bfsO_len hq1 hh
      (repeat (first | refine g_nil ?_ | refine g_pure true hT rfl rfl rfl sI ?_ | refine g_skip rfl rfl ?_ | refine g_skip0 rfl rfl ?_ | refine gk_region rfl ?_ | refine gk_cond_t rfl rfl ?_ | refine gk_cond_f rfl rfl ?_ | refine g_yd rfl rfl (yd_load_blk hT rfl rfl mE rfl rfl) ?_ | refine g_yd rfl rfl (yd_load_row hT rfl rfl mE rfl rfl) ?_ | refine g_yd rfl rfl (yd_load_row0 hT rfl rfl mE rfl rfl) ?_ | refine g_yd rfl rfl (yd_eql rfl rfl rfl rfl rfl (by kernel_rfl)) ?_ | refine g_yd rfl rfl (yd_neq rfl rfl rfl rfl rfl (by kernel_rfl)) ?_ | refine g_yd rfl rfl (yd_index hT rfl rfl rfl sI rfl) ?_ | refine g_yd rfl rfl (yd_slice_nil hT rfl rfl rfl rfl) ?_ | refine g_yd rfl rfl (yd_build_arr hT rfl rfl rfl rfl rfl rfl) ?_ | (refine g_mv rfl ?_; first | (refine mv_box rfl rfl rfl rfl ?_; intro _) | (refine mv_alloc rfl hT rfl rfl ?_; intro _) | refine mv_store hT rfl rfl rfl rfl rfl rfl sO rfl ?_ | (refine mv_buildSlice rfl hT rfl rfl rfl rfl rfl rfl rfl rfl ?_; intro _)) | refine g_yd rfl rfl (Ys.yd (ys_str_eql hT rfl rfl rfl rfl)) ?_ | refine g_yd rfl rfl (Ys.yd (ys_str_neq hT rfl rfl rfl rfl)) ?_))
      refine g_mv rfl ?_; refine mv_call_rx (fun w hk => step_any a M ⟨xA, xn, xc⟩ o tg w hh (by omega) hs (hk.pO (blk tg [rootV a, .int .i64 (M.length : Int)] 49) mE) (hk.rR (φ := stF a) mE) (hk.rR (φ := sl xA 4 EE M) mE) (fun h => hk.disR (blk tg [rootV a, .int .i64 (M.length : Int)] 49) mE (stF a) mE tg rfl h) (fun h => hk.disR (blk tg [rootV a, .int .i64 (M.length : Int)] 49) mE (sl xA 4 EE M) mE tg rfl h)) rfl rfl rfl rfl rfl (by kernel_rfl) (by intro _; repeat (first | exact Upd.here _ | apply Upd.there)) sS (fun _ => rfl) (fun r hr hnr => ?_)
      have hM2 := step_len hr
      have hrl := fun Q' (h : BfsO r.a Q') => shares (Q := Q1) (Q' := Q') hh hr hq1 h
      obtain ⟨ra, rM, ⟨rA, rn, rc⟩⟩ := r
      have hrh : HasO ra rM := hr.has
      have hrn : rn = rM.length := hr.ok.n
      dsimp only at hM2 hrl
      refine g_say 48 (.tuple #[.slice rA rn rc, .bool true]) rfl rfl ?_
      (repeat (first | refine g_nil ?_ | refine g_pure true hT rfl rfl rfl sI ?_ | refine g_skip rfl rfl ?_ | refine g_skip0 rfl rfl ?_ | refine gk_region rfl ?_ | refine gk_cond_t rfl rfl ?_ | refine gk_cond_f rfl rfl ?_ | refine g_yd rfl rfl (yd_load_blk hT rfl rfl mE rfl rfl) ?_ | refine g_yd rfl rfl (yd_load_row hT rfl rfl mE rfl rfl) ?_ | refine g_yd rfl rfl (yd_load_row0 hT rfl rfl mE rfl rfl) ?_ | refine g_yd rfl rfl (yd_eql rfl rfl rfl rfl rfl (by kernel_rfl)) ?_ | refine g_yd rfl rfl (yd_neq rfl rfl rfl rfl rfl (by kernel_rfl)) ?_ | refine g_yd rfl rfl (yd_index hT rfl rfl rfl sI rfl) ?_ | refine g_yd rfl rfl (yd_slice_nil hT rfl rfl rfl rfl) ?_ | refine g_yd rfl rfl (yd_build_arr hT rfl rfl rfl rfl rfl rfl) ?_ | (refine g_mv rfl ?_; first | (refine mv_box rfl rfl rfl rfl ?_; intro _) | (refine mv_alloc rfl hT rfl rfl ?_; intro _) | refine mv_store hT rfl rfl rfl rfl rfl rfl sO rfl ?_ | (refine mv_buildSlice rfl hT rfl rfl rfl rfl rfl rfl rfl rfl ?_; intro _)) | refine g_yd rfl rfl (Ys.yd (ys_str_eql hT rfl rfl rfl rfl)) ?_ | refine g_yd rfl rfl (Ys.yd (ys_str_neq hT rfl rfl rfl rfl)) ?_))
      refine g_mv rfl ?_; refine mv_call_rt (fun w hk => lnodes_any ra rM tg rM.length w hrh (by omega) (hk.rO (φ := blk tg [rootV ra, .int .i64 (rM.length : Int)] 49) mE) (hk.rR (φ := stF ra) mE)) rfl rfl rfl rfl rfl (by kernel_rfl) (fun _ => rfl) (fun q2 hq2 => ?_)
      obtain ⟨v2, Q2⟩ := q2
      replace hq2 : BfsO ra Q2 := hq2
      change G _ _ _ _ ((52, v2) :: _) (own 0 33 1 v2 PE (Q2.map fun q => (nd q.h q.t).g) :: _) _
      refine g_ownv v2 mE (fun A2 c2 hv2 _ _ _ => ?_)
      subst hv2
      have hq2l := bfsO_len hq2 hrh
      have hsh := hrl Q2 hq2
      (repeat' (first | (first | refine g_nil ?_ | refine g_pure true hT rfl rfl rfl sI ?_ | refine g_skip rfl rfl ?_ | refine g_skip0 rfl rfl ?_ | refine gk_region rfl ?_ | refine gk_cond_t rfl rfl ?_ | refine gk_cond_f rfl rfl ?_ | refine g_yd rfl rfl (yd_load_blk hT rfl rfl mE rfl rfl) ?_ | refine g_yd rfl rfl (yd_load_row hT rfl rfl mE rfl rfl) ?_ | refine g_yd rfl rfl (yd_load_row0 hT rfl rfl mE rfl rfl) ?_ | refine g_yd rfl rfl (yd_eql rfl rfl rfl rfl rfl (by kernel_rfl)) ?_ | refine g_yd rfl rfl (yd_neq rfl rfl rfl rfl rfl (by kernel_rfl)) ?_ | refine g_yd rfl rfl (yd_index hT rfl rfl rfl sI rfl) ?_ | refine g_yd rfl rfl (yd_slice_nil hT rfl rfl rfl rfl) ?_ | refine g_yd rfl rfl (yd_build_arr hT rfl rfl rfl rfl rfl rfl) ?_ | (refine g_mv rfl ?_; first | (refine mv_box rfl rfl rfl rfl ?_; intro _) | (refine mv_alloc rfl hT rfl rfl ?_; intro _) | refine mv_store hT rfl rfl rfl rfl rfl rfl sO rfl ?_ | (refine mv_buildSlice rfl hT rfl rfl rfl rfl rfl rfl rfl rfl ?_; intro _)) | refine g_yd rfl rfl (Ys.yd (ys_str_eql hT rfl rfl rfl rfl)) ?_ | refine g_yd rfl rfl (Ys.yd (ys_str_neq hT rfl rfl rfl rfl)) ?_) | (refine g_mv rfl ?_; first | refine mv_call_bel (fun w hk => troot_any cg (rootV a) (M.length : Int) w (hk.rO (φ := blk cg [rootV a, .int .i64 (M.length : Int)] 49) mE)) rfl rfl rfl rfl rfl (by kernel_rfl) ?_) | ((first | refine g_split rfl rfl tE (fun _ => ?_) (fun _ => ?_) | refine gk_cond rfl rfl tE (fun _ => ?_) (fun _ => ?_)) <;> (try first | (exfalso; omega; done) | (rename_i hx; exact absurd rfl hx) | (rename_i hx; cases hx; done)))))
      refine g_mv rfl ?_; refine mv_call_rt (fun w hk => st_shape a M w hh (by omega) (hk.rR (φ := stF a) mE)) rfl rfl rfl rfl rfl (by kernel_rfl) (fun _ => rfl) (fun v3 _ => ?_)
      refine g_ownv v3 mE (fun A3 c3 hv3 _ _ _ => ?_)
      subst hv3
      have hml1 : (Q1.map fun q => (nd q.h q.t).g).length = Q1.length := List.length_map ..
      have hml2 : (Q2.map fun q => (nd q.h q.t).g).length = Q2.length := List.length_map ..
      subst hsn
      subst hrn
      have hsome : 0 < M.length → a.isSome = true := fun hp => by
        cases a with
        | none =>
          obtain rfl : M = [] := hh
          exact absurd hp (Nat.lt_irrefl _)
        | some a => rfl
      (repeat (first | refine g_nil ?_ | refine g_pure true hT rfl rfl rfl sI ?_ | refine g_skip rfl rfl ?_ | refine g_skip0 rfl rfl ?_ | refine gk_region rfl ?_ | refine gk_cond_t rfl rfl ?_ | refine gk_cond_f rfl rfl ?_ | refine g_yd rfl rfl (yd_load_blk hT rfl rfl mE rfl rfl) ?_ | refine g_yd rfl rfl (yd_load_row hT rfl rfl mE rfl rfl) ?_ | refine g_yd rfl rfl (yd_load_row0 hT rfl rfl mE rfl rfl) ?_ | refine g_yd rfl rfl (yd_eql rfl rfl rfl rfl rfl (by kernel_rfl)) ?_ | refine g_yd rfl rfl (yd_neq rfl rfl rfl rfl rfl (by kernel_rfl)) ?_ | refine g_yd rfl rfl (yd_index hT rfl rfl rfl sI rfl) ?_ | refine g_yd rfl rfl (yd_slice_nil hT rfl rfl rfl rfl) ?_ | refine g_yd rfl rfl (yd_build_arr hT rfl rfl rfl rfl rfl rfl) ?_ | (refine g_mv rfl ?_; first | (refine mv_box rfl rfl rfl rfl ?_; intro _) | (refine mv_alloc rfl hT rfl rfl ?_; intro _) | refine mv_store hT rfl rfl rfl rfl rfl rfl sO rfl ?_ | (refine mv_buildSlice rfl hT rfl rfl rfl rfl rfl rfl rfl rfl ?_; intro _)) | refine g_yd rfl rfl (Ys.yd (ys_str_eql hT rfl rfl rfl rfl)) ?_ | refine g_yd rfl rfl (Ys.yd (ys_str_neq hT rfl rfl rfl rfl)) ?_))
      by_cases hp : 0 < M.length
      rotate_left
      refine g_dec false rfl rfl (tB_false (by omega)) ?_
      rotate_left
      rw [hsome hp]
      refine g_dec true rfl rfl (tB_true (by omega)) ?_
      (repeat (first | refine g_nil ?_ | refine g_pure true hT rfl rfl rfl sI ?_ | refine g_skip rfl rfl ?_ | refine g_skip0 rfl rfl ?_ | refine gk_region rfl ?_ | refine gk_cond_t rfl rfl ?_ | refine gk_cond_f rfl rfl ?_ | refine g_yd rfl rfl (yd_load_blk hT rfl rfl mE rfl rfl) ?_ | refine g_yd rfl rfl (yd_load_row hT rfl rfl mE rfl rfl) ?_ | refine g_yd rfl rfl (yd_load_row0 hT rfl rfl mE rfl rfl) ?_ | refine g_yd rfl rfl (yd_eql rfl rfl rfl rfl rfl (by kernel_rfl)) ?_ | refine g_yd rfl rfl (yd_neq rfl rfl rfl rfl rfl (by kernel_rfl)) ?_ | refine g_yd rfl rfl (yd_index hT rfl rfl rfl sI rfl) ?_ | refine g_yd rfl rfl (yd_slice_nil hT rfl rfl rfl rfl) ?_ | refine g_yd rfl rfl (yd_build_arr hT rfl rfl rfl rfl rfl rfl) ?_ | (refine g_mv rfl ?_; first | (refine mv_box rfl rfl rfl rfl ?_; intro _) | (refine mv_alloc rfl hT rfl rfl ?_; intro _) | refine mv_store hT rfl rfl rfl rfl rfl rfl sO rfl ?_ | (refine mv_buildSlice rfl hT rfl rfl rfl rfl rfl rfl rfl rfl ?_; intro _)) | refine g_yd rfl rfl (Ys.yd (ys_str_eql hT rfl rfl rfl rfl)) ?_ | refine g_yd rfl rfl (Ys.yd (ys_str_neq hT rfl rfl rfl rfl)) ?_))
      refine g_mv rfl ?_; refine mv_call_bel (fun w hk => same31_any A3 xA M.length c3 M.length xc M w rfl rfl (by omega) (rd_sl (own_slT hk (show own 0 29 4 (.slice A3 M.length c3) EE M ∈ _ from mE)) (by decide)) (hk.rR (φ := sl xA 4 EE M) mE)) rfl rfl rfl rfl rfl (by kernel_rfl) ?_
      (repeat (first | refine g_nil ?_ | refine g_pure true hT rfl rfl rfl sI ?_ | refine g_skip rfl rfl ?_ | refine g_skip0 rfl rfl ?_ | refine gk_region rfl ?_ | refine gk_cond_t rfl rfl ?_ | refine gk_cond_f rfl rfl ?_ | refine g_yd rfl rfl (yd_load_blk hT rfl rfl mE rfl rfl) ?_ | refine g_yd rfl rfl (yd_load_row hT rfl rfl mE rfl rfl) ?_ | refine g_yd rfl rfl (yd_load_row0 hT rfl rfl mE rfl rfl) ?_ | refine g_yd rfl rfl (yd_eql rfl rfl rfl rfl rfl (by kernel_rfl)) ?_ | refine g_yd rfl rfl (yd_neq rfl rfl rfl rfl rfl (by kernel_rfl)) ?_ | refine g_yd rfl rfl (yd_index hT rfl rfl rfl sI rfl) ?_ | refine g_yd rfl rfl (yd_slice_nil hT rfl rfl rfl rfl) ?_ | refine g_yd rfl rfl (yd_build_arr hT rfl rfl rfl rfl rfl rfl) ?_ | (refine g_mv rfl ?_; first | (refine mv_box rfl rfl rfl rfl ?_; intro _) | (refine mv_alloc rfl hT rfl rfl ?_; intro _) | refine mv_store hT rfl rfl rfl rfl rfl rfl sO rfl ?_ | (refine mv_buildSlice rfl hT rfl rfl rfl rfl rfl rfl rfl rfl ?_; intro _)) | refine g_yd rfl rfl (Ys.yd (ys_str_eql hT rfl rfl rfl rfl)) ?_ | refine g_yd rfl rfl (Ys.yd (ys_str_neq hT rfl rfl rfl rfl)) ?_))
      all_goals
        (repeat' (first | (first | refine g_nil ?_ | refine g_pure true hT rfl rfl rfl sI ?_ | refine g_skip rfl rfl ?_ | refine g_skip0 rfl rfl ?_ | refine gk_region rfl ?_ | refine gk_cond_t rfl rfl ?_ | refine gk_cond_f rfl rfl ?_ | refine g_yd rfl rfl (yd_load_blk hT rfl rfl mE rfl rfl) ?_ | refine g_yd rfl rfl (yd_load_row hT rfl rfl mE rfl rfl) ?_ | refine g_yd rfl rfl (yd_load_row0 hT rfl rfl mE rfl rfl) ?_ | refine g_yd rfl rfl (yd_eql rfl rfl rfl rfl rfl (by kernel_rfl)) ?_ | refine g_yd rfl rfl (yd_neq rfl rfl rfl rfl rfl (by kernel_rfl)) ?_ | refine g_yd rfl rfl (yd_index hT rfl rfl rfl sI rfl) ?_ | refine g_yd rfl rfl (yd_slice_nil hT rfl rfl rfl rfl) ?_ | refine g_yd rfl rfl (yd_build_arr hT rfl rfl rfl rfl rfl rfl) ?_ | (refine g_mv rfl ?_; first | (refine mv_box rfl rfl rfl rfl ?_; intro _) | (refine mv_alloc rfl hT rfl rfl ?_; intro _) | refine mv_store hT rfl rfl rfl rfl rfl rfl sO rfl ?_ | (refine mv_buildSlice rfl hT rfl rfl rfl rfl rfl rfl rfl rfl ?_; intro _)) | refine g_yd rfl rfl (Ys.yd (ys_str_eql hT rfl rfl rfl rfl)) ?_ | refine g_yd rfl rfl (Ys.yd (ys_str_neq hT rfl rfl rfl rfl)) ?_) | (refine g_mv rfl ?_; first | refine mv_call_bel (fun w hk => tlen_any cg (rootV a) (M.length : Int) w (hk.rO (φ := blk cg [rootV a, .int .i64 (M.length : Int)] 49) mE)) rfl rfl rfl rfl rfl (by kernel_rfl) ?_ | refine mv_call_bel (fun w hk => tlen_any tg (rootV ra) (rM.length : Int) w (hk.rO (φ := blk tg [rootV ra, .int .i64 (rM.length : Int)] 49) mE)) rfl rfl rfl rfl rfl (by kernel_rfl) ?_ | refine mv_call_bel (fun w hk => troot_any tg (rootV ra) (rM.length : Int) w (hk.rO (φ := blk tg [rootV ra, .int .i64 (rM.length : Int)] 49) mE)) rfl rfl rfl rfl rfl (by kernel_rfl) ?_) | ((first | refine g_split rfl rfl tE (fun _ => ?_) (fun _ => ?_) | refine gk_cond rfl rfl tE (fun _ => ?_) (fun _ => ?_)) <;> (try first | (exfalso; omega; done) | (rename_i hx; exact absurd rfl hx) | (rename_i hx; cases hx; done)))))
        refine g_mv rfl ?_; refine mv_call_rt (fun w hk => st_new ra (rM.length : Int) w) rfl rfl rfl rfl rfl (by kernel_rfl) (fun _ => rfl) (fun ag _ => ?_)
        (repeat (first | refine g_nil ?_ | refine g_pure true hT rfl rfl rfl sI ?_ | refine g_skip rfl rfl ?_ | refine g_skip0 rfl rfl ?_ | refine gk_region rfl ?_ | refine gk_cond_t rfl rfl ?_ | refine gk_cond_f rfl rfl ?_ | refine g_yd rfl rfl (yd_load_blk hT rfl rfl mE rfl rfl) ?_ | refine g_yd rfl rfl (yd_load_row hT rfl rfl mE rfl rfl) ?_ | refine g_yd rfl rfl (yd_load_row0 hT rfl rfl mE rfl rfl) ?_ | refine g_yd rfl rfl (yd_eql rfl rfl rfl rfl rfl (by kernel_rfl)) ?_ | refine g_yd rfl rfl (yd_neq rfl rfl rfl rfl rfl (by kernel_rfl)) ?_ | refine g_yd rfl rfl (yd_index hT rfl rfl rfl sI rfl) ?_ | refine g_yd rfl rfl (yd_slice_nil hT rfl rfl rfl rfl) ?_ | refine g_yd rfl rfl (yd_build_arr hT rfl rfl rfl rfl rfl rfl) ?_ | (refine g_mv rfl ?_; first | (refine mv_box rfl rfl rfl rfl ?_; intro _) | (refine mv_alloc rfl hT rfl rfl ?_; intro _) | refine mv_store hT rfl rfl rfl rfl rfl rfl sO rfl ?_ | (refine mv_buildSlice rfl hT rfl rfl rfl rfl rfl rfl rfl rfl ?_; intro _)) | refine g_yd rfl rfl (Ys.yd (ys_str_eql hT rfl rfl rfl rfl)) ?_ | refine g_yd rfl rfl (Ys.yd (ys_str_neq hT rfl rfl rfl rfl)) ?_))
        refine g_mv rfl ?_; refine mv_call_bel (fun w hk => count_any A1 A2 _ c1 _ c2 (Q1.map fun q => nd q.h q.t) (Q2.map fun q => nd q.h q.t) w (by rw [List.length_map, List.length_map]) (by rw [List.length_map, List.length_map]) (by rw [List.length_map]; omega) (by rw [List.length_map]; omega) (by rw [List.map_map]; exact rd_sl (own_slT hk (show own 0 33 1 (.slice A1 (Q1.map fun q => (nd q.h q.t).g).length c1) PE (Q1.map fun q => (nd q.h q.t).g) ∈ _ from mE)) (by decide)) (by rw [List.map_map]; exact rd_sl (own_slT hk (show own 0 33 1 (.slice A2 (Q2.map fun q => (nd q.h q.t).g).length c2) PE (Q2.map fun q => (nd q.h q.t).g) ∈ _ from mE)) (by decide)) ((bfsO_der hq1).rd fun ψ hψ => by obtain rfl := List.mem_singleton.1 hψ; exact hk.rR mE) ((bfsO_der hq2).rd fun ψ hψ => by obtain rfl := List.mem_singleton.1 hψ; exact hk.rR mE)) rfl rfl rfl rfl rfl (by kernel_rfl) ?_
        (repeat (first | refine g_nil ?_ | refine g_pure true hT rfl rfl rfl sI ?_ | refine g_skip rfl rfl ?_ | refine g_skip0 rfl rfl ?_ | refine gk_region rfl ?_ | refine gk_cond_t rfl rfl ?_ | refine gk_cond_f rfl rfl ?_ | refine g_yd rfl rfl (yd_load_blk hT rfl rfl mE rfl rfl) ?_ | refine g_yd rfl rfl (yd_load_row hT rfl rfl mE rfl rfl) ?_ | refine g_yd rfl rfl (yd_load_row0 hT rfl rfl mE rfl rfl) ?_ | refine g_yd rfl rfl (yd_eql rfl rfl rfl rfl rfl (by kernel_rfl)) ?_ | refine g_yd rfl rfl (yd_neq rfl rfl rfl rfl rfl (by kernel_rfl)) ?_ | refine g_yd rfl rfl (yd_index hT rfl rfl rfl sI rfl) ?_ | refine g_yd rfl rfl (yd_slice_nil hT rfl rfl rfl rfl) ?_ | refine g_yd rfl rfl (yd_build_arr hT rfl rfl rfl rfl rfl rfl) ?_ | (refine g_mv rfl ?_; first | (refine mv_box rfl rfl rfl rfl ?_; intro _) | (refine mv_alloc rfl hT rfl rfl ?_; intro _) | refine mv_store hT rfl rfl rfl rfl rfl rfl sO rfl ?_ | (refine mv_buildSlice rfl hT rfl rfl rfl rfl rfl rfl rfl rfl ?_; intro _)) | refine g_yd rfl rfl (Ys.yd (ys_str_eql hT rfl rfl rfl rfl)) ?_ | refine g_yd rfl rfl (Ys.yd (ys_str_neq hT rfl rfl rfl rfl)) ?_))
        refine g_mv rfl ?_; refine mv_call_bel (fun w hk => st_depth a M cg (M.length : Int) w hh (by omega) (hk.rO (φ := blk cg [rootV a, .int .i64 (M.length : Int)] 49) mE) (hk.rR (φ := stF a) mE)) rfl rfl rfl rfl rfl (by kernel_rfl) ?_
        (repeat (first | refine g_nil ?_ | refine g_pure true hT rfl rfl rfl sI ?_ | refine g_skip rfl rfl ?_ | refine g_skip0 rfl rfl ?_ | refine gk_region rfl ?_ | refine gk_cond_t rfl rfl ?_ | refine gk_cond_f rfl rfl ?_ | refine g_yd rfl rfl (yd_load_blk hT rfl rfl mE rfl rfl) ?_ | refine g_yd rfl rfl (yd_load_row hT rfl rfl mE rfl rfl) ?_ | refine g_yd rfl rfl (yd_load_row0 hT rfl rfl mE rfl rfl) ?_ | refine g_yd rfl rfl (yd_eql rfl rfl rfl rfl rfl (by kernel_rfl)) ?_ | refine g_yd rfl rfl (yd_neq rfl rfl rfl rfl rfl (by kernel_rfl)) ?_ | refine g_yd rfl rfl (yd_index hT rfl rfl rfl sI rfl) ?_ | refine g_yd rfl rfl (yd_slice_nil hT rfl rfl rfl rfl) ?_ | refine g_yd rfl rfl (yd_build_arr hT rfl rfl rfl rfl rfl rfl) ?_ | (refine g_mv rfl ?_; first | (refine mv_box rfl rfl rfl rfl ?_; intro _) | (refine mv_alloc rfl hT rfl rfl ?_; intro _) | refine mv_store hT rfl rfl rfl rfl rfl rfl sO rfl ?_ | (refine mv_buildSlice rfl hT rfl rfl rfl rfl rfl rfl rfl rfl ?_; intro _)) | refine g_yd rfl rfl (Ys.yd (ys_str_eql hT rfl rfl rfl rfl)) ?_ | refine g_yd rfl rfl (Ys.yd (ys_str_neq hT rfl rfl rfl rfl)) ?_))
        refine g_dec true rfl rfl (tB_true ?_) ?_
        · omega
        (repeat' (first | (first | refine g_nil ?_ | refine g_pure true hT rfl rfl rfl sI ?_ | refine g_skip rfl rfl ?_ | refine g_skip0 rfl rfl ?_ | refine gk_region rfl ?_ | refine gk_cond_t rfl rfl ?_ | refine gk_cond_f rfl rfl ?_ | refine g_yd rfl rfl (yd_load_blk hT rfl rfl mE rfl rfl) ?_ | refine g_yd rfl rfl (yd_load_row hT rfl rfl mE rfl rfl) ?_ | refine g_yd rfl rfl (yd_load_row0 hT rfl rfl mE rfl rfl) ?_ | refine g_yd rfl rfl (yd_eql rfl rfl rfl rfl rfl (by kernel_rfl)) ?_ | refine g_yd rfl rfl (yd_neq rfl rfl rfl rfl rfl (by kernel_rfl)) ?_ | refine g_yd rfl rfl (yd_index hT rfl rfl rfl sI rfl) ?_ | refine g_yd rfl rfl (yd_slice_nil hT rfl rfl rfl rfl) ?_ | refine g_yd rfl rfl (yd_build_arr hT rfl rfl rfl rfl rfl rfl) ?_ | (refine g_mv rfl ?_; first | (refine mv_box rfl rfl rfl rfl ?_; intro _) | (refine mv_alloc rfl hT rfl rfl ?_; intro _) | refine mv_store hT rfl rfl rfl rfl rfl rfl sO rfl ?_ | (refine mv_buildSlice rfl hT rfl rfl rfl rfl rfl rfl rfl rfl ?_; intro _)) | refine g_yd rfl rfl (Ys.yd (ys_str_eql hT rfl rfl rfl rfl)) ?_ | refine g_yd rfl rfl (Ys.yd (ys_str_neq hT rfl rfl rfl rfl)) ?_) | (refine g_mv rfl ?_; first | refine mv_call_bel (fun w hk => tlen_any ag (rootV ra) (rM.length : Int) w (hk.rO (φ := blk ag [rootV ra, .int .i64 (rM.length : Int)] 49) mE)) rfl rfl rfl rfl rfl (by kernel_rfl) ?_) | ((first | refine g_split rfl rfl tE (fun _ => ?_) (fun _ => ?_) | refine gk_cond rfl rfl tE (fun _ => ?_) (fun _ => ?_)) <;> (try first | (exfalso; omega; done) | (rename_i hx; exact absurd rfl hx) | (rename_i hx; cases hx; done)))))
        cases ra with
        | none =>
          (repeat' (first | (first | refine g_nil ?_ | refine g_pure true hT rfl rfl rfl sI ?_ | refine g_skip rfl rfl ?_ | refine g_skip0 rfl rfl ?_ | refine gk_region rfl ?_ | refine gk_cond_t rfl rfl ?_ | refine gk_cond_f rfl rfl ?_ | refine g_yd rfl rfl (yd_load_blk hT rfl rfl mE rfl rfl) ?_ | refine g_yd rfl rfl (yd_load_row hT rfl rfl mE rfl rfl) ?_ | refine g_yd rfl rfl (yd_load_row0 hT rfl rfl mE rfl rfl) ?_ | refine g_yd rfl rfl (yd_eql rfl rfl rfl rfl rfl (by kernel_rfl)) ?_ | refine g_yd rfl rfl (yd_neq rfl rfl rfl rfl rfl (by kernel_rfl)) ?_ | refine g_yd rfl rfl (yd_index hT rfl rfl rfl sI rfl) ?_ | refine g_yd rfl rfl (yd_slice_nil hT rfl rfl rfl rfl) ?_ | refine g_yd rfl rfl (yd_build_arr hT rfl rfl rfl rfl rfl rfl) ?_ | (refine g_mv rfl ?_; first | (refine mv_box rfl rfl rfl rfl ?_; intro _) | (refine mv_alloc rfl hT rfl rfl ?_; intro _) | refine mv_store hT rfl rfl rfl rfl rfl rfl sO rfl ?_ | (refine mv_buildSlice rfl hT rfl rfl rfl rfl rfl rfl rfl rfl ?_; intro _)) | refine g_yd rfl rfl (Ys.yd (ys_str_eql hT rfl rfl rfl rfl)) ?_ | refine g_yd rfl rfl (Ys.yd (ys_str_neq hT rfl rfl rfl rfl)) ?_) | (refine g_mv rfl ?_; first | refine mv_call_bel (fun w hk => troot_any ag (.pointer none) (rM.length : Int) w (hk.rO (φ := blk ag [.pointer none, .int .i64 (rM.length : Int)] 49) mE)) rfl rfl rfl rfl rfl (by kernel_rfl) ?_ | refine mv_call_bel (fun w hk => troot_any tg (.pointer none) (rM.length : Int) w (hk.rO (φ := blk tg [.pointer none, .int .i64 (rM.length : Int)] 49) mE)) rfl rfl rfl rfl rfl (by kernel_rfl) ?_ | refine mv_call_bel (fun w hk => alive31_any w) rfl rfl rfl rfl rfl (by kernel_rfl) ?_) | ((first | refine g_split rfl rfl tE (fun _ => ?_) (fun _ => ?_) | refine gk_cond rfl rfl tE (fun _ => ?_) (fun _ => ?_)) <;> (try first | (exfalso; omega; done) | (rename_i hx; exact absurd rfl hx) | (rename_i hx; cases hx; done)))))
          refine gk_ret hT rfl rfl (.tmp rfl .nil) (fun w' hk => ?_)
          exact ⟨rfl, hk.toBelow⟩
        | some a1 =>
          (repeat' (first | (first | refine g_nil ?_ | refine g_pure true hT rfl rfl rfl sI ?_ | refine g_skip rfl rfl ?_ | refine g_skip0 rfl rfl ?_ | refine gk_region rfl ?_ | refine gk_cond_t rfl rfl ?_ | refine gk_cond_f rfl rfl ?_ | refine g_yd rfl rfl (yd_load_blk hT rfl rfl mE rfl rfl) ?_ | refine g_yd rfl rfl (yd_load_row hT rfl rfl mE rfl rfl) ?_ | refine g_yd rfl rfl (yd_load_row0 hT rfl rfl mE rfl rfl) ?_ | refine g_yd rfl rfl (yd_eql rfl rfl rfl rfl rfl (by kernel_rfl)) ?_ | refine g_yd rfl rfl (yd_neq rfl rfl rfl rfl rfl (by kernel_rfl)) ?_ | refine g_yd rfl rfl (yd_index hT rfl rfl rfl sI rfl) ?_ | refine g_yd rfl rfl (yd_slice_nil hT rfl rfl rfl rfl) ?_ | refine g_yd rfl rfl (yd_build_arr hT rfl rfl rfl rfl rfl rfl) ?_ | (refine g_mv rfl ?_; first | (refine mv_box rfl rfl rfl rfl ?_; intro _) | (refine mv_alloc rfl hT rfl rfl ?_; intro _) | refine mv_store hT rfl rfl rfl rfl rfl rfl sO rfl ?_ | (refine mv_buildSlice rfl hT rfl rfl rfl rfl rfl rfl rfl rfl ?_; intro _)) | refine g_yd rfl rfl (Ys.yd (ys_str_eql hT rfl rfl rfl rfl)) ?_ | refine g_yd rfl rfl (Ys.yd (ys_str_neq hT rfl rfl rfl rfl)) ?_) | (refine g_mv rfl ?_; first | refine mv_call_bel (fun w hk => troot_any ag (rootV (some a1)) (rM.length : Int) w (hk.rO (φ := blk ag [rootV (some a1), .int .i64 (rM.length : Int)] 49) mE)) rfl rfl rfl rfl rfl (by kernel_rfl) ?_ | refine mv_call_bel (fun w hk => troot_any tg (rootV (some a1)) (rM.length : Int) w (hk.rO (φ := blk tg [rootV (some a1), .int .i64 (rM.length : Int)] 49) mE)) rfl rfl rfl rfl rfl (by kernel_rfl) ?_) | ((first | refine g_split rfl rfl tE (fun _ => ?_) (fun _ => ?_) | refine gk_cond rfl rfl tE (fun _ => ?_) (fun _ => ?_)) <;> (try first | (exfalso; omega; done) | (rename_i hx; exact absurd rfl hx) | (rename_i hx; cases hx; done)))))
          refine g_yd rfl rfl (Ys.yd (ys_same_eql hT rfl rfl rfl rfl rfl)) ?_
          (repeat' (first | (first | refine g_nil ?_ | refine g_pure true hT rfl rfl rfl sI ?_ | refine g_skip rfl rfl ?_ | refine g_skip0 rfl rfl ?_ | refine gk_region rfl ?_ | refine gk_cond_t rfl rfl ?_ | refine gk_cond_f rfl rfl ?_ | refine g_yd rfl rfl (yd_load_blk hT rfl rfl mE rfl rfl) ?_ | refine g_yd rfl rfl (yd_load_row hT rfl rfl mE rfl rfl) ?_ | refine g_yd rfl rfl (yd_load_row0 hT rfl rfl mE rfl rfl) ?_ | refine g_yd rfl rfl (yd_eql rfl rfl rfl rfl rfl (by kernel_rfl)) ?_ | refine g_yd rfl rfl (yd_neq rfl rfl rfl rfl rfl (by kernel_rfl)) ?_ | refine g_yd rfl rfl (yd_index hT rfl rfl rfl sI rfl) ?_ | refine g_yd rfl rfl (yd_slice_nil hT rfl rfl rfl rfl) ?_ | refine g_yd rfl rfl (yd_build_arr hT rfl rfl rfl rfl rfl rfl) ?_ | (refine g_mv rfl ?_; first | (refine mv_box rfl rfl rfl rfl ?_; intro _) | (refine mv_alloc rfl hT rfl rfl ?_; intro _) | refine mv_store hT rfl rfl rfl rfl rfl rfl sO rfl ?_ | (refine mv_buildSlice rfl hT rfl rfl rfl rfl rfl rfl rfl rfl ?_; intro _)) | refine g_yd rfl rfl (Ys.yd (ys_str_eql hT rfl rfl rfl rfl)) ?_ | refine g_yd rfl rfl (Ys.yd (ys_str_neq hT rfl rfl rfl rfl)) ?_) | (refine g_mv rfl ?_; first | refine mv_call_bel (fun w hk => alive31_any w) rfl rfl rfl rfl rfl (by kernel_rfl) ?_) | ((first | refine g_split rfl rfl tE (fun _ => ?_) (fun _ => ?_) | refine gk_cond rfl rfl tE (fun _ => ?_) (fun _ => ?_)) <;> (try first | (exfalso; omega; done) | (rename_i hx; exact absurd rfl hx) | (rename_i hx; cases hx; done)))))
          refine gk_ret hT rfl rfl (.tmp rfl .nil) (fun w' hk => ?_)
          exact ⟨rfl, hk.toBelow⟩
end Go.Proofs.Ytajmjfnecmknnaa.Tw

