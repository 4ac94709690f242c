/- The queue of timers: Set, Cancel, At, Len, PopS. -/
import Derived.Test.YtgpfedmfbkhhcaaDv4
import Derived.Test.YtgpfedmfbkhhcaaDu5
namespace Go.Proofs.Ytgpfedmfbkhhcaa.Dv
open Go.RowKit Mem Gx Hp Du
set_option linter.unusedVariables false
set_option linter.unusedSimpArgs false
set_option maxRecDepth 100000
set_option maxHeartbeats 1000000
/-- Where a queue lies. -/
structure QuS where
  mo : Option Nat
  v : Value
  L : List Tim
def quL (g : Nat) (ru nw : Value) (s : QuS) : List Fact := match s.mo with
  | some r => duL g r ru nw s.v s.L
  | none => [blk g [ru, s.v, .map none, nw] 33, own 0 87 3 s.v TE s.L]
abbrev quF (g : Nat) (ru nw : Value) (s : QuS) : Fact := packF (quL g ru nw s)
theorem qu_fin (g : Nat) (ru nw : Value) (s : QuS) : ∀ b, (quF g ru nw s).S b ↔ b ∈ (g :: ownE s.v) ++ s.mo.toList := fun b => by
  obtain ⟨mo, v, L⟩ := s
  cases mo with
  | some r => exact du_fin g r ru nw v L b
  | none =>
    constructor
    · rintro ⟨φ, hφ, hb⟩
      rcases List.mem_cons.1 hφ with rfl | hφ
      · have : b = g := hb
        rw [this]
        exact List.mem_append_left _ (.head _)
      · obtain rfl := List.mem_singleton.1 hφ
        exact List.mem_append_left _ (.tail _ (ownE_mem.2 hb))
    · intro hb
      rcases List.mem_append.1 hb with hb | hb
      · rcases List.mem_cons.1 hb with rfl | hb
        · exact ⟨_, .head _, rfl⟩
        · exact ⟨_, .tail _ (.head _), ownE_mem.1 hb⟩
      · cases hb
theorem qset_any (g : Nat) (ru nw : Value) (s : QuS) (S : List Tim) (x : Tim) (w : World) (hs : QuOk s.mo s.L S) (hl : S.length < 10000) (h : Rd1 w (quF g ru nw s)) :
    Calls Try.prog 35 [rowP g, x.val].toArray w (RetM (quF g ru nw s) (fun s' => QuOk s'.mo s'.L (setP x S)) (fun _ => .tuple #[]) (fun s' => quF g ru nw s') w) := by
  obtain ⟨mo, v, L⟩ := s
  replace hs : QuOk mo L S := hs
  have hEE : ∀ b, b ∈ (g :: ownE v) ++ mo.toList → (quF g ru nw ⟨mo, v, L⟩).S b := fun b hb => (qu_fin g ru nw _ b).2 hb
  cases mo with
  | some r =>
    refine g_enter0 T _ (duL g r ru nw v L) [] Try.func35 rfl Try.ntmps35 rfl (Kn.startP (l := duL g r ru nw v L) h (fun b hb => (qu_fin g ru nw ⟨some r, v, L⟩ b).1 hb) (fun _ h => by cases h)) ?_
    refine gk_mpxE (L := L) (by repeat (first | with_reducible exact Sel.here | with_reducible apply Sel.there)) (fun M hM => ?_)
    (repeat (refine gG ?_; try intro _))
    rename_i g3
    refine g_yd rfl rfl (Ys.yd (ys_map_nil hT rfl rfl rfl Try.underlying26)) ?_
    (repeat (refine gG ?_; try intro _))
    refine gk_sel (f' := [(0, rowP g), (3, .pointer (some ⟨g3, 0, none⟩))]) (O' := [blk g3 [.int .u64 x.t, .int .i64 x.k, .int .i64 x.i] 87, blk g [ru, v, .map (some r), nw] 33, own 0 87 3 v TE L, mpk r (pairV .i64) M]) (R' := []) (by repeat (first | exact trivial | refine ⟨rfl, ?_⟩)) sA sS ?_
    have hKL : Keys L := hs.keys.perm hs.l
    have hLl : L.length = S.length := hs.l.length_eq
    have hS9 := hs.len
    cases hi : idx L x.key with
    | some i =>
      obtain ⟨y, hy, hyk⟩ := idx_get hi
      have hil := (List.getElem?_eq_some_iff.1 hy).1
      have hmg : mg x.key M = some (.int .i64 (i : Int)) := by rw [← hyk]; exact map_at hKL hM hy
      refine gk_own0 v (L := L) mE (by omega) (fun b c hv hc hm => ?_)
      subst hv
      refine gk_any [0, 1] (Cut _ (fun _ : Unit => [(0, rowP g), (3, .pointer (some ⟨g3, 0, none⟩)), (4, .int .i64 (i : Int)), (5, .bool true)]) (fun _ => [blk g3 [.int .u64 x.t, .int .i64 x.k, .int .i64 x.i] 87, blk g [ru, (.slice (some ⟨b, 0, none⟩) L.length c), .map (some r), nw] 33, own 0 87 3 (.slice (some ⟨b, 0, none⟩) L.length c) TE L, mpk r (pairV .i64) M]) (fun _ => [])) rfl rfl (by kernel_rfl) ?_ (cut_k fun _ => ?_)
      · refine gb_weak (f' := [(0, rowP g), (3, .pointer (some ⟨g3, 0, none⟩))]) (O' := [blk g3 [.int .u64 x.t, .int .i64 x.k, .int .i64 x.i] 87, blk g [ru, (.slice (some ⟨b, 0, none⟩) L.length c), .map (some r), nw] 33, own 0 87 3 (.slice (some ⟨b, 0, none⟩) L.length c) TE L, mpk r (pairV .i64) M]) (R' := []) (by repeat (first | exact trivial | refine ⟨rfl, ?_⟩)) sA sS ?_
        refine gb_take 0 rfl (by decide +kernel) rfl rfl (ys_ev (nw := true) hT rfl sI) sF ?_
        refine gb_take 1 rfl (by decide +kernel) rfl rfl (ys_ev (nw := true) hT rfl sI) sF ?_
        refine gb_take 2 rfl (by decide +kernel) rfl rfl (ys_ev (nw := true) hT rfl sI) sF ?_
        refine gb_take 3 rfl (by decide +kernel) rfl rfl (ys_ev (nw := true) hT rfl sI) sF ?_
        refine gb_take 4 rfl (by decide +kernel) rfl rfl (by first | exact ys_blk hT rfl rfl mE rfl rfl | exact ys_row hT rfl rfl mE rfl rfl | exact ys_row0 hT rfl rfl mE rfl rfl) sF ?_
        refine gb_take 5 rfl (by decide +kernel) rfl rfl (by first | exact ys_blk hT rfl rfl mE rfl rfl | exact ys_row hT rfl rfl mE rfl rfl | exact ys_row0 hT rfl rfl mE rfl rfl) sF ?_
        refine gb_only 6 (by decide +kernel) rfl rfl ?_
        refine mv_call_bel (fun w hk => dof_any x w) rfl rfl rfl rfl rfl (by kernel_rfl) ?_
        refine ⟨sF, ?_⟩
        refine gb_only 7 (by decide +kernel) rfl rfl ?_
        refine mv_yd rfl (Ys.ydS (ys_lookupG (S := [mpk r (pairV .i64) M]) x.key rfl rfl rfl rfl Try.underlying26 kok_name z_int mE) sF) ?_
        refine ⟨sF, ?_⟩
        try (refine gb_say 25 (.tuple #[.int .i64 (i : Int), .bool true]) rfl (lkv_some hmg) ?_)
        refine gb_take 8 rfl (by decide +kernel) rfl rfl (ys_ev (nw := true) hT rfl sI) sF ?_
        refine gb_take 9 rfl (by decide +kernel) rfl rfl (ys_ev (nw := true) hT rfl sI) sF ?_
        refine gb_take 10 rfl (by decide +kernel) rfl rfl (ys_ev (nw := true) hT rfl sI) sF ?_
        refine gb_take 11 rfl (by decide +kernel) rfl rfl (ys_ev (nw := true) hT rfl sI) sF ?_
        refine gb_take 12 rfl (by decide +kernel) rfl rfl (ys_ev (nw := true) hT rfl sI) sF ?_
        refine gb_nil (by decide +kernel) ?_
        exact ⟨(), (by repeat (first | exact trivial | refine ⟨rfl, ?_⟩)), sA, sS⟩
      · (repeat (refine gG ?_; try intro _))
        refine gk_any [0, 1] (Cut _ (fun _ : Unit => [(0, rowP g), (4, .int .i64 (i : Int))]) (fun _ => [blk g [ru, (.slice (some ⟨b, 0, none⟩) L.length c), .map (some r), nw] 33, own 0 87 3 (.slice (some ⟨b, 0, none⟩) L.length c) TE (L.set i x), mpk r (pairV .i64) M]) (fun _ => [])) rfl rfl (by kernel_rfl) ?_ (cut_k fun _ => ?_)
        · skip
          refine gb_take 0 rfl (by decide +kernel) rfl rfl (ys_ev (nw := true) hT rfl sI) sF ?_
          refine gb_take 1 rfl (by decide +kernel) rfl rfl (ys_ev (nw := true) hT rfl sI) sF ?_
          refine gb_take 2 rfl (by decide +kernel) rfl rfl (ys_ev (nw := true) hT rfl sI) sF ?_
          refine gb_take 3 rfl (by decide +kernel) rfl rfl (ys_ev (nw := true) hT rfl sI) sF ?_
          refine gb_take 4 rfl (by decide +kernel) rfl rfl (by first | exact ys_blk hT rfl rfl mE rfl rfl | exact ys_row hT rfl rfl mE rfl rfl | exact ys_row0 hT rfl rfl mE rfl rfl) sF ?_
          refine gb_take 5 rfl (by decide +kernel) rfl rfl (ys_ev (nw := true) hT rfl sI) sF ?_
          refine gb_take 6 rfl (by decide +kernel) rfl rfl (ys_ev (nw := true) hT rfl sI) sF ?_
          refine gb_take 7 rfl (by decide +kernel) rfl rfl (by first | exact ys_blk hT rfl rfl mE rfl rfl | exact ys_row hT rfl rfl mE rfl rfl | exact ys_row0 hT rfl rfl mE rfl rfl) sF ?_
          refine gb_take 8 rfl (by decide +kernel) rfl rfl (ys_ev (nw := true) hT rfl (by omega)) sF ?_
          refine gb_take 9 rfl (by decide +kernel) rfl rfl (ys_ev (nw := true) hT rfl sI) sF ?_
          refine gb_only 10 (by decide +kernel) rfl rfl ?_
          refine mv_store_own hT i 0 y x rfl rfl (by show 0 + i * 3 + 0 = i * 3 + 0; omega) rfl rfl rfl rfl hy (by decide) (fun b hb hne => te_key hyk b (by omega)) rfl (by first | ((repeat (first | with_reducible exact Upd.here _ | with_reducible apply Upd.there)); done) | ((repeat (first | exact Upd.here _ | apply Upd.there)); done) | fail) rfl ?_
          refine ⟨sF, ?_⟩
          refine gb_nil (by decide +kernel) ?_
          exact ⟨(), (by repeat (first | exact trivial | refine ⟨rfl, ?_⟩)), sA, sS⟩
        · refine gk_mpxI (map_set hy hyk.symm hM) (by repeat (first | with_reducible exact Sel.here | with_reducible apply Sel.there)) ?_
          have hK1 : Keys (L.set i x) := by unfold Keys; rw [keys_set1 hy hyk.symm]; exact hKL
          have hl1 : (L.set i x).length = L.length := List.length_set
          have hne : ∀ k, k ≠ i → (L.set i x)[k]? = L[k]? := fun k hk => List.getElem?_set_ne (fun h => hk h.symm)
          rw [← hl1]
          refine gk_pack (duL g r ru nw (.slice (some ⟨b, 0, none⟩) (L.set i x).length c) (L.set i x)) [] sA ?_
          (repeat (refine gG ?_; try intro _))
          refine g_yd rfl rfl (Ys.yd (ys_makeIface rfl rfl (by kernel_rfl))) ?_
          (repeat (refine gG ?_; try intro _))
          refine g_mv rfl (mv_call_mod (φ := duF g r ru nw (.slice (some ⟨b, 0, none⟩) (L.set i x).length c) (L.set i x)) (ψ := fun L' => duF g r ru nw (.slice (some ⟨b, 0, none⟩) (L.set i x).length c) L') (fun w hk => hfix_any (duHO g r ru nw) (.slice (some ⟨b, 0, none⟩) (L.set i x).length c) (L.set i x) L i w (hk.rO (φ := duF g r ru nw (.slice (some ⟨b, 0, none⟩) (L.set i x).length c) (L.set i x)) mE) hK1 (by omega) (by omega) hl1.symm hs.heap hne) rfl rfl rfl rfl rfl (by kernel_rfl) (by intro _; first | ((repeat (first | with_reducible exact Upd.here _ | with_reducible apply Upd.there)); done) | ((repeat (first | exact Upd.here _ | apply Upd.there)); done) | fail) (fun L' hI => ?_))
          obtain ⟨hp, hh⟩ := hI
          (repeat (refine gG ?_; try intro _))
          refine gk_ret hT rfl rfl .nil (fun w' hk => ?_)
          exact RetM.mk (ψ := fun s => quF g ru nw s) (⟨some r, _, L'⟩ : QuS) (hs.setSome hy hyk hp hh) rfl hk (fun b1 hb1 => (qu_fin g ru nw _ b1).2 hb1) (mE : duF g r ru nw (.slice (some ⟨b, 0, none⟩) (L.set i x).length c) L' ∈ _)
    | none =>
      have hmg : mg x.key M = none := by rw [hM.get]; unfold posT; rw [hi]; rfl
      have hKn : Keys (L ++ [x]) := by
        unfold Keys
        rw [List.map_append]
        exact List.nodup_append.2 ⟨hKL, by simp, fun a ha b hb e => idx_none.1 hi (by rw [List.map_cons, List.map_nil, List.mem_singleton] at hb; rw [← hb, ← e]; exact ha)⟩
      refine gk_any [0, 1] (Cut _ (fun _ : Unit => [(0, rowP g), (3, .pointer (some ⟨g3, 0, none⟩)), (5, .bool false)]) (fun _ => [blk g3 [.int .u64 x.t, .int .i64 x.k, .int .i64 x.i] 87, blk g [ru, v, .map (some r), nw] 33, own 0 87 3 v TE L, mpk r (pairV .i64) M]) (fun _ => [])) rfl rfl (by kernel_rfl) ?_ (cut_k fun _ => ?_)
      · refine gb_weak (f' := [(0, rowP g), (3, .pointer (some ⟨g3, 0, none⟩))]) (O' := [blk g3 [.int .u64 x.t, .int .i64 x.k, .int .i64 x.i] 87, blk g [ru, v, .map (some r), nw] 33, own 0 87 3 v TE L, mpk r (pairV .i64) M]) (R' := []) (by repeat (first | exact trivial | refine ⟨rfl, ?_⟩)) sA sS ?_
        refine gb_take 0 rfl (by decide +kernel) rfl rfl (ys_ev (nw := true) hT rfl sI) sF ?_
        refine gb_take 1 rfl (by decide +kernel) rfl rfl (ys_ev (nw := true) hT rfl sI) sF ?_
        refine gb_take 2 rfl (by decide +kernel) rfl rfl (ys_ev (nw := true) hT rfl sI) sF ?_
        refine gb_take 3 rfl (by decide +kernel) rfl rfl (ys_ev (nw := true) hT rfl sI) sF ?_
        refine gb_take 4 rfl (by decide +kernel) rfl rfl (by first | exact ys_blk hT rfl rfl mE rfl rfl | exact ys_row hT rfl rfl mE rfl rfl | exact ys_row0 hT rfl rfl mE rfl rfl) sF ?_
        refine gb_take 5 rfl (by decide +kernel) rfl rfl (by first | exact ys_blk hT rfl rfl mE rfl rfl | exact ys_row hT rfl rfl mE rfl rfl | exact ys_row0 hT rfl rfl mE rfl rfl) sF ?_
        refine gb_only 6 (by decide +kernel) rfl rfl ?_
        refine mv_call_bel (fun w hk => dof_any x w) rfl rfl rfl rfl rfl (by kernel_rfl) ?_
        refine ⟨sF, ?_⟩
        refine gb_only 7 (by decide +kernel) rfl rfl ?_
        refine mv_yd rfl (Ys.ydS (ys_lookupG (S := [mpk r (pairV .i64) M]) x.key rfl rfl rfl rfl Try.underlying26 kok_name z_int mE) sF) ?_
        refine ⟨sF, ?_⟩
        try (refine gb_say 25 (.tuple #[.int .i64 0, .bool false]) rfl (lkv_none hmg) ?_)
        refine gb_take 8 rfl (by decide +kernel) rfl rfl (ys_ev (nw := true) hT rfl sI) sF ?_
        refine gb_take 9 rfl (by decide +kernel) rfl rfl (ys_ev (nw := true) hT rfl sI) sF ?_
        refine gb_take 10 rfl (by decide +kernel) rfl rfl (ys_ev (nw := true) hT rfl sI) sF ?_
        refine gb_take 11 rfl (by decide +kernel) rfl rfl (ys_ev (nw := true) hT rfl sI) sF ?_
        refine gb_take 12 rfl (by decide +kernel) rfl rfl (ys_ev (nw := true) hT rfl sI) sF ?_
        refine gb_nil (by decide +kernel) ?_
        exact ⟨(), (by repeat (first | exact trivial | refine ⟨rfl, ?_⟩)), sA, sS⟩
      · (repeat (refine gG ?_; try intro _))
        refine gk_mpxI hM (by repeat (first | with_reducible exact Sel.here | with_reducible apply Sel.there)) ?_
        refine gk_pack (duL g r ru nw v L) [blk g3 [.int .u64 x.t, .int .i64 x.k, .int .i64 x.i] 87] sA ?_
        refine gk_any [1] (Cut _ (fun _ : {q : Value × List Tim // q.2.Perm (L ++ [x]) ∧ HeapN ltT q.2 q.2.length} => []) (fun q => [duF g r ru nw q.1.1 q.1.2]) (fun _ => [])) rfl rfl (by kernel_rfl) ?_ (cut_k fun q => ?_)
        · skip
          refine gb_take 0 rfl (by decide +kernel) rfl rfl (ys_ev (nw := true) hT rfl sI) sF ?_
          refine gb_take 1 rfl (by decide +kernel) rfl rfl (ys_ev (nw := true) hT rfl sI) sF ?_
          refine gb_take 2 rfl (by decide +kernel) rfl rfl (ys_ev (nw := true) hT rfl sI) sF ?_
          refine gb_take 3 rfl (by decide +kernel) rfl rfl (ys_makeIface rfl rfl (by kernel_rfl)) sF ?_
          refine gb_take 4 rfl (by decide +kernel) rfl rfl (by first | exact ys_blk hT rfl rfl mE rfl rfl | exact ys_row hT rfl rfl mE rfl rfl | exact ys_row0 hT rfl rfl mE rfl rfl) sF ?_
          refine gb_take 5 rfl (by decide +kernel) rfl rfl (ys_makeIface rfl rfl (by kernel_rfl)) sF ?_
          refine gb_only 6 (by decide +kernel) rfl rfl ?_
          (refine mv_call_mod (φ := duF g r ru nw v L) (ψ := fun q : Value × List Tim => duF g r ru nw q.1 q.2) (fun w hk => hpush_any (duHO g r ru nw) v L x w (hk.rO (φ := duF g r ru nw v L) mE) hKn (by omega) hs.heap) rfl rfl rfl rfl rfl (by kernel_rfl) (by intro _; first | ((repeat (first | with_reducible exact Upd.here _ | with_reducible apply Upd.there)); done) | ((repeat (first | exact Upd.here _ | apply Upd.there)); done) | fail) (fun q hI => ?_))
          refine ⟨sF, ?_⟩
          refine gb_nil (by decide +kernel) ?_
          exact ⟨⟨(q.1, q.2), hI⟩, (by repeat (first | exact trivial | refine ⟨rfl, ?_⟩)), sA, sS⟩
        · obtain ⟨⟨v1, L1⟩, hp, hh⟩ := q
          (repeat (refine gG ?_; try intro _))
          refine gk_fin hT rfl rfl .nil (fun w' hk => ?_)
          exact RetM.mk (ψ := fun s => quF g ru nw s) (⟨some r, v1, L1⟩ : QuS) (hs.setNone hi hl hp hh) rfl hk hEE (mE : duF g r ru nw v1 L1 ∈ _)
  | none =>
    have hL0 : L = [] := by
      have h1 := hs.nil rfl
      have h2 := hs.l.length_eq
      rw [h1] at h2
      simpa using h2
    refine g_enter0 T _ [blk g [ru, v, .map none, nw] 33, own 0 87 3 v TE L] [] Try.func35 rfl Try.ntmps35 rfl (Kn.startP (l := [blk g [ru, v, .map none, nw] 33, own 0 87 3 v TE L]) h (fun b hb => (qu_fin g ru nw ⟨none, v, L⟩ b).1 hb) (fun _ h => by cases h)) ?_
    (repeat (refine gG ?_; try intro _))
    rename_i g3
    refine g_yd rfl rfl (Ys.yd (ys_map_nil hT rfl rfl rfl Try.underlying26)) ?_
    (repeat (refine gG ?_; try intro _))
    refine g_mv rfl (mv_makeMapG rfl (pairV .i64) rfl (fun r => ?_))
    (repeat (refine gG ?_; try intro _))
    have hM : MapIs ([] : List ((Int × Int) × Value)) (posT L) := by rw [hL0]; exact MapIs.nil
    obtain ⟨M, hMe⟩ : ∃ M : List ((Int × Int) × Value), M = [] := ⟨_, rfl⟩
    rw [← hMe] at hM
    refine gk_sel (f' := [(0, rowP g), (3, .pointer (some ⟨g3, 0, none⟩))]) (O' := [blk g3 [.int .u64 x.t, .int .i64 x.k, .int .i64 x.i] 87, blk g [ru, v, .map (some r), nw] 33, own 0 87 3 v TE L, mpk r (pairV .i64) []]) (R' := []) (by repeat (first | exact trivial | refine ⟨rfl, ?_⟩)) sA sS ?_
    rw [← hMe]
    have hKL : Keys L := hs.keys.perm hs.l
    have hLl : L.length = S.length := hs.l.length_eq
    have hS9 := hs.len
    cases hi : idx L x.key with
    | some i =>
      obtain ⟨y, hy, hyk⟩ := idx_get hi
      have hil := (List.getElem?_eq_some_iff.1 hy).1
      have hmg : mg x.key M = some (.int .i64 (i : Int)) := by rw [← hyk]; exact map_at hKL hM hy
      refine gk_own0 v (L := L) mE (by omega) (fun b c hv hc hm => ?_)
      subst hv
      refine gk_any [0, 1] (Cut _ (fun _ : Unit => [(0, rowP g), (3, .pointer (some ⟨g3, 0, none⟩)), (4, .int .i64 (i : Int)), (5, .bool true)]) (fun _ => [blk g3 [.int .u64 x.t, .int .i64 x.k, .int .i64 x.i] 87, blk g [ru, (.slice (some ⟨b, 0, none⟩) L.length c), .map (some r), nw] 33, own 0 87 3 (.slice (some ⟨b, 0, none⟩) L.length c) TE L, mpk r (pairV .i64) M]) (fun _ => [])) rfl rfl (by kernel_rfl) ?_ (cut_k fun _ => ?_)
      · refine gb_weak (f' := [(0, rowP g), (3, .pointer (some ⟨g3, 0, none⟩))]) (O' := [blk g3 [.int .u64 x.t, .int .i64 x.k, .int .i64 x.i] 87, blk g [ru, (.slice (some ⟨b, 0, none⟩) L.length c), .map (some r), nw] 33, own 0 87 3 (.slice (some ⟨b, 0, none⟩) L.length c) TE L, mpk r (pairV .i64) M]) (R' := []) (by repeat (first | exact trivial | refine ⟨rfl, ?_⟩)) sA sS ?_
        refine gb_take 0 rfl (by decide +kernel) rfl rfl (ys_ev (nw := true) hT rfl sI) sF ?_
        refine gb_take 1 rfl (by decide +kernel) rfl rfl (ys_ev (nw := true) hT rfl sI) sF ?_
        refine gb_take 2 rfl (by decide +kernel) rfl rfl (ys_ev (nw := true) hT rfl sI) sF ?_
        refine gb_take 3 rfl (by decide +kernel) rfl rfl (ys_ev (nw := true) hT rfl sI) sF ?_
        refine gb_take 4 rfl (by decide +kernel) rfl rfl (by first | exact ys_blk hT rfl rfl mE rfl rfl | exact ys_row hT rfl rfl mE rfl rfl | exact ys_row0 hT rfl rfl mE rfl rfl) sF ?_
        refine gb_take 5 rfl (by decide +kernel) rfl rfl (by first | exact ys_blk hT rfl rfl mE rfl rfl | exact ys_row hT rfl rfl mE rfl rfl | exact ys_row0 hT rfl rfl mE rfl rfl) sF ?_
        refine gb_only 6 (by decide +kernel) rfl rfl ?_
        refine mv_call_bel (fun w hk => dof_any x w) rfl rfl rfl rfl rfl (by kernel_rfl) ?_
        refine ⟨sF, ?_⟩
        refine gb_only 7 (by decide +kernel) rfl rfl ?_
        refine mv_yd rfl (Ys.ydS (ys_lookupG (S := [mpk r (pairV .i64) M]) x.key rfl rfl rfl rfl Try.underlying26 kok_name z_int mE) sF) ?_
        refine ⟨sF, ?_⟩
        try (refine gb_say 25 (.tuple #[.int .i64 (i : Int), .bool true]) rfl (lkv_some hmg) ?_)
        refine gb_take 8 rfl (by decide +kernel) rfl rfl (ys_ev (nw := true) hT rfl sI) sF ?_
        refine gb_take 9 rfl (by decide +kernel) rfl rfl (ys_ev (nw := true) hT rfl sI) sF ?_
        refine gb_take 10 rfl (by decide +kernel) rfl rfl (ys_ev (nw := true) hT rfl sI) sF ?_
        refine gb_take 11 rfl (by decide +kernel) rfl rfl (ys_ev (nw := true) hT rfl sI) sF ?_
        refine gb_take 12 rfl (by decide +kernel) rfl rfl (ys_ev (nw := true) hT rfl sI) sF ?_
        refine gb_nil (by decide +kernel) ?_
        exact ⟨(), (by repeat (first | exact trivial | refine ⟨rfl, ?_⟩)), sA, sS⟩
      · (repeat (refine gG ?_; try intro _))
        refine gk_any [0, 1] (Cut _ (fun _ : Unit => [(0, rowP g), (4, .int .i64 (i : Int))]) (fun _ => [blk g [ru, (.slice (some ⟨b, 0, none⟩) L.length c), .map (some r), nw] 33, own 0 87 3 (.slice (some ⟨b, 0, none⟩) L.length c) TE (L.set i x), mpk r (pairV .i64) M]) (fun _ => [])) rfl rfl (by kernel_rfl) ?_ (cut_k fun _ => ?_)
        · skip
          refine gb_take 0 rfl (by decide +kernel) rfl rfl (ys_ev (nw := true) hT rfl sI) sF ?_
          refine gb_take 1 rfl (by decide +kernel) rfl rfl (ys_ev (nw := true) hT rfl sI) sF ?_
          refine gb_take 2 rfl (by decide +kernel) rfl rfl (ys_ev (nw := true) hT rfl sI) sF ?_
          refine gb_take 3 rfl (by decide +kernel) rfl rfl (ys_ev (nw := true) hT rfl sI) sF ?_
          refine gb_take 4 rfl (by decide +kernel) rfl rfl (by first | exact ys_blk hT rfl rfl mE rfl rfl | exact ys_row hT rfl rfl mE rfl rfl | exact ys_row0 hT rfl rfl mE rfl rfl) sF ?_
          refine gb_take 5 rfl (by decide +kernel) rfl rfl (ys_ev (nw := true) hT rfl sI) sF ?_
          refine gb_take 6 rfl (by decide +kernel) rfl rfl (ys_ev (nw := true) hT rfl sI) sF ?_
          refine gb_take 7 rfl (by decide +kernel) rfl rfl (by first | exact ys_blk hT rfl rfl mE rfl rfl | exact ys_row hT rfl rfl mE rfl rfl | exact ys_row0 hT rfl rfl mE rfl rfl) sF ?_
          refine gb_take 8 rfl (by decide +kernel) rfl rfl (ys_ev (nw := true) hT rfl (by omega)) sF ?_
          refine gb_take 9 rfl (by decide +kernel) rfl rfl (ys_ev (nw := true) hT rfl sI) sF ?_
          refine gb_only 10 (by decide +kernel) rfl rfl ?_
          refine mv_store_own hT i 0 y x rfl rfl (by show 0 + i * 3 + 0 = i * 3 + 0; omega) rfl rfl rfl rfl hy (by decide) (fun b hb hne => te_key hyk b (by omega)) rfl (by first | ((repeat (first | with_reducible exact Upd.here _ | with_reducible apply Upd.there)); done) | ((repeat (first | exact Upd.here _ | apply Upd.there)); done) | fail) rfl ?_
          refine ⟨sF, ?_⟩
          refine gb_nil (by decide +kernel) ?_
          exact ⟨(), (by repeat (first | exact trivial | refine ⟨rfl, ?_⟩)), sA, sS⟩
        · refine gk_mpxI (map_set hy hyk.symm hM) (by repeat (first | with_reducible exact Sel.here | with_reducible apply Sel.there)) ?_
          have hK1 : Keys (L.set i x) := by unfold Keys; rw [keys_set1 hy hyk.symm]; exact hKL
          have hl1 : (L.set i x).length = L.length := List.length_set
          have hne : ∀ k, k ≠ i → (L.set i x)[k]? = L[k]? := fun k hk => List.getElem?_set_ne (fun h => hk h.symm)
          rw [← hl1]
          refine gk_pack (duL g r ru nw (.slice (some ⟨b, 0, none⟩) (L.set i x).length c) (L.set i x)) [] sA ?_
          (repeat (refine gG ?_; try intro _))
          refine g_yd rfl rfl (Ys.yd (ys_makeIface rfl rfl (by kernel_rfl))) ?_
          (repeat (refine gG ?_; try intro _))
          refine g_mv rfl (mv_call_mod (φ := duF g r ru nw (.slice (some ⟨b, 0, none⟩) (L.set i x).length c) (L.set i x)) (ψ := fun L' => duF g r ru nw (.slice (some ⟨b, 0, none⟩) (L.set i x).length c) L') (fun w hk => hfix_any (duHO g r ru nw) (.slice (some ⟨b, 0, none⟩) (L.set i x).length c) (L.set i x) L i w (hk.rO (φ := duF g r ru nw (.slice (some ⟨b, 0, none⟩) (L.set i x).length c) (L.set i x)) mE) hK1 (by omega) (by omega) hl1.symm hs.heap hne) rfl rfl rfl rfl rfl (by kernel_rfl) (by intro _; first | ((repeat (first | with_reducible exact Upd.here _ | with_reducible apply Upd.there)); done) | ((repeat (first | exact Upd.here _ | apply Upd.there)); done) | fail) (fun L' hI => ?_))
          obtain ⟨hp, hh⟩ := hI
          (repeat (refine gG ?_; try intro _))
          refine gk_ret hT rfl rfl .nil (fun w' hk => ?_)
          exact RetM.mk (ψ := fun s => quF g ru nw s) (⟨some r, _, L'⟩ : QuS) (hs.setSome hy hyk hp hh) rfl hk (fun b1 hb1 => (qu_fin g ru nw _ b1).2 hb1) (mE : duF g r ru nw (.slice (some ⟨b, 0, none⟩) (L.set i x).length c) L' ∈ _)
    | none =>
      have hmg : mg x.key M = none := by rw [hM.get]; unfold posT; rw [hi]; rfl
      have hKn : Keys (L ++ [x]) := by
        unfold Keys
        rw [List.map_append]
        exact List.nodup_append.2 ⟨hKL, by simp, fun a ha b hb e => idx_none.1 hi (by rw [List.map_cons, List.map_nil, List.mem_singleton] at hb; rw [← hb, ← e]; exact ha)⟩
      refine gk_any [0, 1] (Cut _ (fun _ : Unit => [(0, rowP g), (3, .pointer (some ⟨g3, 0, none⟩)), (5, .bool false)]) (fun _ => [blk g3 [.int .u64 x.t, .int .i64 x.k, .int .i64 x.i] 87, blk g [ru, v, .map (some r), nw] 33, own 0 87 3 v TE L, mpk r (pairV .i64) M]) (fun _ => [])) rfl rfl (by kernel_rfl) ?_ (cut_k fun _ => ?_)
      · refine gb_weak (f' := [(0, rowP g), (3, .pointer (some ⟨g3, 0, none⟩))]) (O' := [blk g3 [.int .u64 x.t, .int .i64 x.k, .int .i64 x.i] 87, blk g [ru, v, .map (some r), nw] 33, own 0 87 3 v TE L, mpk r (pairV .i64) M]) (R' := []) (by repeat (first | exact trivial | refine ⟨rfl, ?_⟩)) sA sS ?_
        refine gb_take 0 rfl (by decide +kernel) rfl rfl (ys_ev (nw := true) hT rfl sI) sF ?_
        refine gb_take 1 rfl (by decide +kernel) rfl rfl (ys_ev (nw := true) hT rfl sI) sF ?_
        refine gb_take 2 rfl (by decide +kernel) rfl rfl (ys_ev (nw := true) hT rfl sI) sF ?_
        refine gb_take 3 rfl (by decide +kernel) rfl rfl (ys_ev (nw := true) hT rfl sI) sF ?_
        refine gb_take 4 rfl (by decide +kernel) rfl rfl (by first | exact ys_blk hT rfl rfl mE rfl rfl | exact ys_row hT rfl rfl mE rfl rfl | exact ys_row0 hT rfl rfl mE rfl rfl) sF ?_
        refine gb_take 5 rfl (by decide +kernel) rfl rfl (by first | exact ys_blk hT rfl rfl mE rfl rfl | exact ys_row hT rfl rfl mE rfl rfl | exact ys_row0 hT rfl rfl mE rfl rfl) sF ?_
        refine gb_only 6 (by decide +kernel) rfl rfl ?_
        refine mv_call_bel (fun w hk => dof_any x w) rfl rfl rfl rfl rfl (by kernel_rfl) ?_
        refine ⟨sF, ?_⟩
        refine gb_only 7 (by decide +kernel) rfl rfl ?_
        refine mv_yd rfl (Ys.ydS (ys_lookupG (S := [mpk r (pairV .i64) M]) x.key rfl rfl rfl rfl Try.underlying26 kok_name z_int mE) sF) ?_
        refine ⟨sF, ?_⟩
        try (refine gb_say 25 (.tuple #[.int .i64 0, .bool false]) rfl (lkv_none hmg) ?_)
        refine gb_take 8 rfl (by decide +kernel) rfl rfl (ys_ev (nw := true) hT rfl sI) sF ?_
        refine gb_take 9 rfl (by decide +kernel) rfl rfl (ys_ev (nw := true) hT rfl sI) sF ?_
        refine gb_take 10 rfl (by decide +kernel) rfl rfl (ys_ev (nw := true) hT rfl sI) sF ?_
        refine gb_take 11 rfl (by decide +kernel) rfl rfl (ys_ev (nw := true) hT rfl sI) sF ?_
        refine gb_take 12 rfl (by decide +kernel) rfl rfl (ys_ev (nw := true) hT rfl sI) sF ?_
        refine gb_nil (by decide +kernel) ?_
        exact ⟨(), (by repeat (first | exact trivial | refine ⟨rfl, ?_⟩)), sA, sS⟩
      · (repeat (refine gG ?_; try intro _))
        refine gk_mpxI hM (by repeat (first | with_reducible exact Sel.here | with_reducible apply Sel.there)) ?_
        refine gk_pack (duL g r ru nw v L) [blk g3 [.int .u64 x.t, .int .i64 x.k, .int .i64 x.i] 87] sA ?_
        refine gk_any [1] (Cut _ (fun _ : {q : Value × List Tim // q.2.Perm (L ++ [x]) ∧ HeapN ltT q.2 q.2.length} => []) (fun q => [duF g r ru nw q.1.1 q.1.2]) (fun _ => [])) rfl rfl (by kernel_rfl) ?_ (cut_k fun q => ?_)
        · skip
          refine gb_take 0 rfl (by decide +kernel) rfl rfl (ys_ev (nw := true) hT rfl sI) sF ?_
          refine gb_take 1 rfl (by decide +kernel) rfl rfl (ys_ev (nw := true) hT rfl sI) sF ?_
          refine gb_take 2 rfl (by decide +kernel) rfl rfl (ys_ev (nw := true) hT rfl sI) sF ?_
          refine gb_take 3 rfl (by decide +kernel) rfl rfl (ys_makeIface rfl rfl (by kernel_rfl)) sF ?_
          refine gb_take 4 rfl (by decide +kernel) rfl rfl (by first | exact ys_blk hT rfl rfl mE rfl rfl | exact ys_row hT rfl rfl mE rfl rfl | exact ys_row0 hT rfl rfl mE rfl rfl) sF ?_
          refine gb_take 5 rfl (by decide +kernel) rfl rfl (ys_makeIface rfl rfl (by kernel_rfl)) sF ?_
          refine gb_only 6 (by decide +kernel) rfl rfl ?_
          (refine mv_call_mod (φ := duF g r ru nw v L) (ψ := fun q : Value × List Tim => duF g r ru nw q.1 q.2) (fun w hk => hpush_any (duHO g r ru nw) v L x w (hk.rO (φ := duF g r ru nw v L) mE) hKn (by omega) hs.heap) rfl rfl rfl rfl rfl (by kernel_rfl) (by intro _; first | ((repeat (first | with_reducible exact Upd.here _ | with_reducible apply Upd.there)); done) | ((repeat (first | exact Upd.here _ | apply Upd.there)); done) | fail) (fun q hI => ?_))
          refine ⟨sF, ?_⟩
          refine gb_nil (by decide +kernel) ?_
          exact ⟨⟨(q.1, q.2), hI⟩, (by repeat (first | exact trivial | refine ⟨rfl, ?_⟩)), sA, sS⟩
        · obtain ⟨⟨v1, L1⟩, hp, hh⟩ := q
          (repeat (refine gG ?_; try intro _))
          refine gk_fin hT rfl rfl .nil (fun w' hk => ?_)
          exact RetM.mk (ψ := fun s => quF g ru nw s) (⟨some r, v1, L1⟩ : QuS) (hs.setNone hi hl hp hh) rfl hk hEE (mE : duF g r ru nw v1 L1 ∈ _)
end Go.Proofs.Ytgpfedmfbkhhcaa.Dv

