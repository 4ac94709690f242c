/- Join; the law's same, inner, halves. -/
import Derived.Test.YtdjhocgfdbnkmaaNdS
import Derived.Test.YtdjhocgfdbnkmaaNdE
import Derived.Test.YtdjhocgfdbnkmaaGxI
namespace Go.Proofs.Ytdjhocgfdbnkmaa.Nd
open Go.RowKit Mem Gx
set_option linter.unusedVariables false
set_option linter.unusedSimpArgs false
set_option maxRecDepth 100000
set_option maxHeartbeats 4000000
section
variable {X : Cx} {f : Fr} {O R : List Fact} {ks k : List KI} {d : NodeD} {w w' : World}
theorem calls_bT {P : Program} {fid : FuncId} {args : Array Value} {w : World} {a b : Bool} (e0 : a = b) (h : Calls P fid args w fun e w' => e = .returned (.bool a) ∧ Below w.heap.size w w') : Calls P fid args w fun e w' => e = .returned (.bool b) ∧ Below w.heap.size w w' := e0 ▸ h
theorem nodeF_S {d : NodeD} {φ : Fact} (h : φ ∈ d.fs) : ∀ b, φ.S b → (nodeF d).S b := fun b hb => ⟨φ, h, hb⟩
theorem fs_b : d.b ∈ d.fs := by unfold NodeD.fs; exact .head _
theorem fs_K : sl d.K.A 3 KE d.Ks ∈ d.fs := by unfold NodeD.fs; simp
theorem fs_V : sl d.V.A 1 (IE .u32) d.Vs ∈ d.fs := by unfold NodeD.fs; simp
theorem fs_C : sl d.C.A 1 PE d.Cs ∈ d.fs := by unfold NodeD.fs; simp
theorem row_of_blk {g T : Nat} {cs : List Value} (h : (blk g cs T).p w) : (row g 0 cs).p w := by
  have hb : w.heap[g]? = some (.cells cs.toArray T (0, 0)) := h
  exact fun i v hv => by rw [Nat.zero_add, cell_of_row w g i cs.toArray T (0, 0) hb]; simpa using hv
theorem gk_nB (hm : nodeF d ∈ R) (hg : GK X ks f O (row d.g 0 [.bool d.leaf, d.K.v, d.V.v, d.C.v, .int .u32 d.a] :: R)) : GK X ks f O R :=
  gk_lessR _ (nodeF d) hm (fun w h => row_of_blk (h d.b fs_b)) (fun b hb => nodeF_S (φ := d.b) fs_b b hb) hg
theorem gk_nK (hm : nodeF d ∈ R) (hg : GK X ks f O (sl d.K.A 3 KE d.Ks :: R)) : GK X ks f O R := gk_lessR _ (nodeF d) hm (fun w h => h _ fs_K) (nodeF_S fs_K) hg
theorem gk_nV (hm : nodeF d ∈ R) (hg : GK X ks f O (sl d.V.A 1 (IE .u32) d.Vs :: R)) : GK X ks f O R := gk_lessR _ (nodeF d) hm (fun w h => h _ fs_V) (nodeF_S fs_V) hg
theorem gk_nC (hm : nodeF d ∈ R) (hg : GK X ks f O (sl d.C.A 1 PE d.Cs :: R)) : GK X ks f O R := gk_lessR _ (nodeF d) hm (fun w h => h _ fs_C) (nodeF_S fs_C) hg
end
theorem own_slT {E : List Nat} {w0 w : World} {O R : List Fact} {α : Type} [Inhabited α] {base e sz n c : Nat} {A : Option Addr} {enc : α → Nat → Value} {L : List α} (hk : Kn E w0 w O R) (h : own base e sz (.slice A n c) enc L ∈ O) : Sl w A sz enc L := by
  obtain ⟨A', c', hv, hs, _⟩ := hk.ownSl h
  injection hv with h1 h2 h3
  subst h1
  exact hs
theorem rd_sl {α : Type} [Inhabited α] {w : World} {A : Option Addr} {sz : Nat} {enc : α → Nat → Value} {L : List α} (h : Sl w A sz enc L) (hsz : 0 < sz) : Rd1 w (sl A sz enc L) := by
  refine ⟨h, fun b hb => ?_⟩
  obtain ⟨hn, a, ha, hab⟩ := hb
  obtain ⟨b', off, e1, hc⟩ := h hn
  rw [e1] at ha
  injection ha with ha
  rw [← hab, ← ha]
  have := lt_of_cell (hc 0 hn 0 hsz)
  exact this
theorem leafRds {w : World} {L : List EntD} {d : NodeD} (h : Rd1 w (nodeF d)) (hd : IsLeaf L d) : Rds w [d.b, sl d.K.A 3 KE (L.map (·.k)), sl d.V.A 1 (IE .u32) (L.map (·.a))] := by
  have h1 := rd_nK h
  have h2 := rd_nV h
  rw [hd.Ks] at h1
  rw [hd.Vs] at h2
  exact .cons (rd_nb h) (.cons h1 (.cons h2 .nil))
theorem entries_leaf (d : NodeD) (L : List EntD) (w : World) (hd : IsLeaf L d) (h9 : L.length ≤ 10000) (h : Rd1 w (nodeF d)) :
    Calls Try.prog 103 [.pointer (some ⟨d.g, 0, none⟩)].toArray w (Ret (fun _ : Value => True) (fun v => v) (fun v => [own 0 39 4 v EE L]) w) :=
  entries_any d.g d.leaf d.K d.V d.C d.a L w (by rw [hd.ok.K.n, hd.Ks, List.length_map]) (by rw [hd.ok.V.n, hd.Vs, List.length_map]) h9 (leafRds h hd)
theorem join_leaf (a b : NodeD) (L M : List EntD) (w : World) (ha : IsLeaf L a) (hb : IsLeaf M b) (h9 : L.length + M.length ≤ 1000) (hA : Rd1 w (nodeF a)) (hB : Rd1 w (nodeF b)) :
    Calls Try.prog 20 [.pointer (some ⟨a.g, 0, none⟩), .pointer (some ⟨b.g, 0, none⟩)].toArray w (RetN (All2 IsLeaf (cutN (L ++ M))) w) := by
  have hrow : Rd1 w (row a.g 0 [.bool true, a.K.v, a.V.v, a.C.v, .int .u32 a.a]) := by
    have := (rd_nb hA).row
    rw [ha.leaf] at this
    exact this
  refine g_enter0 T [] [] [row a.g 0 [.bool true, a.K.v, a.V.v, a.C.v, .int .u32 a.a], nodeF a, nodeF b] Try.func20 rfl Try.ntmps20 rfl (Rds.cons hrow (.cons hA (.cons hB .nil))).kn ?_
  (repeat (first | refine g_nil ?_ | refine g_pure true hT rfl rfl rfl sI ?_ | refine g_skip rfl rfl ?_ | refine g_skip0 rfl rfl ?_ | refine gk_region rfl ?_ | refine gk_cond_t rfl rfl ?_ | refine gk_cond_f rfl rfl ?_ | refine g_yd rfl rfl (yd_load_blk hT rfl rfl mE rfl rfl) ?_ | refine g_yd rfl rfl (yd_load_row hT rfl rfl mE rfl rfl) ?_ | refine g_yd rfl rfl (yd_load_row0 hT rfl rfl mE rfl rfl) ?_ | refine g_yd rfl rfl (yd_eql rfl rfl rfl rfl rfl (by kernel_rfl)) ?_ | refine g_yd rfl rfl (yd_neq rfl rfl rfl rfl rfl (by kernel_rfl)) ?_ | refine g_yd rfl rfl (yd_index hT rfl rfl rfl sI rfl) ?_ | refine g_yd rfl rfl (yd_slice_nil hT rfl rfl rfl rfl) ?_ | refine g_yd rfl rfl (yd_build_arr hT rfl rfl rfl rfl rfl rfl) ?_ | (refine g_mv rfl ?_; first | (refine mv_box rfl rfl rfl rfl ?_; intro _) | (refine mv_alloc rfl hT rfl rfl ?_; intro _) | refine mv_store hT rfl rfl rfl rfl rfl rfl sO rfl ?_ | (refine mv_buildSlice rfl hT rfl rfl rfl rfl rfl rfl rfl rfl ?_; intro _)) | refine g_yd rfl rfl (Ys.yd (ys_str_eql hT rfl rfl rfl rfl)) ?_ | refine g_yd rfl rfl (Ys.yd (ys_str_neq hT rfl rfl rfl rfl)) ?_))
  refine g_mv rfl ?_; refine mv_call_rt (fun w hk => entries_leaf a L w ha (by omega) (hk.rR mE)) rfl rfl rfl rfl rfl (by kernel_rfl) (fun _ => rfl) (fun v1 _ => ?_)
  (repeat (first | refine g_nil ?_ | refine g_pure true hT rfl rfl rfl sI ?_ | refine g_skip rfl rfl ?_ | refine g_skip0 rfl rfl ?_ | refine gk_region rfl ?_ | refine gk_cond_t rfl rfl ?_ | refine gk_cond_f rfl rfl ?_ | refine g_yd rfl rfl (yd_load_blk hT rfl rfl mE rfl rfl) ?_ | refine g_yd rfl rfl (yd_load_row hT rfl rfl mE rfl rfl) ?_ | refine g_yd rfl rfl (yd_load_row0 hT rfl rfl mE rfl rfl) ?_ | refine g_yd rfl rfl (yd_eql rfl rfl rfl rfl rfl (by kernel_rfl)) ?_ | refine g_yd rfl rfl (yd_neq rfl rfl rfl rfl rfl (by kernel_rfl)) ?_ | refine g_yd rfl rfl (yd_index hT rfl rfl rfl sI rfl) ?_ | refine g_yd rfl rfl (yd_slice_nil hT rfl rfl rfl rfl) ?_ | refine g_yd rfl rfl (yd_build_arr hT rfl rfl rfl rfl rfl rfl) ?_ | (refine g_mv rfl ?_; first | (refine mv_box rfl rfl rfl rfl ?_; intro _) | (refine mv_alloc rfl hT rfl rfl ?_; intro _) | refine mv_store hT rfl rfl rfl rfl rfl rfl sO rfl ?_ | (refine mv_buildSlice rfl hT rfl rfl rfl rfl rfl rfl rfl rfl ?_; intro _)) | refine g_yd rfl rfl (Ys.yd (ys_str_eql hT rfl rfl rfl rfl)) ?_ | refine g_yd rfl rfl (Ys.yd (ys_str_neq hT rfl rfl rfl rfl)) ?_))
  refine g_mv rfl ?_; refine mv_call_rt (fun w hk => entries_leaf b M w hb (by omega) (hk.rR mE)) rfl rfl rfl rfl rfl (by kernel_rfl) (fun _ => rfl) (fun v2 _ => ?_)
  (repeat (first | refine g_nil ?_ | refine g_pure true hT rfl rfl rfl sI ?_ | refine g_skip rfl rfl ?_ | refine g_skip0 rfl rfl ?_ | refine gk_region rfl ?_ | refine gk_cond_t rfl rfl ?_ | refine gk_cond_f rfl rfl ?_ | refine g_yd rfl rfl (yd_load_blk hT rfl rfl mE rfl rfl) ?_ | refine g_yd rfl rfl (yd_load_row hT rfl rfl mE rfl rfl) ?_ | refine g_yd rfl rfl (yd_load_row0 hT rfl rfl mE rfl rfl) ?_ | refine g_yd rfl rfl (yd_eql rfl rfl rfl rfl rfl (by kernel_rfl)) ?_ | refine g_yd rfl rfl (yd_neq rfl rfl rfl rfl rfl (by kernel_rfl)) ?_ | refine g_yd rfl rfl (yd_index hT rfl rfl rfl sI rfl) ?_ | refine g_yd rfl rfl (yd_slice_nil hT rfl rfl rfl rfl) ?_ | refine g_yd rfl rfl (yd_build_arr hT rfl rfl rfl rfl rfl rfl) ?_ | (refine g_mv rfl ?_; first | (refine mv_box rfl rfl rfl rfl ?_; intro _) | (refine mv_alloc rfl hT rfl rfl ?_; intro _) | refine mv_store hT rfl rfl rfl rfl rfl rfl sO rfl ?_ | (refine mv_buildSlice rfl hT rfl rfl rfl rfl rfl rfl rfl rfl ?_; intro _)) | refine g_yd rfl rfl (Ys.yd (ys_str_eql hT rfl rfl rfl rfl)) ?_ | refine g_yd rfl rfl (Ys.yd (ys_str_neq hT rfl rfl rfl rfl)) ?_))
  refine g_freeze _ (by intro _; repeat (first | exact Upd.here _ | apply Upd.there)) (fun A2 c2 hA2 hA21 hA22 hA23 => ?_); subst hA2
  refine g_mv rfl (mv_append rfl M rfl rfl rfl rfl elt_E (by intro _; repeat (first | exact Upd.here _ | apply Upd.there)) (src_O mE) rfl (by intro x j; rcases j with _ | _ | _ | j <;> rfl) (by unfold maxLen; omega) (by omega) (Nat.zero_le _) (fun v3 => ?_))
  (repeat (first | refine g_nil ?_ | refine g_pure true hT rfl rfl rfl sI ?_ | refine g_skip rfl rfl ?_ | refine g_skip0 rfl rfl ?_ | refine gk_region rfl ?_ | refine gk_cond_t rfl rfl ?_ | refine gk_cond_f rfl rfl ?_ | refine g_yd rfl rfl (yd_load_blk hT rfl rfl mE rfl rfl) ?_ | refine g_yd rfl rfl (yd_load_row hT rfl rfl mE rfl rfl) ?_ | refine g_yd rfl rfl (yd_load_row0 hT rfl rfl mE rfl rfl) ?_ | refine g_yd rfl rfl (yd_eql rfl rfl rfl rfl rfl (by kernel_rfl)) ?_ | refine g_yd rfl rfl (yd_neq rfl rfl rfl rfl rfl (by kernel_rfl)) ?_ | refine g_yd rfl rfl (yd_index hT rfl rfl rfl sI rfl) ?_ | refine g_yd rfl rfl (yd_slice_nil hT rfl rfl rfl rfl) ?_ | refine g_yd rfl rfl (yd_build_arr hT rfl rfl rfl rfl rfl rfl) ?_ | (refine g_mv rfl ?_; first | (refine mv_box rfl rfl rfl rfl ?_; intro _) | (refine mv_alloc rfl hT rfl rfl ?_; intro _) | refine mv_store hT rfl rfl rfl rfl rfl rfl sO rfl ?_ | (refine mv_buildSlice rfl hT rfl rfl rfl rfl rfl rfl rfl rfl ?_; intro _)) | refine g_yd rfl rfl (Ys.yd (ys_str_eql hT rfl rfl rfl rfl)) ?_ | refine g_yd rfl rfl (Ys.yd (ys_str_neq hT rfl rfl rfl rfl)) ?_))
  refine g_freeze _ (by intro _; repeat (first | exact Upd.here _ | apply Upd.there)) (fun A3 c3 hA3 hA31 hA32 hA33 => ?_); subst hA3
  refine g_mv rfl ?_; refine mv_call_rs (fun w hk => leaves_any A3 (L ++ M).length c3 (L ++ M) w rfl hA31 (by rw [List.length_append]; omega) (hk.pO (sl A3 4 EE (L ++ M)) mE)) rfl rfl rfl rfl rfl (by kernel_rfl) sS (fun _ => rfl) (fun p hp hn => ?_)
  (repeat (first | refine g_nil ?_ | refine g_pure true hT rfl rfl rfl sI ?_ | refine g_skip rfl rfl ?_ | refine g_skip0 rfl rfl ?_ | refine gk_region rfl ?_ | refine gk_cond_t rfl rfl ?_ | refine gk_cond_f rfl rfl ?_ | refine g_yd rfl rfl (yd_load_blk hT rfl rfl mE rfl rfl) ?_ | refine g_yd rfl rfl (yd_load_row hT rfl rfl mE rfl rfl) ?_ | refine g_yd rfl rfl (yd_load_row0 hT rfl rfl mE rfl rfl) ?_ | refine g_yd rfl rfl (yd_eql rfl rfl rfl rfl rfl (by kernel_rfl)) ?_ | refine g_yd rfl rfl (yd_neq rfl rfl rfl rfl rfl (by kernel_rfl)) ?_ | refine g_yd rfl rfl (yd_index hT rfl rfl rfl sI rfl) ?_ | refine g_yd rfl rfl (yd_slice_nil hT rfl rfl rfl rfl) ?_ | refine g_yd rfl rfl (yd_build_arr hT rfl rfl rfl rfl rfl rfl) ?_ | (refine g_mv rfl ?_; first | (refine mv_box rfl rfl rfl rfl ?_; intro _) | (refine mv_alloc rfl hT rfl rfl ?_; intro _) | refine mv_store hT rfl rfl rfl rfl rfl rfl sO rfl ?_ | (refine mv_buildSlice rfl hT rfl rfl rfl rfl rfl rfl rfl rfl ?_; intro _)) | refine g_yd rfl rfl (Ys.yd (ys_str_eql hT rfl rfl rfl rfl)) ?_ | refine g_yd rfl rfl (Ys.yd (ys_str_neq hT rfl rfl rfl rfl)) ?_))
  refine gk_ret hT rfl rfl (.tmp rfl .nil) (fun w' hk => ?_)
  exact RetS.mk p hp rfl hk (.cons (.rd hk mE (hn _ mE)) (.cons (.rd hk mE (hn _ mE)) .nil))
theorem join_inner (a b : NodeD) (L M : List NodeD) (w : World) (ha : IsInner L a) (hb : IsInner M b) (h9 : L.length + M.length ≤ 1000) (hne : ∀ d ∈ L ++ M, 0 < d.Ks.length ∧ d.Ok) (hA : Rd1 w (nodeF a)) (hB : Rd1 w (nodeF b)) (hL : Rd1 w (allF (L ++ M) nodeF)) :
    Calls Try.prog 20 [.pointer (some ⟨a.g, 0, none⟩), .pointer (some ⟨b.g, 0, none⟩)].toArray w (RetN (All2 IsInner (cutN (L ++ M))) w) := by
  have hrow : Rd1 w (row a.g 0 [.bool false, a.K.v, a.V.v, a.C.v, .int .u32 a.a]) := by
    have := (rd_nb hA).row
    rw [ha.leaf] at this
    exact this
  have hrow2 : Rd1 w (row b.g 0 [.bool b.leaf, b.K.v, b.V.v, b.C.v, .int .u32 b.a]) := (rd_nb hB).row
  have hcA : Rd1 w (sl a.C.A 1 PE (L.map NodeD.g)) := by rw [← ha.Cs]; exact rd_nC hA
  have hcB : Rd1 w (sl b.C.A 1 PE (M.map NodeD.g)) := by rw [← hb.Cs]; exact rd_nC hB
  have hnA : a.C.n = (L.map NodeD.g).length := by rw [ha.ok.C.n, ha.Cs]
  have hnB : b.C.n = (M.map NodeD.g).length := by rw [hb.ok.C.n, hb.Cs]
  have hl : (L.map NodeD.g).length = L.length := List.length_map ..
  have hm : (M.map NodeD.g).length = M.length := List.length_map ..
  refine g_enter0 T [] [] [row a.g 0 [.bool false, a.K.v, a.V.v, a.C.v, .int .u32 a.a], row b.g 0 [.bool b.leaf, b.K.v, b.V.v, b.C.v, .int .u32 b.a], sl a.C.A 1 PE (L.map NodeD.g), sl b.C.A 1 PE (M.map NodeD.g), allF (L ++ M) nodeF] Try.func20 rfl Try.ntmps20 rfl (Rds.cons hrow (.cons hrow2 (.cons hcA (.cons hcB (.cons hL .nil))))).kn ?_
  (repeat (first | refine g_nil ?_ | refine g_pure true hT rfl rfl rfl sI ?_ | refine g_skip rfl rfl ?_ | refine g_skip0 rfl rfl ?_ | refine gk_region rfl ?_ | refine gk_cond_t rfl rfl ?_ | refine gk_cond_f rfl rfl ?_ | refine g_yd rfl rfl (yd_load_blk hT rfl rfl mE rfl rfl) ?_ | refine g_yd rfl rfl (yd_load_row hT rfl rfl mE rfl rfl) ?_ | refine g_yd rfl rfl (yd_load_row0 hT rfl rfl mE rfl rfl) ?_ | refine g_yd rfl rfl (yd_eql rfl rfl rfl rfl rfl (by kernel_rfl)) ?_ | refine g_yd rfl rfl (yd_neq rfl rfl rfl rfl rfl (by kernel_rfl)) ?_ | refine g_yd rfl rfl (yd_index hT rfl rfl rfl sI rfl) ?_ | refine g_yd rfl rfl (yd_slice_nil hT rfl rfl rfl rfl) ?_ | refine g_yd rfl rfl (yd_build_arr hT rfl rfl rfl rfl rfl rfl) ?_ | (refine g_mv rfl ?_; first | (refine mv_box rfl rfl rfl rfl ?_; intro _) | (refine mv_alloc rfl hT rfl rfl ?_; intro _) | refine mv_store hT rfl rfl rfl rfl rfl rfl sO rfl ?_ | (refine mv_buildSlice rfl hT rfl rfl rfl rfl rfl rfl rfl rfl ?_; intro _)) | refine g_yd rfl rfl (Ys.yd (ys_str_eql hT rfl rfl rfl rfl)) ?_ | refine g_yd rfl rfl (Ys.yd (ys_str_neq hT rfl rfl rfl rfl)) ?_))
  refine gk_any [0, 1] (Cut _ (fun p : { p : NS // (p.s.Ok p.ds.length ∧ All2 IsInner (cutN (L ++ M)) p.ds) ∧ ∀ φ, φ ∈ [sl p.s.A 1 PE (p.ds.map NodeD.g), allF p.ds nodeF] → ∀ b, φ.S b → w.heap.size ≤ b ∨ ∃ ψ, ψ ∈ ([] : List Fact) ∧ ψ.S b } => [(4, p.1.s.v)]) (fun _ => []) (fun p => [sl p.1.s.A 1 PE (p.1.ds.map NodeD.g), allF p.1.ds nodeF])) rfl rfl (by kernel_rfl) ?_ (cut_k fun p => ?_)
  · skip
    refine gb_take 0 rfl (by decide +kernel) rfl rfl (ys_ev (nw := true) hT rfl sI) sF ?_
    refine gb_take 1 rfl (by decide +kernel) rfl rfl (ys_ev (nw := true) hT rfl sI) sF ?_
    refine gb_take 2 rfl (by decide +kernel) rfl rfl (ys_ev (nw := true) hT rfl sI) sF ?_
    refine gb_take 3 rfl (by decide +kernel) rfl rfl (by first | exact ys_blk hT rfl rfl mE rfl rfl | exact ys_row hT rfl rfl mE rfl rfl | exact ys_row0 hT rfl rfl mE rfl rfl) sF ?_
    refine gb_take 5 rfl (by decide +kernel) rfl rfl (ys_ev (nw := true) hT rfl sI) sF ?_
    refine gb_take 6 rfl (by decide +kernel) rfl rfl (ys_ev (nw := true) hT rfl sI) sF ?_
    refine gb_take 7 rfl (by decide +kernel) rfl rfl (ys_ev (nw := true) hT rfl sI) sF ?_
    refine gb_take 8 rfl (by decide +kernel) rfl rfl (by first | exact ys_blk hT rfl rfl mE rfl rfl | exact ys_row hT rfl rfl mE rfl rfl | exact ys_row0 hT rfl rfl mE rfl rfl) sF ?_
    refine gb_only 4 (by decide +kernel) rfl rfl ?_
    refine mv_call_rt (fun w hk => clonePn_own a.C.A a.C.n a.C.c (L.map NodeD.g) w hnA (by omega) (hk.pR (sl a.C.A 1 PE (L.map NodeD.g)) mE)) rfl rfl rfl rfl rfl (by kernel_rfl) (fun _ => rfl) (fun v1 _ => ?_)
    refine ⟨sF, ?_⟩
    refine gb_only 9 (by decide +kernel) rfl rfl ?_
    refine mv_append rfl (M.map NodeD.g) rfl rfl rfl rfl elt_P (by intro _; repeat (first | exact Upd.here _ | apply Upd.there)) (src_R mE) hnB (by intro x j; rfl) (by unfold maxLen; omega) (by omega) (Nat.zero_le _) (fun v2 => ?_)
    refine ⟨sF, ?_⟩
    (refine gb_ownv v2 mE (fun A2 c2 hv h1 h2 h3 => ?_); subst hv)
    refine gb_only 10 (by decide +kernel) rfl rfl ?_
    refine mv_call_rs (fun w hk => inners_any A2 (L.map NodeD.g ++ M.map NodeD.g).length c2 (L ++ M) w (by rw [← List.map_append, List.length_map]) h1 (by rw [List.length_append]; omega) hne (.cons (hk.rR mE) (.cons (rd_sl (by rw [List.map_append]; exact own_slT hk mE) (by decide)) .nil))) rfl rfl rfl rfl rfl (by kernel_rfl) sS (fun _ => rfl) (fun p hp hn => ?_)
    refine ⟨sF, ?_⟩
    refine gb_take 11 rfl (by decide +kernel) rfl rfl (ys_ev (nw := true) hT rfl sI) sF ?_
    refine gb_nil (by decide +kernel) ?_
    exact ⟨⟨p, hp, hn⟩, (by repeat (first | exact trivial | refine ⟨rfl, ?_⟩)), sA, sS⟩
  · obtain ⟨p, hp, hn⟩ := p
    (repeat (first | refine g_nil ?_ | refine g_pure true hT rfl rfl rfl sI ?_ | refine g_skip rfl rfl ?_ | refine g_skip0 rfl rfl ?_ | refine gk_region rfl ?_ | refine gk_cond_t rfl rfl ?_ | refine gk_cond_f rfl rfl ?_ | refine g_yd rfl rfl (yd_load_blk hT rfl rfl mE rfl rfl) ?_ | refine g_yd rfl rfl (yd_load_row hT rfl rfl mE rfl rfl) ?_ | refine g_yd rfl rfl (yd_load_row0 hT rfl rfl mE rfl rfl) ?_ | refine g_yd rfl rfl (yd_eql rfl rfl rfl rfl rfl (by kernel_rfl)) ?_ | refine g_yd rfl rfl (yd_neq rfl rfl rfl rfl rfl (by kernel_rfl)) ?_ | refine g_yd rfl rfl (yd_index hT rfl rfl rfl sI rfl) ?_ | refine g_yd rfl rfl (yd_slice_nil hT rfl rfl rfl rfl) ?_ | refine g_yd rfl rfl (yd_build_arr hT rfl rfl rfl rfl rfl rfl) ?_ | (refine g_mv rfl ?_; first | (refine mv_box rfl rfl rfl rfl ?_; intro _) | (refine mv_alloc rfl hT rfl rfl ?_; intro _) | refine mv_store hT rfl rfl rfl rfl rfl rfl sO rfl ?_ | (refine mv_buildSlice rfl hT rfl rfl rfl rfl rfl rfl rfl rfl ?_; intro _)) | refine g_yd rfl rfl (Ys.yd (ys_str_eql hT rfl rfl rfl rfl)) ?_ | refine g_yd rfl rfl (Ys.yd (ys_str_neq hT rfl rfl rfl rfl)) ?_))
    refine gk_ret hT rfl rfl (.tmp rfl .nil) (fun w' hk => ?_)
    exact RetS.mk p hp rfl hk (.cons (.rd hk mE (hn _ mE)) (.cons (.rd hk mE (hn _ mE)) .nil))
theorem same_yes (d : NodeD) (A : Option Addr) (n c : Nat) (L : List EntD) (w : World) (hd : IsLeaf L d) (hn : n = L.length) (h9 : n ≤ 10000) (hD : Rd1 w (nodeF d)) (hL : Rd1 w (sl A 4 EE L)) :
    Calls Try.prog 21 [.pointer (some ⟨d.g, 0, none⟩), .slice A n c].toArray w fun e w' => e = .returned (.bool true) ∧ Below w.heap.size w w' := by
  have hrow : Rd1 w (row d.g 0 [.bool true, d.K.v, d.V.v, d.C.v, .int .u32 0]) := by
    have := (rd_nb hD).row
    rw [hd.leaf, hd.a] at this
    exact this
  have hKn : d.K.n = n := by rw [hd.ok.K.n, hd.Ks, List.length_map, hn]
  have hCn : d.C.n = 0 := by rw [hd.ok.C.n, hd.Cs]; rfl
  refine g_enter0 T [] [] [row d.g 0 [.bool true, d.K.v, d.V.v, d.C.v, .int .u32 0], nodeF d, sl A 4 EE L] Try.func21 rfl Try.ntmps21 rfl (Rds.cons hrow (.cons hD (.cons hL .nil))).kn ?_
  (repeat' (first | (first | refine g_nil ?_ | refine g_pure true hT rfl rfl rfl sI ?_ | refine g_skip rfl rfl ?_ | refine g_skip0 rfl rfl ?_ | refine gk_region rfl ?_ | refine gk_cond_t rfl rfl ?_ | refine gk_cond_f rfl rfl ?_ | refine g_yd rfl rfl (yd_load_blk hT rfl rfl mE rfl rfl) ?_ | refine g_yd rfl rfl (yd_load_row hT rfl rfl mE rfl rfl) ?_ | refine g_yd rfl rfl (yd_load_row0 hT rfl rfl mE rfl rfl) ?_ | refine g_yd rfl rfl (yd_eql rfl rfl rfl rfl rfl (by kernel_rfl)) ?_ | refine g_yd rfl rfl (yd_neq rfl rfl rfl rfl rfl (by kernel_rfl)) ?_ | refine g_yd rfl rfl (yd_index hT rfl rfl rfl sI rfl) ?_ | refine g_yd rfl rfl (yd_slice_nil hT rfl rfl rfl rfl) ?_ | refine g_yd rfl rfl (yd_build_arr hT rfl rfl rfl rfl rfl rfl) ?_ | (refine g_mv rfl ?_; first | (refine mv_box rfl rfl rfl rfl ?_; intro _) | (refine mv_alloc rfl hT rfl rfl ?_; intro _) | refine mv_store hT rfl rfl rfl rfl rfl rfl sO rfl ?_ | (refine mv_buildSlice rfl hT rfl rfl rfl rfl rfl rfl rfl rfl ?_; intro _)) | refine g_yd rfl rfl (Ys.yd (ys_str_eql hT rfl rfl rfl rfl)) ?_ | refine g_yd rfl rfl (Ys.yd (ys_str_neq hT rfl rfl rfl rfl)) ?_) | (refine g_mv rfl ?_; first | refine mv_call_bel (fun w hk => nlen_any d.g [] d.leaf d.K d.V d.C d.a w (rd_nb (hk.rR (φ := nodeF d) mE)).1) rfl rfl rfl rfl rfl (by kernel_rfl) ?_) | ((first | refine g_split rfl rfl tE (fun _ => ?_) (fun _ => ?_) | refine gk_cond rfl rfl tE (fun _ => ?_) (fun _ => ?_)) <;> (try first | (exfalso; omega; done) | (rename_i hx; exact absurd rfl hx) | (rename_i hx; cases hx; done)))))
  refine g_mv rfl ?_; refine mv_call_rt (fun w hk => entries_leaf d L w hd (by omega) (hk.rR mE)) rfl rfl rfl rfl rfl (by kernel_rfl) (fun _ => rfl) (fun v1 _ => ?_)
  (repeat (first | refine g_nil ?_ | refine g_pure true hT rfl rfl rfl sI ?_ | refine g_skip rfl rfl ?_ | refine g_skip0 rfl rfl ?_ | refine gk_region rfl ?_ | refine gk_cond_t rfl rfl ?_ | refine gk_cond_f rfl rfl ?_ | refine g_yd rfl rfl (yd_load_blk hT rfl rfl mE rfl rfl) ?_ | refine g_yd rfl rfl (yd_load_row hT rfl rfl mE rfl rfl) ?_ | refine g_yd rfl rfl (yd_load_row0 hT rfl rfl mE rfl rfl) ?_ | refine g_yd rfl rfl (yd_eql rfl rfl rfl rfl rfl (by kernel_rfl)) ?_ | refine g_yd rfl rfl (yd_neq rfl rfl rfl rfl rfl (by kernel_rfl)) ?_ | refine g_yd rfl rfl (yd_index hT rfl rfl rfl sI rfl) ?_ | refine g_yd rfl rfl (yd_slice_nil hT rfl rfl rfl rfl) ?_ | refine g_yd rfl rfl (yd_build_arr hT rfl rfl rfl rfl rfl rfl) ?_ | (refine g_mv rfl ?_; first | (refine mv_box rfl rfl rfl rfl ?_; intro _) | (refine mv_alloc rfl hT rfl rfl ?_; intro _) | refine mv_store hT rfl rfl rfl rfl rfl rfl sO rfl ?_ | (refine mv_buildSlice rfl hT rfl rfl rfl rfl rfl rfl rfl rfl ?_; intro _)) | refine g_yd rfl rfl (Ys.yd (ys_str_eql hT rfl rfl rfl rfl)) ?_ | refine g_yd rfl rfl (Ys.yd (ys_str_neq hT rfl rfl rfl rfl)) ?_))
  refine g_freeze _ (by intro _; repeat (first | exact Upd.here _ | apply Upd.there)) (fun A1 c1 hA1 hA11 hA12 hA13 => ?_); subst hA1
  (repeat' (first | (first | refine g_nil ?_ | refine g_pure true hT rfl rfl rfl sI ?_ | refine g_skip rfl rfl ?_ | refine g_skip0 rfl rfl ?_ | refine gk_region rfl ?_ | refine gk_cond_t rfl rfl ?_ | refine gk_cond_f rfl rfl ?_ | refine g_yd rfl rfl (yd_load_blk hT rfl rfl mE rfl rfl) ?_ | refine g_yd rfl rfl (yd_load_row hT rfl rfl mE rfl rfl) ?_ | refine g_yd rfl rfl (yd_load_row0 hT rfl rfl mE rfl rfl) ?_ | refine g_yd rfl rfl (yd_eql rfl rfl rfl rfl rfl (by kernel_rfl)) ?_ | refine g_yd rfl rfl (yd_neq rfl rfl rfl rfl rfl (by kernel_rfl)) ?_ | refine g_yd rfl rfl (yd_index hT rfl rfl rfl sI rfl) ?_ | refine g_yd rfl rfl (yd_slice_nil hT rfl rfl rfl rfl) ?_ | refine g_yd rfl rfl (yd_build_arr hT rfl rfl rfl rfl rfl rfl) ?_ | (refine g_mv rfl ?_; first | (refine mv_box rfl rfl rfl rfl ?_; intro _) | (refine mv_alloc rfl hT rfl rfl ?_; intro _) | refine mv_store hT rfl rfl rfl rfl rfl rfl sO rfl ?_ | (refine mv_buildSlice rfl hT rfl rfl rfl rfl rfl rfl rfl rfl ?_; intro _)) | refine g_yd rfl rfl (Ys.yd (ys_str_eql hT rfl rfl rfl rfl)) ?_ | refine g_yd rfl rfl (Ys.yd (ys_str_neq hT rfl rfl rfl rfl)) ?_) | (refine g_mv rfl ?_; first | refine mv_call_bel (fun w hk => calls_bT (tB_true rfl) (equal_En A1 A L.length c1 n c L L w rfl hn (by omega) (hk.pO (sl A1 4 EE L) mE) (hk.pR (sl A 4 EE L) mE))) rfl rfl rfl rfl rfl (by kernel_rfl) ?_) | ((first | refine g_split rfl rfl tE (fun _ => ?_) (fun _ => ?_) | refine gk_cond rfl rfl tE (fun _ => ?_) (fun _ => ?_)) <;> (try first | (exfalso; omega; done) | (rename_i hx; exact absurd rfl hx) | (rename_i hx; cases hx; done)))))
  refine gk_ret hT rfl rfl (.tmp rfl .nil) (fun w' hk => ?_)
  exact ⟨ret_bool (by rw [tB_true (show (d.C.n : Int) = 0 by omega)]), hk.toBelow⟩
theorem nlenT (g : Nat) (lf : Bool) (KA : Option Addr) (Kn Kc : Nat) (V C : SlV) (a : Int) (w : World) {Ks : List KeyD} {Vs : List Int} {Cs : List Nat} (h : Rd1 w (nodeF ⟨g, lf, ⟨KA, Kn, Kc⟩, Ks, V, Vs, C, Cs, a⟩)) :
    Calls Try.prog 19 [.pointer (some ⟨g, 0, none⟩)].toArray w fun e w' => e = .returned (.int .i64 (Kn : Int)) ∧ Below w.heap.size w w' := nlen_any g [] lf ⟨KA, Kn, Kc⟩ V C a w (rd_nb h).1
theorem linner_yes (d : NodeD) (ks : List NodeD) (A : Option Addr) (n c : Nat) (w : World) (hd : IsInner ks d) (hn : n = ks.length) (h9 : n ≤ 1000) (hne : ∀ k ∈ ks, 0 < k.Ks.length ∧ k.Ok) (hD : Rd1 w (nodeF d)) (hK : Rd1 w (allF ks nodeF)) (hL : Rd1 w (sl A 1 PE (ks.map NodeD.g))) :
    Calls Try.prog 24 [.pointer (some ⟨d.g, 0, none⟩), .slice A n c].toArray w fun e w' => e = .returned (.bool true) ∧ Below w.heap.size w w' := by
  obtain ⟨g, leaf, ⟨KA, Kn, Kc⟩, Ks, V, Vs, ⟨CA, Cn, Cc⟩, Cs, a⟩ := d
  obtain ⟨⟨hK0, hV0, hC0⟩, e1, e2, e3, e4, e5⟩ := hd
  dsimp only at e1 e2 e3 e4 e5
  subst e1 e2 e3 e4 e5
  have hKn : Kn = n := by have := hK0.n; rw [List.length_map, ← hn] at this; exact this
  have hCn : Cn = n := by have := hC0.n; rw [List.length_map, ← hn] at this; exact this
  have hrow : Rd1 w (row g 0 [.bool false, .slice KA Kn Kc, V.v, .slice CA Cn Cc, .int .u32 0]) := (rd_nb hD).row
  have hkk : Rd1 w (sl KA 3 KE (ks.map (fun x => x.Ks.getD 0 default))) := rd_nK hD
  have hkc : Rd1 w (sl CA 1 PE (ks.map NodeD.g)) := rd_nC hD
  refine g_enter0 T [] [] [row g 0 [.bool false, .slice KA Kn Kc, V.v, .slice CA Cn Cc, .int .u32 0], nodeF ⟨g, false, ⟨KA, Kn, Kc⟩, ks.map (fun x => x.Ks.getD 0 default), V, [], ⟨CA, Cn, Cc⟩, ks.map NodeD.g, 0⟩, sl KA 3 KE (ks.map (fun x => x.Ks.getD 0 default)), sl CA 1 PE (ks.map NodeD.g), allF ks nodeF, sl A 1 PE (ks.map NodeD.g)] Try.func24 rfl Try.ntmps24 rfl (Rds.cons hrow (.cons hD (.cons hkk (.cons hkc (.cons hK (.cons hL .nil)))))).kn ?_
  (repeat' (first | (first | refine g_nil ?_ | refine g_pure true hT rfl rfl rfl sI ?_ | refine g_skip rfl rfl ?_ | refine g_skip0 rfl rfl ?_ | refine gk_region rfl ?_ | refine gk_cond_t rfl rfl ?_ | refine gk_cond_f rfl rfl ?_ | refine g_yd rfl rfl (yd_load_blk hT rfl rfl mE rfl rfl) ?_ | refine g_yd rfl rfl (yd_load_row hT rfl rfl mE rfl rfl) ?_ | refine g_yd rfl rfl (yd_load_row0 hT rfl rfl mE rfl rfl) ?_ | refine g_yd rfl rfl (yd_eql rfl rfl rfl rfl rfl (by kernel_rfl)) ?_ | refine g_yd rfl rfl (yd_neq rfl rfl rfl rfl rfl (by kernel_rfl)) ?_ | refine g_yd rfl rfl (yd_index hT rfl rfl rfl sI rfl) ?_ | refine g_yd rfl rfl (yd_slice_nil hT rfl rfl rfl rfl) ?_ | refine g_yd rfl rfl (yd_build_arr hT rfl rfl rfl rfl rfl rfl) ?_ | (refine g_mv rfl ?_; first | (refine mv_box rfl rfl rfl rfl ?_; intro _) | (refine mv_alloc rfl hT rfl rfl ?_; intro _) | refine mv_store hT rfl rfl rfl rfl rfl rfl sO rfl ?_ | (refine mv_buildSlice rfl hT rfl rfl rfl rfl rfl rfl rfl rfl ?_; intro _)) | refine g_yd rfl rfl (Ys.yd (ys_str_eql hT rfl rfl rfl rfl)) ?_ | refine g_yd rfl rfl (Ys.yd (ys_str_neq hT rfl rfl rfl rfl)) ?_) | (refine g_mv rfl ?_; first | refine mv_call_bel (fun w hk => nlenT g false KA Kn Kc V ⟨CA, Cn, Cc⟩ 0 w (hk.rR (φ := nodeF ⟨g, false, ⟨KA, Kn, Kc⟩, ks.map (fun x => x.Ks.getD 0 default), V, [], ⟨CA, Cn, Cc⟩, ks.map NodeD.g, 0⟩) mE)) rfl rfl rfl rfl rfl (by kernel_rfl) ?_) | ((first | refine g_split rfl rfl tE (fun _ => ?_) (fun _ => ?_) | refine gk_cond rfl rfl tE (fun _ => ?_) (fun _ => ?_)) <;> (try first | (exfalso; omega; done) | (rename_i hx; exact absurd rfl hx) | (rename_i hx; cases hx; done)))))
  refine gk_loop_sel (fun (i : Nat) => i ≤ n) (fun (i : Nat) => [(0, .pointer (some ⟨g, 0, none⟩)), (1, .slice A n c), (5, .int .i64 i)]) (fun (i : Nat) => []) (fun (i : Nat) => [row g 0 [.bool false, .slice KA Kn Kc, V.v, .slice CA Cn Cc, .int .u32 0], sl KA 3 KE (ks.map (fun x => x.Ks.getD 0 default)), sl CA 1 PE (ks.map NodeD.g), allF ks nodeF, sl A 1 PE (ks.map NodeD.g)]) (fun (i : Nat) => n - i) 0 rfl (Nat.zero_le _) (by repeat (first | exact trivial | refine ⟨rfl, ?_⟩)) sA sS ?_
  rintro i hI
  replace hI : i ≤ n := hI
  change GK _ _ [(0, .pointer (some ⟨g, 0, none⟩)), (1, .slice A n c), (5, .int .i64 i)] [] [row g 0 [.bool false, .slice KA Kn Kc, V.v, .slice CA Cn Cc, .int .u32 0], sl KA 3 KE (ks.map (fun x => x.Ks.getD 0 default)), sl CA 1 PE (ks.map NodeD.g), allF ks nodeF, sl A 1 PE (ks.map NodeD.g)]
  (repeat (first | refine g_nil ?_ | refine g_pure true hT rfl rfl rfl sI ?_ | refine g_skip rfl rfl ?_ | refine g_skip0 rfl rfl ?_ | refine gk_region rfl ?_ | refine gk_cond_t rfl rfl ?_ | refine gk_cond_f rfl rfl ?_ | refine g_yd rfl rfl (yd_load_blk hT rfl rfl mE rfl rfl) ?_ | refine g_yd rfl rfl (yd_load_row hT rfl rfl mE rfl rfl) ?_ | refine g_yd rfl rfl (yd_load_row0 hT rfl rfl mE rfl rfl) ?_ | refine g_yd rfl rfl (yd_eql rfl rfl rfl rfl rfl (by kernel_rfl)) ?_ | refine g_yd rfl rfl (yd_neq rfl rfl rfl rfl rfl (by kernel_rfl)) ?_ | refine g_yd rfl rfl (yd_index hT rfl rfl rfl sI rfl) ?_ | refine g_yd rfl rfl (yd_slice_nil hT rfl rfl rfl rfl) ?_ | refine g_yd rfl rfl (yd_build_arr hT rfl rfl rfl rfl rfl rfl) ?_ | (refine g_mv rfl ?_; first | (refine mv_box rfl rfl rfl rfl ?_; intro _) | (refine mv_alloc rfl hT rfl rfl ?_; intro _) | refine mv_store hT rfl rfl rfl rfl rfl rfl sO rfl ?_ | (refine mv_buildSlice rfl hT rfl rfl rfl rfl rfl rfl rfl rfl ?_; intro _)) | refine g_yd rfl rfl (Ys.yd (ys_str_eql hT rfl rfl rfl rfl)) ?_ | refine g_yd rfl rfl (Ys.yd (ys_str_neq hT rfl rfl rfl rfl)) ?_))
  refine gk_cond rfl rfl (tells_tB _) (fun hlt => ?_) (fun hlt => ?_)
  · have hiL : i < ks.length := by omega
    obtain ⟨k, hkd⟩ : ∃ k, ks[i]? = some k := ⟨ks[i], List.getElem?_eq_getElem hiL⟩
    have hkm := List.mem_of_getElem? hkd
    obtain ⟨hk1, hk2⟩ := hne k hkm
    have hk3 := hk2.K.n
    refine gk_allR (l := ks) (F := nodeF) (x := k) mE hkm ?_
    refine gk_nB (d := k) mE ?_
    refine gk_nK (d := k) mE ?_
    obtain ⟨kg, kl, ⟨kA, kn, kc⟩, kKs, kV, kVs, kC, kCs, ka⟩ := k
    dsimp only at hk1 hk3
    change GK _ _ _ _ (sl kA 3 KE kKs :: row kg 0 [.bool kl, .slice kA kn kc, kV.v, kC.v, .int .u32 ka] :: _)
    refine gk_elem (enc := KE) (L := kKs) 0 mE hk1 (by decide) (fun b4 o4 y4 eA hy4 => ?_)
    subst eA
    refine gk_elem (enc := KE) (L := ks.map (fun x => x.Ks.getD 0 default)) i mE (by rw [List.length_map]; omega) (by decide) (fun b1 o1 y1 eA hy1 => ?_)
    subst eA
    obtain rfl : y4 = y1 := by
      rw [List.getElem?_map, hkd] at hy1
      have h2 := Option.some.inj hy1
      rw [← h2]
      show y4 = kKs.getD 0 default
      rw [List.getD_eq_getElem?_getD, hy4]; rfl
    refine gk_elem (enc := PE) (L := ks.map NodeD.g) i (show sl CA 1 PE (ks.map NodeD.g) ∈ _ from mE) (by rw [List.length_map]; omega) (by decide) (fun b2 o2 y2 eA hy2 => ?_)
    subst eA
    obtain rfl : kg = y2 := by
      rw [List.getElem?_map, hkd] at hy2
      exact Option.some.inj hy2
    refine gk_elem (enc := PE) (L := ks.map NodeD.g) i (show sl A 1 PE (ks.map NodeD.g) ∈ _ from mE) (by rw [List.length_map]; omega) (by decide) (fun b3 o3 y3 eA hy3 => ?_)
    subst eA
    obtain rfl : kg = y3 := by
      rw [List.getElem?_map, hkd] at hy3
      exact Option.some.inj hy3
    refine gk_drawn_at [0, 1, 2, 3, 5, 7, 8] rfl rfl (by kernel_rfl) ?_
    (repeat (first | refine ga_nil (by decide +kernel) ?_ | refine ga_take (by decide +kernel) rfl rfl (ys_ev (nw := true) hT rfl sI) sF ?_ | refine ga_skip (by decide +kernel) rfl rfl sF ?_ | refine ga_take (by decide +kernel) rfl rfl (ys_blk hT rfl rfl mE rfl rfl) sF ?_ | refine ga_take (by decide +kernel) rfl rfl (ys_row hT rfl rfl mE rfl rfl) sF ?_ | refine ga_take (by decide +kernel) rfl rfl (ys_row0 hT rfl rfl mE rfl rfl) sF ?_ | (refine ga_mv (by decide +kernel) rfl ?_; (first | (refine mv_box rfl rfl rfl rfl ?_; intro _) | (refine mv_alloc rfl hT rfl rfl ?_; intro _) | refine mv_store hT rfl rfl rfl rfl rfl rfl sO rfl ?_ | (refine mv_buildSlice rfl hT rfl rfl rfl rfl rfl rfl rfl rfl ?_; intro _)); refine ⟨sF, ?_⟩) | refine ga_take (by decide +kernel) rfl rfl (ys_eql rfl rfl rfl rfl rfl (by kernel_rfl)) sF ?_ | refine ga_take (by decide +kernel) rfl rfl (ys_neq rfl rfl rfl rfl rfl (by kernel_rfl)) sF ?_))
    refine ga_take (by decide +kernel) rfl rfl (ys_same_neq hT rfl rfl rfl rfl rfl) sF ?_
    (repeat (first | refine ga_nil (by decide +kernel) ?_ | refine ga_take (by decide +kernel) rfl rfl (ys_ev (nw := true) hT rfl sI) sF ?_ | refine ga_skip (by decide +kernel) rfl rfl sF ?_ | refine ga_take (by decide +kernel) rfl rfl (ys_blk hT rfl rfl mE rfl rfl) sF ?_ | refine ga_take (by decide +kernel) rfl rfl (ys_row hT rfl rfl mE rfl rfl) sF ?_ | refine ga_take (by decide +kernel) rfl rfl (ys_row0 hT rfl rfl mE rfl rfl) sF ?_ | (refine ga_mv (by decide +kernel) rfl ?_; (first | (refine mv_box rfl rfl rfl rfl ?_; intro _) | (refine mv_alloc rfl hT rfl rfl ?_; intro _) | refine mv_store hT rfl rfl rfl rfl rfl rfl sO rfl ?_ | (refine mv_buildSlice rfl hT rfl rfl rfl rfl rfl rfl rfl rfl ?_; intro _)); refine ⟨sF, ?_⟩) | refine ga_take (by decide +kernel) rfl rfl (ys_eql rfl rfl rfl rfl rfl (by kernel_rfl)) sF ?_ | refine ga_take (by decide +kernel) rfl rfl (ys_neq rfl rfl rfl rfl rfl (by kernel_rfl)) sF ?_))
    refine ga_dec false rfl rfl (tB_false (by omega)) ?_
    (repeat (first | refine ga_nil (by decide +kernel) ?_ | refine ga_take (by decide +kernel) rfl rfl (ys_ev (nw := true) hT rfl sI) sF ?_ | refine ga_skip (by decide +kernel) rfl rfl sF ?_ | refine ga_take (by decide +kernel) rfl rfl (ys_blk hT rfl rfl mE rfl rfl) sF ?_ | refine ga_take (by decide +kernel) rfl rfl (ys_row hT rfl rfl mE rfl rfl) sF ?_ | refine ga_take (by decide +kernel) rfl rfl (ys_row0 hT rfl rfl mE rfl rfl) sF ?_ | (refine ga_mv (by decide +kernel) rfl ?_; (first | (refine mv_box rfl rfl rfl rfl ?_; intro _) | (refine mv_alloc rfl hT rfl rfl ?_; intro _) | refine mv_store hT rfl rfl rfl rfl rfl rfl sO rfl ?_ | (refine mv_buildSlice rfl hT rfl rfl rfl rfl rfl rfl rfl rfl ?_; intro _)); refine ⟨sF, ?_⟩) | refine ga_take (by decide +kernel) rfl rfl (ys_eql rfl rfl rfl rfl rfl (by kernel_rfl)) sF ?_ | refine ga_take (by decide +kernel) rfl rfl (ys_neq rfl rfl rfl rfl rfl (by kernel_rfl)) sF ?_))
    refine gk_cond rfl rfl (tells_tB _) (fun hx => ?_) (fun hx => ?_)
    · exact absurd ⟨rfl, rfl, rfl, trivial⟩ hx
    · (repeat (first | refine g_nil ?_ | refine g_pure true hT rfl rfl rfl sI ?_ | refine g_skip rfl rfl ?_ | refine g_skip0 rfl rfl ?_ | refine gk_region rfl ?_ | refine gk_cond_t rfl rfl ?_ | refine gk_cond_f rfl rfl ?_ | refine g_yd rfl rfl (yd_load_blk hT rfl rfl mE rfl rfl) ?_ | refine g_yd rfl rfl (yd_load_row hT rfl rfl mE rfl rfl) ?_ | refine g_yd rfl rfl (yd_load_row0 hT rfl rfl mE rfl rfl) ?_ | refine g_yd rfl rfl (yd_eql rfl rfl rfl rfl rfl (by kernel_rfl)) ?_ | refine g_yd rfl rfl (yd_neq rfl rfl rfl rfl rfl (by kernel_rfl)) ?_ | refine g_yd rfl rfl (yd_index hT rfl rfl rfl sI rfl) ?_ | refine g_yd rfl rfl (yd_slice_nil hT rfl rfl rfl rfl) ?_ | refine g_yd rfl rfl (yd_build_arr hT rfl rfl rfl rfl rfl rfl) ?_ | (refine g_mv rfl ?_; first | (refine mv_box rfl rfl rfl rfl ?_; intro _) | (refine mv_alloc rfl hT rfl rfl ?_; intro _) | refine mv_store hT rfl rfl rfl rfl rfl rfl sO rfl ?_ | (refine mv_buildSlice rfl hT rfl rfl rfl rfl rfl rfl rfl rfl ?_; intro _)) | refine g_yd rfl rfl (Ys.yd (ys_str_eql hT rfl rfl rfl rfl)) ?_ | refine g_yd rfl rfl (Ys.yd (ys_str_neq hT rfl rfl rfl rfl)) ?_))
      refine gk_again_sel rfl (i + 1) (by omega) (by omega) (by repeat (first | exact trivial | refine ⟨rfl, ?_⟩)) sA sS
  · (repeat (first | refine g_nil ?_ | refine g_pure true hT rfl rfl rfl sI ?_ | refine g_skip rfl rfl ?_ | refine g_skip0 rfl rfl ?_ | refine gk_region rfl ?_ | refine gk_cond_t rfl rfl ?_ | refine gk_cond_f rfl rfl ?_ | refine g_yd rfl rfl (yd_load_blk hT rfl rfl mE rfl rfl) ?_ | refine g_yd rfl rfl (yd_load_row hT rfl rfl mE rfl rfl) ?_ | refine g_yd rfl rfl (yd_load_row0 hT rfl rfl mE rfl rfl) ?_ | refine g_yd rfl rfl (yd_eql rfl rfl rfl rfl rfl (by kernel_rfl)) ?_ | refine g_yd rfl rfl (yd_neq rfl rfl rfl rfl rfl (by kernel_rfl)) ?_ | refine g_yd rfl rfl (yd_index hT rfl rfl rfl sI rfl) ?_ | refine g_yd rfl rfl (yd_slice_nil hT rfl rfl rfl rfl) ?_ | refine g_yd rfl rfl (yd_build_arr hT rfl rfl rfl rfl rfl rfl) ?_ | (refine g_mv rfl ?_; first | (refine mv_box rfl rfl rfl rfl ?_; intro _) | (refine mv_alloc rfl hT rfl rfl ?_; intro _) | refine mv_store hT rfl rfl rfl rfl rfl rfl sO rfl ?_ | (refine mv_buildSlice rfl hT rfl rfl rfl rfl rfl rfl rfl rfl ?_; intro _)) | refine g_yd rfl rfl (Ys.yd (ys_str_eql hT rfl rfl rfl rfl)) ?_ | refine g_yd rfl rfl (Ys.yd (ys_str_neq hT rfl rfl rfl rfl)) ?_))
    refine gk_ret hT rfl rfl (.tmp rfl .nil) (fun w' hk => ?_)
    exact ⟨rfl, hk.toBelow⟩
instance : Inhabited SlV := ⟨⟨none, 0, 0⟩⟩
def QE : SlV × List EntD → Nat → Value := fun q _ => q.1.v
abbrev QF (q : SlV × List EntD) : Fact := sl q.1.A 4 EE q.2
/-- Rows as a slice. -/
structure QS where
  s : SlV
  qs : List (SlV × List EntD)
theorem sub_S {α : Type} [Inhabited α] {A : Option Addr} {l m s sz : Nat} {enc : α → Nat → Value} {L M : List α} {b : Nat} (hl : M.length ≤ L.length) (h : (sl (shA A l m s) sz enc M).S b) : (sl A sz enc L).S b := by
  obtain ⟨h0, a, ha, hab⟩ := h
  obtain ⟨y, e1, e2⟩ := shA_block ha
  exact ⟨by omega, y, e1, e2.trans hab⟩
theorem lhalves_any (A : Option Addr) (n c : Nat) (L : List EntD) (w : World) (hn : n = L.length) (hc : n ≤ c) (h0 : 0 < n) (h9 : n ≤ 10000) (hL : Rd1 w (sl A 4 EE L)) :
    Calls Try.prog 16 [.slice A n c].toArray w (RetS (fun p : QS => p.s.Ok p.qs.length ∧ p.qs.map (·.2) = cutN L ∧ ∀ q, q ∈ p.qs → q.1.n = q.2.length) (fun p => p.s.v) (fun p => [sl p.s.A 1 QE p.qs, allF p.qs QF]) [sl A 4 EE L] w) := by
  by_cases h6 : n ≤ 6
  · refine g_enter0 T [] [] [sl A 4 EE L] Try.func16 rfl Try.ntmps16 rfl (Rds.cons hL .nil).kn ?_
    (repeat' (first | (first | refine g_nil ?_ | refine g_pure true hT rfl rfl rfl sI ?_ | refine g_skip rfl rfl ?_ | refine g_skip0 rfl rfl ?_ | refine gk_region rfl ?_ | refine gk_cond_t rfl rfl ?_ | refine gk_cond_f rfl rfl ?_ | refine g_yd rfl rfl (yd_load_blk hT rfl rfl mE rfl rfl) ?_ | refine g_yd rfl rfl (yd_load_row hT rfl rfl mE rfl rfl) ?_ | refine g_yd rfl rfl (yd_load_row0 hT rfl rfl mE rfl rfl) ?_ | refine g_yd rfl rfl (yd_eql rfl rfl rfl rfl rfl (by kernel_rfl)) ?_ | refine g_yd rfl rfl (yd_neq rfl rfl rfl rfl rfl (by kernel_rfl)) ?_ | refine g_yd rfl rfl (yd_index hT rfl rfl rfl sI rfl) ?_ | refine g_yd rfl rfl (yd_slice_nil hT rfl rfl rfl rfl) ?_ | refine g_yd rfl rfl (yd_build_arr hT rfl rfl rfl rfl rfl rfl) ?_ | (refine g_mv rfl ?_; first | (refine mv_box rfl rfl rfl rfl ?_; intro _) | (refine mv_alloc rfl hT rfl rfl ?_; intro _) | refine mv_store hT rfl rfl rfl rfl rfl rfl sO rfl ?_ | (refine mv_buildSlice rfl hT rfl rfl rfl rfl rfl rfl rfl rfl ?_; intro _)) | refine g_yd rfl rfl (Ys.yd (ys_str_eql hT rfl rfl rfl rfl)) ?_ | refine g_yd rfl rfl (Ys.yd (ys_str_neq hT rfl rfl rfl rfl)) ?_) | ((first | refine g_split rfl rfl tE (fun _ => ?_) (fun _ => ?_) | refine gk_cond rfl rfl tE (fun _ => ?_) (fun _ => ?_)) <;> (try first | (exfalso; omega; done) | (rename_i hx; exact absurd rfl hx) | (rename_i hx; cases hx; done)))))
    rename_i g1
    refine gk_ret hT rfl rfl (.tmp rfl .nil) (fun w' hk => ?_)
    refine RetS.mk ⟨⟨some ⟨g1, 0, none⟩, 1, 1⟩, [(⟨A, n, c⟩, L)]⟩ ⟨⟨rfl, Nat.le_refl _, by show 1 ≤ maxLen; unfold maxLen; omega, fun h => by cases h⟩, ?_, ?_⟩ rfl hk (.cons (RS1.lit hk (cs := [.slice A n c]) mE rfl) (.cons (RS1.all fun x hx => ?_) .nil))
    · unfold cutN; rw [if_neg (by omega), if_pos (by omega)]; rfl
    · intro q hq
      obtain rfl := List.mem_singleton.1 hq
      exact hn
    · obtain rfl := List.mem_singleton.1 hx
      exact .rd hk mE (fun b hb => .inr ⟨_, .head _, hb⟩)
  · refine g_enter0 T [] [] [sl A 4 EE L] Try.func16 rfl Try.ntmps16 rfl (Rds.cons hL .nil).kn ?_
    refine gk_takeS (enc := EE) (L := L) (n / 2) c mE (by omega) ?_
    refine gk_dropS (enc := EE) (L := L) (n / 2) c mE (by omega) ?_
    (repeat' (first | (first | refine g_nil ?_ | refine g_pure true hT rfl rfl rfl sI ?_ | refine g_skip rfl rfl ?_ | refine g_skip0 rfl rfl ?_ | refine gk_region rfl ?_ | refine gk_cond_t rfl rfl ?_ | refine gk_cond_f rfl rfl ?_ | refine g_yd rfl rfl (yd_load_blk hT rfl rfl mE rfl rfl) ?_ | refine g_yd rfl rfl (yd_load_row hT rfl rfl mE rfl rfl) ?_ | refine g_yd rfl rfl (yd_load_row0 hT rfl rfl mE rfl rfl) ?_ | refine g_yd rfl rfl (yd_eql rfl rfl rfl rfl rfl (by kernel_rfl)) ?_ | refine g_yd rfl rfl (yd_neq rfl rfl rfl rfl rfl (by kernel_rfl)) ?_ | refine g_yd rfl rfl (yd_index hT rfl rfl rfl sI rfl) ?_ | refine g_yd rfl rfl (yd_slice_nil hT rfl rfl rfl rfl) ?_ | refine g_yd rfl rfl (yd_build_arr hT rfl rfl rfl rfl rfl rfl) ?_ | (refine g_mv rfl ?_; first | (refine mv_box rfl rfl rfl rfl ?_; intro _) | (refine mv_alloc rfl hT rfl rfl ?_; intro _) | refine mv_store hT rfl rfl rfl rfl rfl rfl sO rfl ?_ | (refine mv_buildSlice rfl hT rfl rfl rfl rfl rfl rfl rfl rfl ?_; intro _)) | refine g_yd rfl rfl (Ys.yd (ys_str_eql hT rfl rfl rfl rfl)) ?_ | refine g_yd rfl rfl (Ys.yd (ys_str_neq hT rfl rfl rfl rfl)) ?_) | ((first | refine g_split rfl rfl tE (fun _ => ?_) (fun _ => ?_) | refine gk_cond rfl rfl tE (fun _ => ?_) (fun _ => ?_)) <;> (try first | (exfalso; omega; done) | (rename_i hx; exact absurd rfl hx) | (rename_i hx; cases hx; done)))))
    have hd : (n : Int) / 2 = ((n / 2 : Nat) : Int) := by omega
    refine gk_any [] (Cut _ (fun g : Nat => [(2, .slice (some ⟨g, 0, none⟩) 2 2)]) (fun g => [blk g [.slice (shA A 0 c 4) (n / 2) c, .slice (shA A (n / 2) c 4) (n - n / 2) (c - n / 2)] 22]) (fun _ => [sl (shA A (n / 2) c 4) 4 EE (L.drop (n / 2)), sl (shA A 0 c 4) 4 EE (L.take (n / 2))])) rfl rfl (by kernel_rfl) ?_ (cut_k fun g1 => ?_)
    · skip
      refine gb_take 0 rfl (by decide +kernel) rfl rfl (ys_ev (nw := true) hT rfl sI) sF ?_
      refine gb_take 1 rfl (by decide +kernel) rfl rfl (ys_ev (nw := true) hT rfl sI) sF ?_
      refine gb_take 2 rfl (by decide +kernel) rfl rfl (ys_ev (nw := true) hT rfl sI) sF ?_
      refine gb_take 3 rfl (by decide +kernel) rfl rfl (ys_ev (nw := true) hT rfl sI) sF ?_
      refine gb_take 4 rfl (by decide +kernel) rfl rfl (ys_slice_h hT (n / 2) rfl rfl rfl rfl hd (by omega)) sF ?_
      refine gb_take 5 rfl (by decide +kernel) rfl rfl (ys_ev (nw := true) hT rfl sI) sF ?_
      refine gb_take 6 rfl (by decide +kernel) rfl rfl (ys_ev (nw := true) hT rfl sI) sF ?_
      refine gb_take 7 rfl (by decide +kernel) rfl rfl (ys_ev (nw := true) hT rfl sI) sF ?_
      refine gb_take 8 rfl (by decide +kernel) rfl rfl (ys_ev (nw := true) hT rfl sI) sF ?_
      refine gb_take 9 rfl (by decide +kernel) rfl rfl (ys_slice_l hT (n / 2) rfl rfl rfl rfl hd (by omega)) sF ?_
      refine gb_only 10 (by decide +kernel) rfl rfl ?_
      (refine mv_buildSlice (len := 2) rfl hT rfl rfl rfl rfl rfl rfl rfl rfl ?_; intro g1)
      refine ⟨sF, ?_⟩
      refine gb_take 11 rfl (by decide +kernel) rfl rfl (ys_ev (nw := true) hT rfl sI) sF ?_
      refine gb_nil (by decide +kernel) ?_
      exact ⟨g1, (by repeat (first | exact trivial | refine ⟨rfl, ?_⟩)), sA, sS⟩
    · (repeat (first | refine g_nil ?_ | refine g_pure true hT rfl rfl rfl sI ?_ | refine g_skip rfl rfl ?_ | refine g_skip0 rfl rfl ?_ | refine gk_region rfl ?_ | refine gk_cond_t rfl rfl ?_ | refine gk_cond_f rfl rfl ?_ | refine g_yd rfl rfl (yd_load_blk hT rfl rfl mE rfl rfl) ?_ | refine g_yd rfl rfl (yd_load_row hT rfl rfl mE rfl rfl) ?_ | refine g_yd rfl rfl (yd_load_row0 hT rfl rfl mE rfl rfl) ?_ | refine g_yd rfl rfl (yd_eql rfl rfl rfl rfl rfl (by kernel_rfl)) ?_ | refine g_yd rfl rfl (yd_neq rfl rfl rfl rfl rfl (by kernel_rfl)) ?_ | refine g_yd rfl rfl (yd_index hT rfl rfl rfl sI rfl) ?_ | refine g_yd rfl rfl (yd_slice_nil hT rfl rfl rfl rfl) ?_ | refine g_yd rfl rfl (yd_build_arr hT rfl rfl rfl rfl rfl rfl) ?_ | (refine g_mv rfl ?_; first | (refine mv_box rfl rfl rfl rfl ?_; intro _) | (refine mv_alloc rfl hT rfl rfl ?_; intro _) | refine mv_store hT rfl rfl rfl rfl rfl rfl sO rfl ?_ | (refine mv_buildSlice rfl hT rfl rfl rfl rfl rfl rfl rfl rfl ?_; intro _)) | refine g_yd rfl rfl (Ys.yd (ys_str_eql hT rfl rfl rfl rfl)) ?_ | refine g_yd rfl rfl (Ys.yd (ys_str_neq hT rfl rfl rfl rfl)) ?_))
      refine gk_ret hT rfl rfl (.tmp rfl .nil) (fun w' hk => ?_)
      refine RetS.mk ⟨⟨some ⟨g1, 0, none⟩, 2, 2⟩, [(⟨shA A 0 c 4, n / 2, c⟩, L.take (n / 2)), (⟨shA A (n / 2) c 4, n - n / 2, c - n / 2⟩, L.drop (n / 2))]⟩ ⟨⟨rfl, Nat.le_refl _, by show 2 ≤ maxLen; unfold maxLen; omega, fun h => by cases h⟩, ?_, ?_⟩ rfl hk (.cons (RS1.lit hk (cs := [.slice (shA A 0 c 4) (n / 2) c, .slice (shA A (n / 2) c 4) (n - n / 2) (c - n / 2)]) mE rfl) (.cons (RS1.all fun x hx => ?_) .nil))
      · unfold cutN; rw [if_neg (by omega), if_neg (by omega), ← hn]; rfl
      · intro q hq
        rcases List.mem_cons.1 hq with rfl | hq
        · show n / 2 = (L.take (n / 2)).length
          rw [List.length_take]; omega
        · obtain rfl := List.mem_singleton.1 hq
          show n - n / 2 = (L.drop (n / 2)).length
          rw [List.length_drop]; omega
      · rcases List.mem_cons.1 hx with rfl | hx
        · exact .rd hk mE (fun b hb => .inr ⟨_, .head _, sub_S (by rw [List.length_take]; omega) hb⟩)
        · obtain rfl := List.mem_singleton.1 hx
          exact .rd hk mE (fun b hb => .inr ⟨_, .head _, sub_S (by rw [List.length_drop]; omega) hb⟩)
end Go.Proofs.Ytdjhocgfdbnkmaa.Nd
