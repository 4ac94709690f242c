/- Join. -/
import Derived.Test.YtahfjkibononfaaNdS
import Derived.Test.YtahfjkibononfaaGxI
namespace Go.Proofs.Ytahfjkibononfaa.Nd
open Go.RowKit Mem Gx
set_option linter.unusedVariables false
set_option linter.unusedSimpArgs false
set_option maxRecDepth 100000
set_option maxHeartbeats 4000000
section
variable {X : Cx} {f : Fr} {O R : List Fact} {ks k : List KI} {d : NodeD} {w w' : World}
theorem calls_bT {P : Program} {fid : FuncId} {args : Array Value} {w : World} {a b : Bool} (e0 : a = b) (h : Calls P fid args w fun e w' => e = .returned (.bool a) ∧ Below w.heap.size w w') : Calls P fid args w fun e w' => e = .returned (.bool b) ∧ Below w.heap.size w w' := e0 ▸ h
theorem nodeF_S {d : NodeD} {φ : Fact} (h : φ ∈ d.fs) : ∀ b, φ.S b → (nodeF d).S b := fun b hb => ⟨φ, h, hb⟩
theorem fs_b : d.b ∈ d.fs := by unfold NodeD.fs; exact .head _
theorem fs_K : sl d.K.A 3 KE d.Ks ∈ d.fs := by unfold NodeD.fs; simp
theorem fs_V : sl d.V.A 1 (IE .u32) d.Vs ∈ d.fs := by unfold NodeD.fs; simp
theorem fs_C : sl d.C.A 1 PE d.Cs ∈ d.fs := by unfold NodeD.fs; simp
theorem row_of_blk {g T : Nat} {cs : List Value} (h : (blk g cs T).p w) : (row g 0 cs).p w := by
  have hb : w.heap[g]? = some (.cells cs.toArray T (0, 0)) := h
  exact fun i v hv => by rw [Nat.zero_add, cell_of_row w g i cs.toArray T (0, 0) hb]; simpa using hv
theorem gk_nB (hm : nodeF d ∈ R) (hg : GK X ks f O (row d.g 0 [.bool d.leaf, d.K.v, d.V.v, d.C.v, .int .u32 d.a] :: R)) : GK X ks f O R :=
  gk_lessR _ (nodeF d) hm (fun w h => row_of_blk (h d.b fs_b)) (fun b hb => nodeF_S (φ := d.b) fs_b b hb) hg
theorem gk_nK (hm : nodeF d ∈ R) (hg : GK X ks f O (sl d.K.A 3 KE d.Ks :: R)) : GK X ks f O R := gk_lessR _ (nodeF d) hm (fun w h => h _ fs_K) (nodeF_S fs_K) hg
theorem gk_nV (hm : nodeF d ∈ R) (hg : GK X ks f O (sl d.V.A 1 (IE .u32) d.Vs :: R)) : GK X ks f O R := gk_lessR _ (nodeF d) hm (fun w h => h _ fs_V) (nodeF_S fs_V) hg
theorem gk_nC (hm : nodeF d ∈ R) (hg : GK X ks f O (sl d.C.A 1 PE d.Cs :: R)) : GK X ks f O R := gk_lessR _ (nodeF d) hm (fun w h => h _ fs_C) (nodeF_S fs_C) hg
end
theorem own_slT {E : List Nat} {w0 w : World} {O R : List Fact} {α : Type} [Inhabited α] {base e sz n c : Nat} {A : Option Addr} {enc : α → Nat → Value} {L : List α} (hk : Kn E w0 w O R) (h : own base e sz (.slice A n c) enc L ∈ O) : Sl w A sz enc L := by
  obtain ⟨A', c', hv, hs, _⟩ := hk.ownSl h
  injection hv with h1 h2 h3
  subst h1
  exact hs
theorem rd_sl {α : Type} [Inhabited α] {w : World} {A : Option Addr} {sz : Nat} {enc : α → Nat → Value} {L : List α} (h : Sl w A sz enc L) (hsz : 0 < sz) : Rd1 w (sl A sz enc L) := by
  refine ⟨h, fun b hb => ?_⟩
  obtain ⟨hn, a, ha, hab⟩ := hb
  obtain ⟨b', off, e1, hc⟩ := h hn
  rw [e1] at ha
  injection ha with ha
  rw [← hab, ← ha]
  have := lt_of_cell (hc 0 hn 0 hsz)
  exact this
theorem leafRds {w : World} {L : List EntD} {d : NodeD} (h : Rd1 w (nodeF d)) (hd : IsLeaf L d) : Rds w [d.b, sl d.K.A 3 KE (L.map (·.k)), sl d.V.A 1 (IE .u32) (L.map (·.a))] := by
  have h1 := rd_nK h
  have h2 := rd_nV h
  rw [hd.Ks] at h1
  rw [hd.Vs] at h2
  exact .cons (rd_nb h) (.cons h1 (.cons h2 .nil))
theorem entries_leaf (d : NodeD) (L : List EntD) (w : World) (hd : IsLeaf L d) (h9 : L.length ≤ 10000) (h : Rd1 w (nodeF d)) :
    Calls Try.prog 18 [.pointer (some ⟨d.g, 0, none⟩)].toArray w (Ret (fun _ : Value => True) (fun v => v) (fun v => [own 0 29 4 v EE L]) w) :=
  entries_any d.g d.leaf d.K d.V d.C d.a L w (by rw [hd.ok.K.n, hd.Ks, List.length_map]) (by rw [hd.ok.V.n, hd.Vs, List.length_map]) h9 (leafRds h hd)
theorem join_leaf (a b : NodeD) (L M : List EntD) (w : World) (ha : IsLeaf L a) (hb : IsLeaf M b) (h9 : L.length + M.length ≤ 1000) (hA : Rd1 w (nodeF a)) (hB : Rd1 w (nodeF b)) :
    Calls Try.prog 69 [.pointer (some ⟨a.g, 0, none⟩), .pointer (some ⟨b.g, 0, none⟩)].toArray w (RetN (All2 IsLeaf (cutN (L ++ M))) w) := by
  have hrow : Rd1 w (row a.g 0 [.bool true, a.K.v, a.V.v, a.C.v, .int .u32 a.a]) := by
    have := (rd_nb hA).row
    rw [ha.leaf] at this
    exact this
  refine g_enter0 T [] [] [row a.g 0 [.bool true, a.K.v, a.V.v, a.C.v, .int .u32 a.a], nodeF a, nodeF b] Try.func69 rfl Try.ntmps69 rfl (Rds.cons hrow (.cons hA (.cons hB .nil))).kn ?_
  (repeat (refine gG ?_; try intro _))
  refine g_mv rfl ?_; refine mv_call_rt (fun w hk => entries_leaf a L w ha (by omega) (hk.rR mE)) rfl rfl rfl rfl rfl (by kernel_rfl) (fun _ => rfl) (fun v1 _ => ?_)
  (repeat (refine gG ?_; try intro _))
  refine g_mv rfl ?_; refine mv_call_rt (fun w hk => entries_leaf b M w hb (by omega) (hk.rR mE)) rfl rfl rfl rfl rfl (by kernel_rfl) (fun _ => rfl) (fun v2 _ => ?_)
  (repeat (refine gG ?_; try intro _))
  refine g_freeze _ (by intro _; first | ((repeat (first | with_reducible exact Upd.here _ | with_reducible apply Upd.there)); done) | ((repeat (first | exact Upd.here _ | apply Upd.there)); done) | fail) (fun A2 c2 hA2 hA21 hA22 hA23 => ?_); subst hA2
  refine g_mv rfl (mv_append rfl M rfl rfl rfl rfl elt_E (by intro _; first | ((repeat (first | with_reducible exact Upd.here _ | with_reducible apply Upd.there)); done) | ((repeat (first | exact Upd.here _ | apply Upd.there)); done) | fail) (src_O mE) rfl (by intro x j; rcases j with _ | _ | _ | j <;> rfl) (by unfold maxLen; omega) (by omega) (Nat.zero_le _) (fun v3 => ?_))
  (repeat (refine gG ?_; try intro _))
  refine g_freeze _ (by intro _; first | ((repeat (first | with_reducible exact Upd.here _ | with_reducible apply Upd.there)); done) | ((repeat (first | exact Upd.here _ | apply Upd.there)); done) | fail) (fun A3 c3 hA3 hA31 hA32 hA33 => ?_); subst hA3
  refine g_mv rfl ?_; refine mv_call_rs (fun w hk => leaves_any A3 (L ++ M).length c3 (L ++ M) w rfl hA31 (by rw [List.length_append]; omega) (hk.pO (sl A3 4 EE (L ++ M)) mE)) rfl rfl rfl rfl rfl (by kernel_rfl) sS (fun _ => rfl) (fun p hp hn => ?_)
  (repeat (refine gG ?_; try intro _))
  refine gk_ret hT rfl rfl (.tmp rfl .nil) (fun w' hk => ?_)
  exact RetS.mk p hp rfl hk (.cons (.rd hk mE (hn _ mE)) (.cons (.rd hk mE (hn _ mE)) (.cons (.rd hk mE (hn _ mE)) .nil)))
theorem join_inner (a b : NodeD) (L M : List NodeD) (w : World) (ha : IsInner L a) (hb : IsInner M b) (h9 : L.length + M.length ≤ 1000) (hne : ∀ d ∈ L ++ M, 0 < d.Ks.length ∧ d.Ok) (hA : Rd1 w (nodeF a)) (hB : Rd1 w (nodeF b)) (hL : Rd1 w (allF (L ++ M) nodeF)) :
    Calls Try.prog 69 [.pointer (some ⟨a.g, 0, none⟩), .pointer (some ⟨b.g, 0, none⟩)].toArray w (RetN (All2 IsInner (cutN (L ++ M))) w) := by
  have hrow : Rd1 w (row a.g 0 [.bool false, a.K.v, a.V.v, a.C.v, .int .u32 a.a]) := by
    have := (rd_nb hA).row
    rw [ha.leaf] at this
    exact this
  have hrow2 : Rd1 w (row b.g 0 [.bool b.leaf, b.K.v, b.V.v, b.C.v, .int .u32 b.a]) := (rd_nb hB).row
  have hcA : Rd1 w (sl a.C.A 1 PE (L.map NodeD.g)) := by rw [← ha.Cs]; exact rd_nC hA
  have hcB : Rd1 w (sl b.C.A 1 PE (M.map NodeD.g)) := by rw [← hb.Cs]; exact rd_nC hB
  have hnA : a.C.n = (L.map NodeD.g).length := by rw [ha.ok.C.n, ha.Cs]
  have hnB : b.C.n = (M.map NodeD.g).length := by rw [hb.ok.C.n, hb.Cs]
  have hl : (L.map NodeD.g).length = L.length := List.length_map ..
  have hm : (M.map NodeD.g).length = M.length := List.length_map ..
  refine g_enter0 T [] [] [row a.g 0 [.bool false, a.K.v, a.V.v, a.C.v, .int .u32 a.a], row b.g 0 [.bool b.leaf, b.K.v, b.V.v, b.C.v, .int .u32 b.a], sl a.C.A 1 PE (L.map NodeD.g), sl b.C.A 1 PE (M.map NodeD.g), allF (L ++ M) nodeF] Try.func69 rfl Try.ntmps69 rfl (Rds.cons hrow (.cons hrow2 (.cons hcA (.cons hcB (.cons hL .nil))))).kn ?_
  (repeat (refine gG ?_; try intro _))
  refine gk_any [0, 1] (Cut _ (fun p : { p : NS // (p.s.Ok p.ds.length ∧ All2 IsInner (cutN (L ++ M)) p.ds) ∧ ∀ φ, φ ∈ [sl p.s.A 1 PE (p.ds.map NodeD.g), allF p.ds nodeF, headF p.s (p.ds.map NodeD.g)] → ∀ b, φ.S b → w.heap.size ≤ b ∨ ∃ ψ, ψ ∈ ([] : List Fact) ∧ ψ.S b } => [(4, p.1.s.v)]) (fun _ => []) (fun p => [sl p.1.s.A 1 PE (p.1.ds.map NodeD.g), allF p.1.ds nodeF, headF p.1.s (p.1.ds.map NodeD.g)])) rfl rfl (by kernel_rfl) ?_ (cut_k fun p => ?_)
  · skip
    refine gb_take 0 rfl (by decide +kernel) rfl rfl (ys_ev (nw := true) hT rfl sI) sF ?_
    refine gb_take 1 rfl (by decide +kernel) rfl rfl (ys_ev (nw := true) hT rfl sI) sF ?_
    refine gb_take 2 rfl (by decide +kernel) rfl rfl (ys_ev (nw := true) hT rfl sI) sF ?_
    refine gb_take 3 rfl (by decide +kernel) rfl rfl (by first | exact ys_blk hT rfl rfl mE rfl rfl | exact ys_row hT rfl rfl mE rfl rfl | exact ys_row0 hT rfl rfl mE rfl rfl) sF ?_
    refine gb_take 5 rfl (by decide +kernel) rfl rfl (ys_ev (nw := true) hT rfl sI) sF ?_
    refine gb_take 6 rfl (by decide +kernel) rfl rfl (ys_ev (nw := true) hT rfl sI) sF ?_
    refine gb_take 7 rfl (by decide +kernel) rfl rfl (ys_ev (nw := true) hT rfl sI) sF ?_
    refine gb_take 8 rfl (by decide +kernel) rfl rfl (by first | exact ys_blk hT rfl rfl mE rfl rfl | exact ys_row hT rfl rfl mE rfl rfl | exact ys_row0 hT rfl rfl mE rfl rfl) sF ?_
    refine gb_only 4 (by decide +kernel) rfl rfl ?_
    refine mv_call_rt (fun w hk => clonePn_own a.C.A a.C.n a.C.c (L.map NodeD.g) w hnA (by omega) (hk.pR (sl a.C.A 1 PE (L.map NodeD.g)) mE)) rfl rfl rfl rfl rfl (by kernel_rfl) (fun _ => rfl) (fun v1 _ => ?_)
    refine ⟨sF, ?_⟩
    refine gb_only 9 (by decide +kernel) rfl rfl ?_
    refine mv_append rfl (M.map NodeD.g) rfl rfl rfl rfl elt_P (by intro _; first | ((repeat (first | with_reducible exact Upd.here _ | with_reducible apply Upd.there)); done) | ((repeat (first | exact Upd.here _ | apply Upd.there)); done) | fail) (src_R mE) hnB (by intro x j; rfl) (by unfold maxLen; omega) (by omega) (Nat.zero_le _) (fun v2 => ?_)
    refine ⟨sF, ?_⟩
    (refine gb_ownv v2 mE (fun A2 c2 hv h1 h2 h3 => ?_); subst hv)
    refine gb_only 10 (by decide +kernel) rfl rfl ?_
    refine mv_call_rs (fun w hk => inners_any A2 (L.map NodeD.g ++ M.map NodeD.g).length c2 (L ++ M) w (by rw [← List.map_append, List.length_map]) h1 (by rw [List.length_append]; omega) hne (.cons (hk.rR mE) (.cons (rd_sl (by rw [List.map_append]; exact own_slT hk mE) (by decide)) .nil))) rfl rfl rfl rfl rfl (by kernel_rfl) sS (fun _ => rfl) (fun p hp hn => ?_)
    refine ⟨sF, ?_⟩
    refine gb_take 11 rfl (by decide +kernel) rfl rfl (ys_ev (nw := true) hT rfl sI) sF ?_
    refine gb_nil (by decide +kernel) ?_
    exact ⟨⟨p, hp, hn⟩, (by repeat (first | exact trivial | refine ⟨rfl, ?_⟩)), sA, sS⟩
  · obtain ⟨p, hp, hn⟩ := p
    (repeat (refine gG ?_; try intro _))
    refine gk_ret hT rfl rfl (.tmp rfl .nil) (fun w' hk => ?_)
    exact RetS.mk p hp rfl hk (.cons (.rd hk mE (hn _ mE)) (.cons (.rd hk mE (hn _ mE)) (.cons (.rd hk mE (hn _ mE)) .nil)))
theorem nlenT (g : Nat) (lf : Bool) (KA : Option Addr) (Kn Kc : Nat) (V C : SlV) (a : Int) (w : World) {Ks : List KeyD} {Vs : List Int} {Cs : List Nat} (h : Rd1 w (nodeF ⟨g, lf, ⟨KA, Kn, Kc⟩, Ks, V, Vs, C, Cs, a⟩)) :
    Calls Try.prog 8 [.pointer (some ⟨g, 0, none⟩)].toArray w fun e w' => e = .returned (.int .i64 (Kn : Int)) ∧ Below w.heap.size w w' := nlen_any g [] lf ⟨KA, Kn, Kc⟩ V C a w (rd_nb h).1
end Go.Proofs.Ytahfjkibononfaa.Nd

