/- The law NodeSplits. -/
import Derived.Test.YtdjhocgfdbnkmaaNdT
import Derived.Test.YtdjhocgfdbnkmaaNd8
namespace Go.Proofs.Ytdjhocgfdbnkmaa.Nd
open Go.RowKit Mem Gx
set_option linter.unusedVariables false
set_option linter.unusedSimpArgs false
set_option maxRecDepth 100000
set_option maxHeartbeats 4000000
section
variable {X : Cx} {f : Fr} {O R : List Fact} {ks k : List KI} {d : NodeD} {w w' w0 : World} {E : List Nat}
theorem rd_node (hk : Kn E w0 w O R) (h1 : d.b ∈ O) (h2 : sl d.K.A 3 KE d.Ks ∈ O) (h3 : sl d.V.A 1 (IE .u32) d.Vs ∈ O) (h4 : sl d.C.A 1 PE d.Cs ∈ O) : Rd1 w (nodeF d) := by
  refine Rd1.all fun φ hφ => ?_
  unfold NodeD.fs at hφ
  rcases List.mem_cons.1 hφ with h | hφ
  · rw [h]; exact hk.rO h1
  rcases List.mem_cons.1 hφ with h | hφ
  · rw [h]; exact hk.rO h2
  rcases List.mem_cons.1 hφ with h | hφ
  · rw [h]; exact hk.rO h3
  obtain rfl := List.mem_singleton.1 hφ
  exact hk.rO h4
theorem Kn.nodeR (hk : Kn E w0 w O R) (h1 : d.b ∈ R) (h2 : sl d.K.A 3 KE d.Ks ∈ R) (h3 : sl d.V.A 1 (IE .u32) d.Vs ∈ R) (h4 : sl d.C.A 1 PE d.Cs ∈ R) : Kn E w0 w O (nodeF d :: R) := by
  have key : ∀ φ, φ ∈ d.fs → φ ∈ R := by
    intro φ hφ
    unfold NodeD.fs at hφ
    rcases List.mem_cons.1 hφ with h | hφ
    · rw [h]; exact h1
    rcases List.mem_cons.1 hφ with h | hφ
    · rw [h]; exact h2
    rcases List.mem_cons.1 hφ with h | hφ
    · rw [h]; exact h3
    obtain rfl := List.mem_singleton.1 hφ
    exact h4
  exact hk.addR _ (fun φ hφ => hk.pR φ (key φ hφ)) (fun b ⟨φ, hφ, hb⟩ => hk.ltR φ (key φ hφ) b hb) (fun χ hχ b hb ⟨φ, hφ, hb'⟩ => hk.disR χ hχ φ (key φ hφ) b hb hb')
theorem gk_nodeR (h1 : d.b ∈ R) (h2 : sl d.K.A 3 KE d.Ks ∈ R) (h3 : sl d.V.A 1 (IE .u32) d.Vs ∈ R) (h4 : sl d.C.A 1 PE d.Cs ∈ R) (hg : GK X ks f O (nodeF d :: R)) : GK X ks f O R := .mk fun a w hr hk => hg.out a w hr (Kn.nodeR hk h1 h2 h3 h4)
end
theorem All2.len {α β : Type} {P : α → β → Prop} {l : List α} {m : List β} (h : All2 P l m) : l.length = m.length := by
  induction h with
  | nil => rfl
  | cons _ _ ih => rw [List.length_cons, List.length_cons, ih]
theorem All2.at {α β : Type} {P : α → β → Prop} {l : List α} {m : List β} (h : All2 P l m) : ∀ {i : Nat} {x : α} {y : β}, l[i]? = some x → m[i]? = some y → P x y := by
  induction h with
  | nil => intro i x y h1; cases h1
  | cons h _ ih =>
    intro i x y h1 h2
    rcases i with _ | i
    · injection h1 with h1
      injection h2 with h2
      rw [← h1, ← h2]
      exact h
    · exact ih h1 h2
theorem All2.snoc {α β : Type} {P : α → β → Prop} {l : List α} {m : List β} {x : α} {y : β} (h : All2 P l m) (hx : P x y) : All2 P (l ++ [x]) (m ++ [y]) := by
  induction h with
  | nil => exact .cons hx .nil
  | cons h _ ih => exact .cons h ih
theorem get_ex {α : Type} {l : List α} {i : Nat} (h : i < l.length) : ∃ x, l[i]? = some x := ⟨l[i], List.getElem?_eq_getElem h⟩
theorem get_lt {α : Type} {l : List α} {i : Nat} {x : α} (h : l[i]? = some x) : i < l.length := by
  rcases Nat.lt_or_ge i l.length with h1 | h1
  · exact h1
  · rw [List.getElem?_eq_none h1] at h; cases h
/-- Where a part of a row that is cut begins. -/
theorem cut_at {α : Type} {L M : List α} {i : Nat} (h : (cutN L)[i]? = some M) : M = (L.drop (i * (L.length / 2))).take M.length ∧ i * (L.length / 2) + M.length ≤ L.length ∧ (i + 1 < (cutN L).length → i * (L.length / 2) + M.length = (i + 1) * (L.length / 2)) := by
  unfold cutN at h ⊢
  by_cases h0 : L.length = 0
  · rw [if_pos h0] at h; cases h
  rw [if_neg h0] at h ⊢
  by_cases h6 : L.length ≤ 6
  · rw [if_pos h6] at h ⊢
    rcases i with _ | i
    · injection h with h
      subst h
      refine ⟨by simp, by simp, fun h => ?_⟩
      simp at h
    · cases h
  · rw [if_neg h6] at h ⊢
    rcases i with _ | _ | i
    · injection h with h
      subst h
      simp only [List.length_take, Nat.zero_mul, List.drop_zero, Nat.zero_add, Nat.one_mul]
      refine ⟨?_, by omega, fun _ => by omega⟩
      rw [Nat.min_eq_left (by omega)]
    · injection h with h
      subst h
      simp only [List.length_drop, Nat.zero_add, Nat.one_mul]
      refine ⟨?_, by omega, fun h => ?_⟩
      · rw [List.take_of_length_le]
        rw [List.length_drop]
        exact Nat.le_refl _
      · simp at h
    · cases h
theorem cut_map {α β : Type} (L : List α) (g : α → β) : cutN (L.map g) = (cutN L).map (List.map g) := by
  unfold cutN
  rw [List.length_map]
  split
  · rfl
  · split
    · rfl
    · simp [List.map_take, List.map_drop]
theorem cut_len2 {α β : Type} {L : List α} {M : List β} (h : L.length = M.length) : (cutN L).length = (cutN M).length := by
  unfold cutN
  rw [h]
  split
  · rfl
  · split <;> rfl
theorem cut_le2 {α : Type} (L : List α) : (cutN L).length ≤ 2 := by
  unfold cutN
  split
  · simp
  · split <;> simp
theorem cut_len_at {α β : Type} {L : List α} {M : List β} {i : Nat} {a : List α} {b : List β} (h : L.length = M.length) (ha : (cutN L)[i]? = some a) (hb : (cutN M)[i]? = some b) : a.length = b.length := by
  unfold cutN at ha hb
  rw [h] at ha
  by_cases h0 : M.length = 0
  · rw [if_pos h0] at ha; cases ha
  rw [if_neg h0] at ha hb
  by_cases h6 : M.length ≤ 6
  · rw [if_pos h6] at ha hb
    rcases i with _ | i
    · injection ha with ha
      injection hb with hb
      rw [← ha, ← hb, h]
    · cases ha
  · rw [if_neg h6] at ha hb
    rcases i with _ | _ | i
    · injection ha with ha
      injection hb with hb
      rw [← ha, ← hb, List.length_take, List.length_take, h]
    · injection ha with ha
      injection hb with hb
      rw [← ha, ← hb, List.length_drop, List.length_drop, h]
    · cases ha
theorem All2.memR {α β : Type} {P : α → β → Prop} {l : List α} {m : List β} (h : All2 P l m) : ∀ {y : β}, y ∈ m → ∃ x, x ∈ l ∧ P x y := by
  induction h with
  | nil => intro y h; cases h
  | cons h _ ih =>
    intro y hy
    rcases List.mem_cons.1 hy with rfl | hy
    · exact ⟨_, .head _, h⟩
    · obtain ⟨x, h1, h2⟩ := ih hy
      exact ⟨x, .tail _ h1, h2⟩
theorem inners_nil (w : World) : Calls Try.prog 22 [.slice none 0 0].toArray w fun e w' => e = .returned (.slice none 0 0) ∧ Below w.heap.size w w' := by
  refine g_enter0 T [] [] [] Try.func22 rfl Try.ntmps22 rfl (Kn.start _) ?_
  (repeat' (first | (first | refine g_nil ?_ | refine g_pure true hT rfl rfl rfl sI ?_ | refine g_skip rfl rfl ?_ | refine g_skip0 rfl rfl ?_ | refine gk_region rfl ?_ | refine gk_cond_t rfl rfl ?_ | refine gk_cond_f rfl rfl ?_ | refine g_yd rfl rfl (yd_load_blk hT rfl rfl mE rfl rfl) ?_ | refine g_yd rfl rfl (yd_load_row hT rfl rfl mE rfl rfl) ?_ | refine g_yd rfl rfl (yd_load_row0 hT rfl rfl mE rfl rfl) ?_ | refine g_yd rfl rfl (yd_eql rfl rfl rfl rfl rfl (by kernel_rfl)) ?_ | refine g_yd rfl rfl (yd_neq rfl rfl rfl rfl rfl (by kernel_rfl)) ?_ | refine g_yd rfl rfl (yd_index hT rfl rfl rfl sI rfl) ?_ | refine g_yd rfl rfl (yd_slice_nil hT rfl rfl rfl rfl) ?_ | refine g_yd rfl rfl (yd_build_arr hT rfl rfl rfl rfl rfl rfl) ?_ | (refine g_mv rfl ?_; first | (refine mv_box rfl rfl rfl rfl ?_; intro _) | (refine mv_alloc rfl hT rfl rfl ?_; intro _) | refine mv_store hT rfl rfl rfl rfl rfl rfl sO rfl ?_ | (refine mv_buildSlice rfl hT rfl rfl rfl rfl rfl rfl rfl rfl ?_; intro _)) | refine g_yd rfl rfl (Ys.yd (ys_str_eql hT rfl rfl rfl rfl)) ?_ | refine g_yd rfl rfl (Ys.yd (ys_str_neq hT rfl rfl rfl rfl)) ?_) | ((first | refine g_split rfl rfl tE (fun _ => ?_) (fun _ => ?_) | refine gk_cond rfl rfl tE (fun _ => ?_) (fun _ => ?_)) <;> (try first | (exfalso; omega; done) | (rename_i hx; exact absurd rfl hx) | (rename_i hx; cases hx; done)))))
  refine gk_ret hT rfl rfl (.tmp rfl .nil) (fun w' hk => ?_)
  exact ⟨rfl, hk.toBelow⟩
theorem nodeSplits_main (A : Option Addr) (n c : Nat) (L : List EntD) (k : Nat) (w : World) (hs0 : (SlV.mk A n c).Ok L.length) (hL : Sl w A 4 EE L) (hr14 : L.length ≤ 14 ∧ Asc L) (hk1 : 1 ≤ k) (hk2 : k < n) :
    Calls Try.prog 3 [.slice A n c, .int .i64 k].toArray w fun e w' => e = .returned (.bool true) ∧ Below w.heap.size w w' := by
  have hn : n = L.length := hs0.n
  have hc : n ≤ c := hs0.c
  refine g_enter0 T [] [] [sl A 4 EE L] Try.func3 rfl Try.ntmps3 rfl ((Kn.start w).argR hL (by decide) (fun _ h => by cases h)) ?_
  (repeat' (first | (first | refine g_nil ?_ | refine g_pure true hT rfl rfl rfl sI ?_ | refine g_skip rfl rfl ?_ | refine g_skip0 rfl rfl ?_ | refine gk_region rfl ?_ | refine gk_cond_t rfl rfl ?_ | refine gk_cond_f rfl rfl ?_ | refine g_yd rfl rfl (yd_load_blk hT rfl rfl mE rfl rfl) ?_ | refine g_yd rfl rfl (yd_load_row hT rfl rfl mE rfl rfl) ?_ | refine g_yd rfl rfl (yd_load_row0 hT rfl rfl mE rfl rfl) ?_ | refine g_yd rfl rfl (yd_eql rfl rfl rfl rfl rfl (by kernel_rfl)) ?_ | refine g_yd rfl rfl (yd_neq rfl rfl rfl rfl rfl (by kernel_rfl)) ?_ | refine g_yd rfl rfl (yd_index hT rfl rfl rfl sI rfl) ?_ | refine g_yd rfl rfl (yd_slice_nil hT rfl rfl rfl rfl) ?_ | refine g_yd rfl rfl (yd_build_arr hT rfl rfl rfl rfl rfl rfl) ?_ | (refine g_mv rfl ?_; first | (refine mv_box rfl rfl rfl rfl ?_; intro _) | (refine mv_alloc rfl hT rfl rfl ?_; intro _) | refine mv_store hT rfl rfl rfl rfl rfl rfl sO rfl ?_ | (refine mv_buildSlice rfl hT rfl rfl rfl rfl rfl rfl rfl rfl ?_; intro _)) | refine g_yd rfl rfl (Ys.yd (ys_str_eql hT rfl rfl rfl rfl)) ?_ | refine g_yd rfl rfl (Ys.yd (ys_str_neq hT rfl rfl rfl rfl)) ?_) | (refine g_mv rfl ?_; first | refine mv_call_bel (fun w hk => calls_bT (tB_true hr14) (rises_any A n c L 14 w hn (by omega) (hk.pR (sl A 4 EE L) mE))) rfl rfl rfl rfl rfl (by kernel_rfl) ?_) | ((first | refine g_split rfl rfl tE (fun _ => ?_) (fun _ => ?_) | refine gk_cond rfl rfl tE (fun _ => ?_) (fun _ => ?_)) <;> (try first | (exfalso; omega; done) | (rename_i hx; exact absurd rfl hx) | (rename_i hx; cases hx; done)))))
  refine g_mv rfl ?_; refine mv_call_rs (fun w hk => lhalves_any A n c L w hn hc (by omega) (by omega) (hk.rR mE)) rfl rfl rfl rfl rfl (by kernel_rfl) sS (fun _ => rfl) (fun p hp hpn => ?_)
  clear hpn
  obtain ⟨⟨pA, pn, pc⟩, qs⟩ := p
  obtain ⟨⟨hp1, hp2, hp3, hp4⟩, hp5, hp6⟩ := hp
  dsimp only at hp1 hp5 hp6
  (repeat (first | refine g_nil ?_ | refine g_pure true hT rfl rfl rfl sI ?_ | refine g_skip rfl rfl ?_ | refine g_skip0 rfl rfl ?_ | refine gk_region rfl ?_ | refine gk_cond_t rfl rfl ?_ | refine gk_cond_f rfl rfl ?_ | refine g_yd rfl rfl (yd_load_blk hT rfl rfl mE rfl rfl) ?_ | refine g_yd rfl rfl (yd_load_row hT rfl rfl mE rfl rfl) ?_ | refine g_yd rfl rfl (yd_load_row0 hT rfl rfl mE rfl rfl) ?_ | refine g_yd rfl rfl (yd_eql rfl rfl rfl rfl rfl (by kernel_rfl)) ?_ | refine g_yd rfl rfl (yd_neq rfl rfl rfl rfl rfl (by kernel_rfl)) ?_ | refine g_yd rfl rfl (yd_index hT rfl rfl rfl sI rfl) ?_ | refine g_yd rfl rfl (yd_slice_nil hT rfl rfl rfl rfl) ?_ | refine g_yd rfl rfl (yd_build_arr hT rfl rfl rfl rfl rfl rfl) ?_ | (refine g_mv rfl ?_; first | (refine mv_box rfl rfl rfl rfl ?_; intro _) | (refine mv_alloc rfl hT rfl rfl ?_; intro _) | refine mv_store hT rfl rfl rfl rfl rfl rfl sO rfl ?_ | (refine mv_buildSlice rfl hT rfl rfl rfl rfl rfl rfl rfl rfl ?_; intro _)) | refine g_yd rfl rfl (Ys.yd (ys_str_eql hT rfl rfl rfl rfl)) ?_ | refine g_yd rfl rfl (Ys.yd (ys_str_neq hT rfl rfl rfl rfl)) ?_))
  refine g_mv rfl ?_; refine mv_call_rs (fun w hk => leaves_any A n c L w hn hc (by omega) (hk.pR (sl A 4 EE L) mE)) rfl rfl rfl rfl rfl (by kernel_rfl) sS (fun _ => rfl) (fun q hq hqn => ?_)
  clear hqn
  obtain ⟨⟨qA, qn, qc⟩, ds⟩ := q
  obtain ⟨⟨hq1, hq2, hq3, hq4⟩, hq5⟩ := hq
  dsimp only at hq1 hq5
  (repeat (first | refine g_nil ?_ | refine g_pure true hT rfl rfl rfl sI ?_ | refine g_skip rfl rfl ?_ | refine g_skip0 rfl rfl ?_ | refine gk_region rfl ?_ | refine gk_cond_t rfl rfl ?_ | refine gk_cond_f rfl rfl ?_ | refine g_yd rfl rfl (yd_load_blk hT rfl rfl mE rfl rfl) ?_ | refine g_yd rfl rfl (yd_load_row hT rfl rfl mE rfl rfl) ?_ | refine g_yd rfl rfl (yd_load_row0 hT rfl rfl mE rfl rfl) ?_ | refine g_yd rfl rfl (yd_eql rfl rfl rfl rfl rfl (by kernel_rfl)) ?_ | refine g_yd rfl rfl (yd_neq rfl rfl rfl rfl rfl (by kernel_rfl)) ?_ | refine g_yd rfl rfl (yd_index hT rfl rfl rfl sI rfl) ?_ | refine g_yd rfl rfl (yd_slice_nil hT rfl rfl rfl rfl) ?_ | refine g_yd rfl rfl (yd_build_arr hT rfl rfl rfl rfl rfl rfl) ?_ | (refine g_mv rfl ?_; first | (refine mv_box rfl rfl rfl rfl ?_; intro _) | (refine mv_alloc rfl hT rfl rfl ?_; intro _) | refine mv_store hT rfl rfl rfl rfl rfl rfl sO rfl ?_ | (refine mv_buildSlice rfl hT rfl rfl rfl rfl rfl rfl rfl rfl ?_; intro _)) | refine g_yd rfl rfl (Ys.yd (ys_str_eql hT rfl rfl rfl rfl)) ?_ | refine g_yd rfl rfl (Ys.yd (ys_str_neq hT rfl rfl rfl rfl)) ?_))
  refine gk_takeS (enc := EE) (L := L) k c mE (by omega) ?_
  refine gk_dropS (enc := EE) (L := L) k c mE (by omega) ?_
  have hm : (cutN L).length = qs.length := by rw [← hp5, List.length_map]
  have hm2 := hq5.len
  have hm4 : qs.length ≤ 2 := hm ▸ cut_le2 L
  refine gk_any [] (Cut _ (fun p : { p : NodeD × NodeD // IsLeaf (L.take k) p.1 ∧ IsLeaf (L.drop k) p.2 } => [(0, .slice A n c), (1, .int .i64 k), (5, .slice pA pn pc), (6, .slice qA qn qc), (7, .pointer (some ⟨p.1.1.g, 0, none⟩)), (8, .pointer (some ⟨p.1.2.g, 0, none⟩))]) (fun p => [p.1.1.b, sl p.1.1.K.A 3 KE p.1.1.Ks, sl p.1.1.V.A 1 (IE .u32) p.1.1.Vs, sl p.1.1.C.A 1 PE p.1.1.Cs, p.1.2.b, sl p.1.2.K.A 3 KE p.1.2.Ks, sl p.1.2.V.A 1 (IE .u32) p.1.2.Vs, sl p.1.2.C.A 1 PE p.1.2.Cs]) (fun _ => [sl qA 1 PE (ds.map NodeD.g), allF ds nodeF, sl pA 1 QE qs, allF qs QF, sl A 4 EE L])) rfl rfl (by kernel_rfl) ?_ (cut_k fun p => ?_)
  · skip
    refine gb_take 0 rfl (by decide +kernel) rfl rfl (ys_ev (nw := true) hT rfl sI) sF ?_
    refine gb_take 1 rfl (by decide +kernel) rfl rfl (ys_ev (nw := true) hT rfl sI) sF ?_
    refine gb_take 2 rfl (by decide +kernel) rfl rfl (ys_slice_h hT k rfl rfl rfl rfl rfl (by omega)) sF ?_
    refine gb_take 4 rfl (by decide +kernel) rfl rfl (ys_ev (nw := true) hT rfl sI) sF ?_
    refine gb_take 5 rfl (by decide +kernel) rfl rfl (ys_ev (nw := true) hT rfl sI) sF ?_
    refine gb_take 6 rfl (by decide +kernel) rfl rfl (ys_slice_l hT k rfl rfl rfl rfl rfl (by omega)) sF ?_
    refine gb_only 3 (by decide +kernel) rfl rfl ?_
    refine mv_call_rt (fun w hk => leaf_any (shA A 0 c 4) k c (L.take k) w (by rw [List.length_take]; omega) (by rw [List.length_take]; omega) (hk.pR (sl (shA A 0 c 4) 4 EE (L.take k)) mE)) rfl rfl rfl rfl rfl (by kernel_rfl) (fun _ => rfl) (fun a ha => ?_)
    refine ⟨sF, ?_⟩
    refine gb_only 7 (by decide +kernel) rfl rfl ?_
    refine mv_call_rt (fun w hk => leaf_any (shA A k c 4) (n - k) (c - k) (L.drop k) w (by rw [List.length_drop]; omega) (by rw [List.length_drop]; omega) (hk.pR (sl (shA A k c 4) 4 EE (L.drop k)) mE)) rfl rfl rfl rfl rfl (by kernel_rfl) (fun _ => rfl) (fun b hb => ?_)
    refine ⟨sF, ?_⟩
    refine gb_take 8 rfl (by decide +kernel) rfl rfl (ys_ev (nw := true) hT rfl sI) sF ?_
    refine gb_take 9 rfl (by decide +kernel) rfl rfl (ys_ev (nw := true) hT rfl sI) sF ?_
    refine gb_nil (by decide +kernel) ?_
    exact ⟨⟨(a, b), ha, hb⟩, (by repeat (first | exact trivial | refine ⟨rfl, ?_⟩)), sA, sS⟩
  obtain ⟨⟨a, b⟩, ha, hb⟩ := p
  dsimp only
  have haK : a.K.n = k := by rw [ha.ok.K.n, ha.Ks, List.length_map, List.length_take]; omega
  (repeat' (first | (first | refine g_nil ?_ | refine g_pure true hT rfl rfl rfl sI ?_ | refine g_skip rfl rfl ?_ | refine g_skip0 rfl rfl ?_ | refine gk_region rfl ?_ | refine gk_cond_t rfl rfl ?_ | refine gk_cond_f rfl rfl ?_ | refine g_yd rfl rfl (yd_load_blk hT rfl rfl mE rfl rfl) ?_ | refine g_yd rfl rfl (yd_load_row hT rfl rfl mE rfl rfl) ?_ | refine g_yd rfl rfl (yd_load_row0 hT rfl rfl mE rfl rfl) ?_ | refine g_yd rfl rfl (yd_eql rfl rfl rfl rfl rfl (by kernel_rfl)) ?_ | refine g_yd rfl rfl (yd_neq rfl rfl rfl rfl rfl (by kernel_rfl)) ?_ | refine g_yd rfl rfl (yd_index hT rfl rfl rfl sI rfl) ?_ | refine g_yd rfl rfl (yd_slice_nil hT rfl rfl rfl rfl) ?_ | refine g_yd rfl rfl (yd_build_arr hT rfl rfl rfl rfl rfl rfl) ?_ | (refine g_mv rfl ?_; first | (refine mv_box rfl rfl rfl rfl ?_; intro _) | (refine mv_alloc rfl hT rfl rfl ?_; intro _) | refine mv_store hT rfl rfl rfl rfl rfl rfl sO rfl ?_ | (refine mv_buildSlice rfl hT rfl rfl rfl rfl rfl rfl rfl rfl ?_; intro _)) | refine g_yd rfl rfl (Ys.yd (ys_str_eql hT rfl rfl rfl rfl)) ?_ | refine g_yd rfl rfl (Ys.yd (ys_str_neq hT rfl rfl rfl rfl)) ?_) | (refine g_mv rfl ?_; first | refine mv_call_bel (fun w hk => nlen_any a.g [] a.leaf a.K a.V a.C a.a w (hk.pO a.b mE)) rfl rfl rfl rfl rfl (by kernel_rfl) ?_) | ((first | refine g_split rfl rfl tE (fun _ => ?_) (fun _ => ?_) | refine gk_cond rfl rfl tE (fun _ => ?_) (fun _ => ?_)) <;> (try first | (exfalso; omega; done) | (rename_i hx; exact absurd rfl hx) | (rename_i hx; cases hx; done)))))
  refine g_mv rfl ?_; refine mv_call_rs (fun w hk => (by have := join_leaf a b (L.take k) (L.drop k) w ha hb (by rw [List.length_take, List.length_drop]; omega) (rd_node hk mE mE mE mE) (rd_node hk mE mE mE mE); rw [List.take_append_drop] at this; exact this)) rfl rfl rfl rfl rfl (by kernel_rfl) sS (fun _ => rfl) (fun r hr hrn => ?_)
  clear hrn
  obtain ⟨⟨rA, rn, rc⟩, es⟩ := r
  obtain ⟨⟨hr1, hr2, hr3, hr4⟩, hr5⟩ := hr
  dsimp only at hr1 hr5
  have hm3 := hr5.len
  refine g_say 56 (.slice rA rn rc) rfl rfl ?_
  (repeat' (first | (first | refine g_nil ?_ | refine g_pure true hT rfl rfl rfl sI ?_ | refine g_skip rfl rfl ?_ | refine g_skip0 rfl rfl ?_ | refine gk_region rfl ?_ | refine gk_cond_t rfl rfl ?_ | refine gk_cond_f rfl rfl ?_ | refine g_yd rfl rfl (yd_load_blk hT rfl rfl mE rfl rfl) ?_ | refine g_yd rfl rfl (yd_load_row hT rfl rfl mE rfl rfl) ?_ | refine g_yd rfl rfl (yd_load_row0 hT rfl rfl mE rfl rfl) ?_ | refine g_yd rfl rfl (yd_eql rfl rfl rfl rfl rfl (by kernel_rfl)) ?_ | refine g_yd rfl rfl (yd_neq rfl rfl rfl rfl rfl (by kernel_rfl)) ?_ | refine g_yd rfl rfl (yd_index hT rfl rfl rfl sI rfl) ?_ | refine g_yd rfl rfl (yd_slice_nil hT rfl rfl rfl rfl) ?_ | refine g_yd rfl rfl (yd_build_arr hT rfl rfl rfl rfl rfl rfl) ?_ | (refine g_mv rfl ?_; first | (refine mv_box rfl rfl rfl rfl ?_; intro _) | (refine mv_alloc rfl hT rfl rfl ?_; intro _) | refine mv_store hT rfl rfl rfl rfl rfl rfl sO rfl ?_ | (refine mv_buildSlice rfl hT rfl rfl rfl rfl rfl rfl rfl rfl ?_; intro _)) | refine g_yd rfl rfl (Ys.yd (ys_str_eql hT rfl rfl rfl rfl)) ?_ | refine g_yd rfl rfl (Ys.yd (ys_str_neq hT rfl rfl rfl rfl)) ?_) | ((first | refine g_split rfl rfl tE (fun _ => ?_) (fun _ => ?_) | refine gk_cond rfl rfl tE (fun _ => ?_) (fun _ => ?_)) <;> (try first | (exfalso; omega; done) | (rename_i hx; exact absurd rfl hx) | (rename_i hx; cases hx; done)))))
  refine gk_loop_sel (fun (i : Nat) => i ≤ qs.length) (fun (i : Nat) => [(0, .slice A n c), (1, .int .i64 k), (5, .slice pA pn pc), (6, .slice qA qn qc), (9, .slice rA rn rc), (10, .int .i64 i)]) (fun (i : Nat) => []) (fun (i : Nat) => [sl rA 1 PE (es.map NodeD.g), allF es nodeF, sl qA 1 PE (ds.map NodeD.g), allF ds nodeF, sl pA 1 QE qs, allF qs QF, sl A 4 EE L]) (fun (i : Nat) => qs.length - i) 0 rfl (Nat.zero_le _) (by repeat (first | exact trivial | refine ⟨rfl, ?_⟩)) sA sS ?_
  rintro i hI
  replace hI : i ≤ qs.length := hI
  change GK _ _ [(0, .slice A n c), (1, .int .i64 k), (5, .slice pA pn pc), (6, .slice qA qn qc), (9, .slice rA rn rc), (10, .int .i64 i)] [] [sl rA 1 PE (es.map NodeD.g), allF es nodeF, sl qA 1 PE (ds.map NodeD.g), allF ds nodeF, sl pA 1 QE qs, allF qs QF, sl A 4 EE L]
  (repeat (first | refine g_nil ?_ | refine g_pure true hT rfl rfl rfl sI ?_ | refine g_skip rfl rfl ?_ | refine g_skip0 rfl rfl ?_ | refine gk_region rfl ?_ | refine gk_cond_t rfl rfl ?_ | refine gk_cond_f rfl rfl ?_ | refine g_yd rfl rfl (yd_load_blk hT rfl rfl mE rfl rfl) ?_ | refine g_yd rfl rfl (yd_load_row hT rfl rfl mE rfl rfl) ?_ | refine g_yd rfl rfl (yd_load_row0 hT rfl rfl mE rfl rfl) ?_ | refine g_yd rfl rfl (yd_eql rfl rfl rfl rfl rfl (by kernel_rfl)) ?_ | refine g_yd rfl rfl (yd_neq rfl rfl rfl rfl rfl (by kernel_rfl)) ?_ | refine g_yd rfl rfl (yd_index hT rfl rfl rfl sI rfl) ?_ | refine g_yd rfl rfl (yd_slice_nil hT rfl rfl rfl rfl) ?_ | refine g_yd rfl rfl (yd_build_arr hT rfl rfl rfl rfl rfl rfl) ?_ | (refine g_mv rfl ?_; first | (refine mv_box rfl rfl rfl rfl ?_; intro _) | (refine mv_alloc rfl hT rfl rfl ?_; intro _) | refine mv_store hT rfl rfl rfl rfl rfl rfl sO rfl ?_ | (refine mv_buildSlice rfl hT rfl rfl rfl rfl rfl rfl rfl rfl ?_; intro _)) | refine g_yd rfl rfl (Ys.yd (ys_str_eql hT rfl rfl rfl rfl)) ?_ | refine g_yd rfl rfl (Ys.yd (ys_str_neq hT rfl rfl rfl rfl)) ?_))
  refine gk_cond rfl rfl (tells_tB _) (fun hlt => ?_) (fun hlt => ?_)
  · have hi : i < qs.length := by omega
    obtain ⟨x, hx⟩ := get_ex hi
    obtain ⟨d, hd⟩ := get_ex (l := ds) (i := i) (by omega)
    obtain ⟨e, he⟩ := get_ex (l := es) (i := i) (by omega)
    have hxc : (cutN L)[i]? = some x.2 := by rw [← hp5, List.getElem?_map, hx]; rfl
    have hdl := hq5.at hxc hd
    have hel := hr5.at hxc he
    have hxn := hp6 x (List.mem_of_getElem? hx)
    have hx9 := (cut_at hxc).2.1
    refine gk_allR (l := qs) (F := QF) (x := x) mE (List.mem_of_getElem? hx) ?_
    refine gk_allR (l := ds) (F := nodeF) (x := d) mE (List.mem_of_getElem? hd) ?_
    refine gk_allR (l := es) (F := nodeF) (x := e) mE (List.mem_of_getElem? he) ?_
    refine gk_elem (enc := QE) (L := qs) i (show sl pA 1 QE qs ∈ _ from mE) (by omega) (by decide) (fun b1 o1 y eA hy => ?_)
    subst eA
    obtain rfl : x = y := by rw [hx] at hy; exact Option.some.inj hy
    refine gk_elem (enc := PE) (L := ds.map NodeD.g) i (show sl qA 1 PE (ds.map NodeD.g) ∈ _ from mE) (by rw [List.length_map]; omega) (by decide) (fun b2 o2 y eA hy => ?_)
    subst eA
    obtain rfl : d.g = y := by rw [List.getElem?_map, hd] at hy; exact Option.some.inj hy
    refine gk_elem (enc := PE) (L := es.map NodeD.g) i (show sl rA 1 PE (es.map NodeD.g) ∈ _ from mE) (by rw [List.length_map]; omega) (by decide) (fun b3 o3 y eA hy => ?_)
    subst eA
    obtain rfl : e.g = y := by rw [List.getElem?_map, he] at hy; exact Option.some.inj hy
    obtain ⟨⟨xA, xn, xc⟩, M⟩ := x
    dsimp only at hxc hdl hel hxn hx9
    refine gk_any [0, 1, 2] (Cut _ (fun _ : Unit => [(0, .slice A n c), (1, .int .i64 k), (5, .slice (some ⟨b1, o1, none⟩) pn pc), (6, .slice (some ⟨b2, o2, none⟩) qn qc), (9, .slice (some ⟨b3, o3, none⟩) rn rc), (10, .int .i64 i), (96, .bool false)]) (fun _ => []) (fun _ => [sl (some ⟨b3, o3, none⟩) 1 PE (es.map NodeD.g), allF es nodeF, sl (some ⟨b2, o2, none⟩) 1 PE (ds.map NodeD.g), allF ds nodeF, sl (some ⟨b1, o1, none⟩) 1 QE qs, allF qs QF, sl A 4 EE L])) rfl rfl (by kernel_rfl) ?_ (cut_k fun _ => ?_)
    · skip
      refine gb_take 0 rfl (by decide +kernel) rfl rfl (ys_ev (nw := true) hT rfl sI) sF ?_
      refine gb_take 1 rfl (by decide +kernel) rfl rfl (ys_ev (nw := true) hT rfl sI) sF ?_
      refine gb_take 2 rfl (by decide +kernel) rfl rfl (ys_ev (nw := true) hT rfl sI) sF ?_
      refine gb_take 3 rfl (by decide +kernel) rfl rfl (by first | exact ys_blk hT rfl rfl mE rfl rfl | exact ys_row hT rfl rfl mE rfl rfl | exact ys_row0 hT rfl rfl mE rfl rfl) sF ?_
      refine gb_take 4 rfl (by decide +kernel) rfl rfl (ys_ev (nw := true) hT rfl sI) sF ?_
      refine gb_take 5 rfl (by decide +kernel) rfl rfl (ys_ev (nw := true) hT rfl sI) sF ?_
      refine gb_take 6 rfl (by decide +kernel) rfl rfl (ys_ev (nw := true) hT rfl sI) sF ?_
      refine gb_take 7 rfl (by decide +kernel) rfl rfl (by first | exact ys_blk hT rfl rfl mE rfl rfl | exact ys_row hT rfl rfl mE rfl rfl | exact ys_row0 hT rfl rfl mE rfl rfl) sF ?_
      refine gb_only 8 (by decide +kernel) rfl rfl ?_
      refine mv_call_bel (fun w hk => same_yes d xA xn xc M w hdl hxn (by omega) (hk.rR mE) (hk.rR (φ := sl xA 4 EE M) mE)) rfl rfl rfl rfl rfl (by kernel_rfl) ?_
      refine ⟨sF, ?_⟩
      refine gb_take 9 rfl (by decide +kernel) rfl rfl (ys_ev (nw := true) hT rfl sI) sF ?_
      refine gb_take 10 rfl (by decide +kernel) rfl rfl (ys_ev (nw := true) hT rfl sI) sF ?_
      first | refine gb_take 11 rfl (by decide +kernel) rfl rfl (ys_ev (nw := true) hT rfl sI) sF ?_ | refine gb_skip 11 rfl (by decide +kernel) rfl rfl sF ?_
      first | refine gb_take 12 rfl (by decide +kernel) rfl rfl (ys_ev (nw := true) hT rfl sI) sF ?_ | refine gb_skip 12 rfl (by decide +kernel) rfl rfl sF ?_
      first | refine gb_take 13 rfl (by decide +kernel) rfl rfl (ys_ev (nw := true) hT rfl sI) sF ?_ | refine gb_skip 13 rfl (by decide +kernel) rfl rfl sF ?_
      first | refine gb_take 14 rfl (by decide +kernel) rfl rfl (by first | exact ys_blk hT rfl rfl mE rfl rfl | exact ys_row hT rfl rfl mE rfl rfl | exact ys_row0 hT rfl rfl mE rfl rfl) sF ?_ | refine gb_skip 14 rfl (by decide +kernel) rfl rfl sF ?_
      first | refine gb_take 15 rfl (by decide +kernel) rfl rfl (ys_ev (nw := true) hT rfl sI) sF ?_ | refine gb_skip 15 rfl (by decide +kernel) rfl rfl sF ?_
      first | refine gb_take 16 rfl (by decide +kernel) rfl rfl (ys_ev (nw := true) hT rfl sI) sF ?_ | refine gb_skip 16 rfl (by decide +kernel) rfl rfl sF ?_
      first | refine gb_take 17 rfl (by decide +kernel) rfl rfl (ys_ev (nw := true) hT rfl sI) sF ?_ | refine gb_skip 17 rfl (by decide +kernel) rfl rfl sF ?_
      first | refine gb_take 18 rfl (by decide +kernel) rfl rfl (by first | exact ys_blk hT rfl rfl mE rfl rfl | exact ys_row hT rfl rfl mE rfl rfl | exact ys_row0 hT rfl rfl mE rfl rfl) sF ?_ | refine gb_skip 18 rfl (by decide +kernel) rfl rfl sF ?_
      first | refine gb_skip 19 rfl (by decide +kernel) rfl rfl sF ?_ | (refine gb_only 19 (by decide +kernel) rfl rfl ?_; (refine mv_call_bel (fun w hk => same_yes e xA xn xc M w hel hxn (by omega) (hk.rR mE) (hk.rR (φ := sl xA 4 EE M) mE)) rfl rfl rfl rfl rfl (by kernel_rfl) ?_); refine ⟨sF, ?_⟩)
      first | refine gb_take 20 rfl (by decide +kernel) rfl rfl (ys_ev (nw := true) hT rfl sI) sF ?_ | refine gb_skip 20 rfl (by decide +kernel) rfl rfl sF ?_
      refine gb_take 21 rfl (by decide +kernel) rfl rfl (ys_ev (nw := true) hT rfl sI) sF ?_
      refine gb_nil (by decide +kernel) ?_
      exact ⟨(), (by repeat (first | exact trivial | refine ⟨rfl, ?_⟩)), sA, sS⟩
    · (repeat (first | refine g_nil ?_ | refine g_pure true hT rfl rfl rfl sI ?_ | refine g_skip rfl rfl ?_ | refine g_skip0 rfl rfl ?_ | refine gk_region rfl ?_ | refine gk_cond_t rfl rfl ?_ | refine gk_cond_f rfl rfl ?_ | refine g_yd rfl rfl (yd_load_blk hT rfl rfl mE rfl rfl) ?_ | refine g_yd rfl rfl (yd_load_row hT rfl rfl mE rfl rfl) ?_ | refine g_yd rfl rfl (yd_load_row0 hT rfl rfl mE rfl rfl) ?_ | refine g_yd rfl rfl (yd_eql rfl rfl rfl rfl rfl (by kernel_rfl)) ?_ | refine g_yd rfl rfl (yd_neq rfl rfl rfl rfl rfl (by kernel_rfl)) ?_ | refine g_yd rfl rfl (yd_index hT rfl rfl rfl sI rfl) ?_ | refine g_yd rfl rfl (yd_slice_nil hT rfl rfl rfl rfl) ?_ | refine g_yd rfl rfl (yd_build_arr hT rfl rfl rfl rfl rfl rfl) ?_ | (refine g_mv rfl ?_; first | (refine mv_box rfl rfl rfl rfl ?_; intro _) | (refine mv_alloc rfl hT rfl rfl ?_; intro _) | refine mv_store hT rfl rfl rfl rfl rfl rfl sO rfl ?_ | (refine mv_buildSlice rfl hT rfl rfl rfl rfl rfl rfl rfl rfl ?_; intro _)) | refine g_yd rfl rfl (Ys.yd (ys_str_eql hT rfl rfl rfl rfl)) ?_ | refine g_yd rfl rfl (Ys.yd (ys_str_neq hT rfl rfl rfl rfl)) ?_))
      refine gk_again_sel rfl (i + 1) (by omega) (by omega) (by repeat (first | exact trivial | refine ⟨rfl, ?_⟩)) sA sS
  · clear hlt
    (repeat (first | refine g_nil ?_ | refine g_pure true hT rfl rfl rfl sI ?_ | refine g_skip rfl rfl ?_ | refine g_skip0 rfl rfl ?_ | refine gk_region rfl ?_ | refine gk_cond_t rfl rfl ?_ | refine gk_cond_f rfl rfl ?_ | refine g_yd rfl rfl (yd_load_blk hT rfl rfl mE rfl rfl) ?_ | refine g_yd rfl rfl (yd_load_row hT rfl rfl mE rfl rfl) ?_ | refine g_yd rfl rfl (yd_load_row0 hT rfl rfl mE rfl rfl) ?_ | refine g_yd rfl rfl (yd_eql rfl rfl rfl rfl rfl (by kernel_rfl)) ?_ | refine g_yd rfl rfl (yd_neq rfl rfl rfl rfl rfl (by kernel_rfl)) ?_ | refine g_yd rfl rfl (yd_index hT rfl rfl rfl sI rfl) ?_ | refine g_yd rfl rfl (yd_slice_nil hT rfl rfl rfl rfl) ?_ | refine g_yd rfl rfl (yd_build_arr hT rfl rfl rfl rfl rfl rfl) ?_ | (refine g_mv rfl ?_; first | (refine mv_box rfl rfl rfl rfl ?_; intro _) | (refine mv_alloc rfl hT rfl rfl ?_; intro _) | refine mv_store hT rfl rfl rfl rfl rfl rfl sO rfl ?_ | (refine mv_buildSlice rfl hT rfl rfl rfl rfl rfl rfl rfl rfl ?_; intro _)) | refine g_yd rfl rfl (Ys.yd (ys_str_eql hT rfl rfl rfl rfl)) ?_ | refine g_yd rfl rfl (Ys.yd (ys_str_neq hT rfl rfl rfl rfl)) ?_))
    refine gk_own 0 28 1 PE ?_
    refine gk_allNil nodeF ?_
    clear hm3 hm2 hr1 hr5 hq1 hq5 hr2 hr3 hr4 hq2 hq3 hq4
    refine gk_loop_sel (fun (q : Nat × Value × (List NodeD)) => match q with | (i, v, ks) => i ≤ n ∧ All2 (fun e d => IsLeaf [e] d) (L.take i) ks) (fun (q : Nat × Value × (List NodeD)) => match q with | (i, v, ks) => [(0, .slice A n c), (1, .int .i64 k), (5, .slice pA pn pc), (11, v), (12, .int .i64 i)]) (fun (q : Nat × Value × (List NodeD)) => match q with | (i, v, ks) => [own 0 28 1 v PE (ks.map NodeD.g)]) (fun (q : Nat × Value × (List NodeD)) => match q with | (i, v, ks) => [allF ks nodeF, sl pA 1 QE qs, allF qs QF, sl A 4 EE L]) (fun (q : Nat × Value × (List NodeD)) => match q with | (i, v, ks) => n - i) (0, .slice none 0 0, []) rfl ⟨Nat.zero_le _, .nil⟩ (by repeat (first | exact trivial | refine ⟨rfl, ?_⟩)) sA sS ?_
    rintro ⟨i, v, ks⟩ hI
    replace hI : i ≤ n ∧ All2 (fun e d => IsLeaf [e] d) (L.take i) ks := hI
    change GK _ _ [(0, .slice A n c), (1, .int .i64 k), (5, .slice pA pn pc), (11, v), (12, .int .i64 i)] [own 0 28 1 v PE (ks.map NodeD.g)] [allF ks nodeF, sl pA 1 QE qs, allF qs QF, sl A 4 EE L]
    obtain ⟨hi, hks⟩ := hI
    have hkl : ks.length = i := by have := hks.len; rw [List.length_take] at this; omega
    (repeat (first | refine g_nil ?_ | refine g_pure true hT rfl rfl rfl sI ?_ | refine g_skip rfl rfl ?_ | refine g_skip0 rfl rfl ?_ | refine gk_region rfl ?_ | refine gk_cond_t rfl rfl ?_ | refine gk_cond_f rfl rfl ?_ | refine g_yd rfl rfl (yd_load_blk hT rfl rfl mE rfl rfl) ?_ | refine g_yd rfl rfl (yd_load_row hT rfl rfl mE rfl rfl) ?_ | refine g_yd rfl rfl (yd_load_row0 hT rfl rfl mE rfl rfl) ?_ | refine g_yd rfl rfl (yd_eql rfl rfl rfl rfl rfl (by kernel_rfl)) ?_ | refine g_yd rfl rfl (yd_neq rfl rfl rfl rfl rfl (by kernel_rfl)) ?_ | refine g_yd rfl rfl (yd_index hT rfl rfl rfl sI rfl) ?_ | refine g_yd rfl rfl (yd_slice_nil hT rfl rfl rfl rfl) ?_ | refine g_yd rfl rfl (yd_build_arr hT rfl rfl rfl rfl rfl rfl) ?_ | (refine g_mv rfl ?_; first | (refine mv_box rfl rfl rfl rfl ?_; intro _) | (refine mv_alloc rfl hT rfl rfl ?_; intro _) | refine mv_store hT rfl rfl rfl rfl rfl rfl sO rfl ?_ | (refine mv_buildSlice rfl hT rfl rfl rfl rfl rfl rfl rfl rfl ?_; intro _)) | refine g_yd rfl rfl (Ys.yd (ys_str_eql hT rfl rfl rfl rfl)) ?_ | refine g_yd rfl rfl (Ys.yd (ys_str_neq hT rfl rfl rfl rfl)) ?_))
    refine gk_cond rfl rfl (tells_tB _) (fun hlt => ?_) (fun hlt => ?_)
    · have hiL : i < L.length := by omega
      refine gk_elem (enc := EE) (L := L) i mE (by omega) (by decide) (fun b0 off y eA hy => ?_)
      subst eA
      (repeat (first | refine g_nil ?_ | refine g_pure true hT rfl rfl rfl sI ?_ | refine g_skip rfl rfl ?_ | refine g_skip0 rfl rfl ?_ | refine gk_region rfl ?_ | refine gk_cond_t rfl rfl ?_ | refine gk_cond_f rfl rfl ?_ | refine g_yd rfl rfl (yd_load_blk hT rfl rfl mE rfl rfl) ?_ | refine g_yd rfl rfl (yd_load_row hT rfl rfl mE rfl rfl) ?_ | refine g_yd rfl rfl (yd_load_row0 hT rfl rfl mE rfl rfl) ?_ | refine g_yd rfl rfl (yd_eql rfl rfl rfl rfl rfl (by kernel_rfl)) ?_ | refine g_yd rfl rfl (yd_neq rfl rfl rfl rfl rfl (by kernel_rfl)) ?_ | refine g_yd rfl rfl (yd_index hT rfl rfl rfl sI rfl) ?_ | refine g_yd rfl rfl (yd_slice_nil hT rfl rfl rfl rfl) ?_ | refine g_yd rfl rfl (yd_build_arr hT rfl rfl rfl rfl rfl rfl) ?_ | (refine g_mv rfl ?_; first | (refine mv_box rfl rfl rfl rfl ?_; intro _) | (refine mv_alloc rfl hT rfl rfl ?_; intro _) | refine mv_store hT rfl rfl rfl rfl rfl rfl sO rfl ?_ | (refine mv_buildSlice rfl hT rfl rfl rfl rfl rfl rfl rfl rfl ?_; intro _)) | refine g_yd rfl rfl (Ys.yd (ys_str_eql hT rfl rfl rfl rfl)) ?_ | refine g_yd rfl rfl (Ys.yd (ys_str_neq hT rfl rfl rfl rfl)) ?_))
      rename_i g1
      refine g_mv rfl ?_; refine mv_call_rt (fun w hk => leaf_any (some ⟨g1, 0, none⟩) 1 1 [y] w rfl (by show 1 ≤ 10000; omega) (src_blk (M := [y]) mE rfl w hk)) rfl rfl rfl rfl rfl (by kernel_rfl) (fun _ => rfl) (fun d hd => ?_)
      (repeat (first | refine g_nil ?_ | refine g_pure true hT rfl rfl rfl sI ?_ | refine g_skip rfl rfl ?_ | refine g_skip0 rfl rfl ?_ | refine gk_region rfl ?_ | refine gk_cond_t rfl rfl ?_ | refine gk_cond_f rfl rfl ?_ | refine g_yd rfl rfl (yd_load_blk hT rfl rfl mE rfl rfl) ?_ | refine g_yd rfl rfl (yd_load_row hT rfl rfl mE rfl rfl) ?_ | refine g_yd rfl rfl (yd_load_row0 hT rfl rfl mE rfl rfl) ?_ | refine g_yd rfl rfl (yd_eql rfl rfl rfl rfl rfl (by kernel_rfl)) ?_ | refine g_yd rfl rfl (yd_neq rfl rfl rfl rfl rfl (by kernel_rfl)) ?_ | refine g_yd rfl rfl (yd_index hT rfl rfl rfl sI rfl) ?_ | refine g_yd rfl rfl (yd_slice_nil hT rfl rfl rfl rfl) ?_ | refine g_yd rfl rfl (yd_build_arr hT rfl rfl rfl rfl rfl rfl) ?_ | (refine g_mv rfl ?_; first | (refine mv_box rfl rfl rfl rfl ?_; intro _) | (refine mv_alloc rfl hT rfl rfl ?_; intro _) | refine mv_store hT rfl rfl rfl rfl rfl rfl sO rfl ?_ | (refine mv_buildSlice rfl hT rfl rfl rfl rfl rfl rfl rfl rfl ?_; intro _)) | refine g_yd rfl rfl (Ys.yd (ys_str_eql hT rfl rfl rfl rfl)) ?_ | refine g_yd rfl rfl (Ys.yd (ys_str_neq hT rfl rfl rfl rfl)) ?_))
      rename_i g3
      refine g_mv rfl (mv_append rfl [d.g] rfl rfl rfl rfl elt_P (by intro _; repeat (first | exact Upd.here _ | apply Upd.there)) (src_blk mE rfl) rfl (by intro x j; rfl) (by simp only [maxLen, List.length_map, List.length_cons, List.length_nil]; omega) (by simp only [List.length_map, List.length_cons, List.length_nil]; omega) (Nat.zero_le _) (fun v1 => ?_))
      (repeat (first | refine g_nil ?_ | refine g_pure true hT rfl rfl rfl sI ?_ | refine g_skip rfl rfl ?_ | refine g_skip0 rfl rfl ?_ | refine gk_region rfl ?_ | refine gk_cond_t rfl rfl ?_ | refine gk_cond_f rfl rfl ?_ | refine g_yd rfl rfl (yd_load_blk hT rfl rfl mE rfl rfl) ?_ | refine g_yd rfl rfl (yd_load_row hT rfl rfl mE rfl rfl) ?_ | refine g_yd rfl rfl (yd_load_row0 hT rfl rfl mE rfl rfl) ?_ | refine g_yd rfl rfl (yd_eql rfl rfl rfl rfl rfl (by kernel_rfl)) ?_ | refine g_yd rfl rfl (yd_neq rfl rfl rfl rfl rfl (by kernel_rfl)) ?_ | refine g_yd rfl rfl (yd_index hT rfl rfl rfl sI rfl) ?_ | refine g_yd rfl rfl (yd_slice_nil hT rfl rfl rfl rfl) ?_ | refine g_yd rfl rfl (yd_build_arr hT rfl rfl rfl rfl rfl rfl) ?_ | (refine g_mv rfl ?_; first | (refine mv_box rfl rfl rfl rfl ?_; intro _) | (refine mv_alloc rfl hT rfl rfl ?_; intro _) | refine mv_store hT rfl rfl rfl rfl rfl rfl sO rfl ?_ | (refine mv_buildSlice rfl hT rfl rfl rfl rfl rfl rfl rfl rfl ?_; intro _)) | refine g_yd rfl rfl (Ys.yd (ys_str_eql hT rfl rfl rfl rfl)) ?_ | refine g_yd rfl rfl (Ys.yd (ys_str_neq hT rfl rfl rfl rfl)) ?_))
      refine gk_share (φ := d.b) (by repeat (first | with_reducible exact Sel.here | with_reducible apply Sel.there)) ?_
      refine gk_share (φ := sl d.K.A 3 KE d.Ks) (by repeat (first | with_reducible exact Sel.here | with_reducible apply Sel.there)) ?_
      refine gk_share (φ := sl d.V.A 1 (IE .u32) d.Vs) (by repeat (first | with_reducible exact Sel.here | with_reducible apply Sel.there)) ?_
      refine gk_share (φ := sl d.C.A 1 PE d.Cs) (by repeat (first | with_reducible exact Sel.here | with_reducible apply Sel.there)) ?_
      refine gk_nodeR (d := d) mE mE mE mE ?_
      refine gk_allSnoc (l := ks) (F := nodeF) (x := d) mE mE ?_
      rw [show ks.map NodeD.g ++ [d.g] = (ks ++ [d]).map NodeD.g by rw [List.map_append]; rfl]
      refine gk_again_sel rfl (i + 1, v1, ks ++ [d]) ⟨by omega, by
        rw [List.take_succ_eq_append_getElem hiL]
        rw [List.getElem?_eq_getElem hiL] at hy
        injection hy with hy
        rw [hy]
        exact hks.snoc hd⟩ (by dsimp only; omega) (by repeat (first | exact trivial | refine ⟨rfl, ?_⟩)) sA sS
    · obtain rfl : i = n := by omega
      clear hlt hi
      have hkL : ks.length = L.length := by omega
      have hne : ∀ d ∈ ks, 0 < d.Ks.length ∧ d.Ok := by
        intro d hd
        obtain ⟨e, _, he⟩ := hks.memR hd
        exact ⟨by rw [he.Ks]; exact Nat.zero_lt_one, he.ok⟩
      clear hks
      refine gk_freeze _ (by intro _; repeat (first | exact Upd.here _ | apply Upd.there)) (fun A2 c2 hA2 hA21 hA22 hA23 => ?_); subst hA2
      refine gk_share (φ := sl A2 1 PE (ks.map NodeD.g)) (by repeat (first | with_reducible exact Sel.here | with_reducible apply Sel.there)) ?_
      have hkn : (ks.map NodeD.g).length = ks.length := List.length_map ..
      (repeat (first | refine g_nil ?_ | refine g_pure true hT rfl rfl rfl sI ?_ | refine g_skip rfl rfl ?_ | refine g_skip0 rfl rfl ?_ | refine gk_region rfl ?_ | refine gk_cond_t rfl rfl ?_ | refine gk_cond_f rfl rfl ?_ | refine g_yd rfl rfl (yd_load_blk hT rfl rfl mE rfl rfl) ?_ | refine g_yd rfl rfl (yd_load_row hT rfl rfl mE rfl rfl) ?_ | refine g_yd rfl rfl (yd_load_row0 hT rfl rfl mE rfl rfl) ?_ | refine g_yd rfl rfl (yd_eql rfl rfl rfl rfl rfl (by kernel_rfl)) ?_ | refine g_yd rfl rfl (yd_neq rfl rfl rfl rfl rfl (by kernel_rfl)) ?_ | refine g_yd rfl rfl (yd_index hT rfl rfl rfl sI rfl) ?_ | refine g_yd rfl rfl (yd_slice_nil hT rfl rfl rfl rfl) ?_ | refine g_yd rfl rfl (yd_build_arr hT rfl rfl rfl rfl rfl rfl) ?_ | (refine g_mv rfl ?_; first | (refine mv_box rfl rfl rfl rfl ?_; intro _) | (refine mv_alloc rfl hT rfl rfl ?_; intro _) | refine mv_store hT rfl rfl rfl rfl rfl rfl sO rfl ?_ | (refine mv_buildSlice rfl hT rfl rfl rfl rfl rfl rfl rfl rfl ?_; intro _)) | refine g_yd rfl rfl (Ys.yd (ys_str_eql hT rfl rfl rfl rfl)) ?_ | refine g_yd rfl rfl (Ys.yd (ys_str_neq hT rfl rfl rfl rfl)) ?_))
      refine g_mv rfl ?_; refine mv_call_rs (fun w hk => inners_any A2 (ks.map NodeD.g).length c2 ks w (by rw [List.length_map]) hA21 (by omega) hne (.cons (hk.rR mE) (.cons (hk.rR mE) .nil))) rfl rfl rfl rfl rfl (by kernel_rfl) sS (fun _ => rfl) (fun u hu hun => ?_)
      clear hun
      obtain ⟨⟨uA, un, uc⟩, us⟩ := u
      obtain ⟨⟨hu1, hu2, hu3, hu4⟩, hu5⟩ := hu
      dsimp only at hu1 hu5
      have hm2 := hu5.len
      (repeat (first | refine g_nil ?_ | refine g_pure true hT rfl rfl rfl sI ?_ | refine g_skip rfl rfl ?_ | refine g_skip0 rfl rfl ?_ | refine gk_region rfl ?_ | refine gk_cond_t rfl rfl ?_ | refine gk_cond_f rfl rfl ?_ | refine g_yd rfl rfl (yd_load_blk hT rfl rfl mE rfl rfl) ?_ | refine g_yd rfl rfl (yd_load_row hT rfl rfl mE rfl rfl) ?_ | refine g_yd rfl rfl (yd_load_row0 hT rfl rfl mE rfl rfl) ?_ | refine g_yd rfl rfl (yd_eql rfl rfl rfl rfl rfl (by kernel_rfl)) ?_ | refine g_yd rfl rfl (yd_neq rfl rfl rfl rfl rfl (by kernel_rfl)) ?_ | refine g_yd rfl rfl (yd_index hT rfl rfl rfl sI rfl) ?_ | refine g_yd rfl rfl (yd_slice_nil hT rfl rfl rfl rfl) ?_ | refine g_yd rfl rfl (yd_build_arr hT rfl rfl rfl rfl rfl rfl) ?_ | (refine g_mv rfl ?_; first | (refine mv_box rfl rfl rfl rfl ?_; intro _) | (refine mv_alloc rfl hT rfl rfl ?_; intro _) | refine mv_store hT rfl rfl rfl rfl rfl rfl sO rfl ?_ | (refine mv_buildSlice rfl hT rfl rfl rfl rfl rfl rfl rfl rfl ?_; intro _)) | refine g_yd rfl rfl (Ys.yd (ys_str_eql hT rfl rfl rfl rfl)) ?_ | refine g_yd rfl rfl (Ys.yd (ys_str_neq hT rfl rfl rfl rfl)) ?_))
      refine gk_takeS (enc := PE) (L := ks.map NodeD.g) k c2 mE (by omega) ?_
      refine gk_dropS (enc := PE) (L := ks.map NodeD.g) k c2 mE (by omega) ?_
      rw [← List.map_take, ← List.map_drop]
      refine gk_any [] (Cut _ (fun j : { j : NS // (j.s.Ok j.ds.length ∧ All2 IsInner (cutN ks) j.ds) ∧ ∀ φ, φ ∈ [sl j.s.A 1 PE (j.ds.map NodeD.g), allF j.ds nodeF] → ∀ b, φ.S b → w.heap.size ≤ b ∨ ∃ ψ, ψ ∈ ([] : List Fact) ∧ ψ.S b } => [(0, .slice A i c), (1, .int .i64 k), (5, .slice pA pn pc), (11, .slice A2 (ks.map NodeD.g).length c2), (13, .slice uA un uc), (14, j.1.s.v)]) (fun _ => []) (fun j => [sl j.1.s.A 1 PE (j.1.ds.map NodeD.g), allF j.1.ds nodeF, sl uA 1 PE (us.map NodeD.g), allF us nodeF, allF ks nodeF, sl A2 1 PE (ks.map NodeD.g), sl pA 1 QE qs, allF qs QF, sl A 4 EE L])) rfl rfl (by kernel_rfl) ?_ (cut_k fun j => ?_)
      · skip
        refine gb_take 0 rfl (by decide +kernel) rfl rfl (ys_ev (nw := true) hT rfl sI) sF ?_
        refine gb_take 1 rfl (by decide +kernel) rfl rfl (ys_ev (nw := true) hT rfl sI) sF ?_
        refine gb_take 2 rfl (by decide +kernel) rfl rfl (ys_slice_h hT k rfl rfl rfl rfl rfl (by omega)) sF ?_
        refine gb_take 4 rfl (by decide +kernel) rfl rfl (ys_ev (nw := true) hT rfl sI) sF ?_
        refine gb_take 5 rfl (by decide +kernel) rfl rfl (ys_ev (nw := true) hT rfl sI) sF ?_
        refine gb_take 6 rfl (by decide +kernel) rfl rfl (ys_slice_l hT k rfl rfl rfl rfl rfl (by omega)) sF ?_
        refine gb_only 3 (by decide +kernel) rfl rfl ?_
        refine mv_call_rt (fun w hk => inner_any (shA A2 0 c2 1) k c2 (ks.take k) w (by rw [List.length_take]; omega) (by omega) (fun d hd => hne d (List.mem_of_mem_take hd)) (.cons (rd_kidB (rd_sub (hk.rR (φ := allF ks nodeF) mE) (fun x hx => List.mem_of_mem_take hx))) (.cons (rd_kidK (rd_sub (hk.rR (φ := allF ks nodeF) mE) (fun x hx => List.mem_of_mem_take hx))) (.cons (hk.rR mE) .nil)))) rfl rfl rfl rfl rfl (by kernel_rfl) (fun _ => rfl) (fun a ha => ?_)
        refine ⟨sF, ?_⟩
        refine gb_only 7 (by decide +kernel) rfl rfl ?_
        refine mv_call_rt (fun w hk => inner_any (shA A2 k c2 1) ((ks.map NodeD.g).length - k) (c2 - k) (ks.drop k) w (by rw [List.length_drop]; omega) (by omega) (fun d hd => hne d (List.mem_of_mem_drop hd)) (.cons (rd_kidB (rd_sub (hk.rR (φ := allF ks nodeF) mE) (fun x hx => List.mem_of_mem_drop hx))) (.cons (rd_kidK (rd_sub (hk.rR (φ := allF ks nodeF) mE) (fun x hx => List.mem_of_mem_drop hx))) (.cons (hk.rR mE) .nil)))) rfl rfl rfl rfl rfl (by kernel_rfl) (fun _ => rfl) (fun b hb => ?_)
        refine ⟨sF, ?_⟩
        refine gb_only 8 (by decide +kernel) rfl rfl ?_
        refine mv_call_rs (fun w hk => (by have := join_inner a b (ks.take k) (ks.drop k) w ha hb (by rw [List.length_take, List.length_drop]; omega) (fun d hd => hne d (by rwa [List.take_append_drop] at hd)) (rd_node hk mE mE mE mE) (rd_node hk mE mE mE mE) (by rw [List.take_append_drop]; exact hk.rR mE); rw [List.take_append_drop] at this; exact this)) rfl rfl rfl rfl rfl (by kernel_rfl) sS (fun _ => rfl) (fun j hj hjn => ?_)
        refine ⟨sF, ?_⟩
        refine gb_take 9 rfl (by decide +kernel) rfl rfl (ys_ev (nw := true) hT rfl sI) sF ?_
        refine gb_nil (by decide +kernel) ?_
        exact ⟨⟨j, hj, hjn⟩, (by repeat (first | exact trivial | refine ⟨rfl, ?_⟩)), sA, sS⟩
      obtain ⟨⟨⟨jA, jn, jc⟩, js⟩, ⟨⟨hj1, hj2, hj3, hj4⟩, hj5⟩, hjn⟩ := j
      dsimp only
      clear hjn
      dsimp only at hj1 hj5
      have hm3 := hj5.len
      have hmk : (cutN ks).length = (cutN L).length := cut_len2 hkL
      refine gk_say 14 (.slice jA jn jc) rfl rfl ?_
      (repeat' (first | (first | refine g_nil ?_ | refine g_pure true hT rfl rfl rfl sI ?_ | refine g_skip rfl rfl ?_ | refine g_skip0 rfl rfl ?_ | refine gk_region rfl ?_ | refine gk_cond_t rfl rfl ?_ | refine gk_cond_f rfl rfl ?_ | refine g_yd rfl rfl (yd_load_blk hT rfl rfl mE rfl rfl) ?_ | refine g_yd rfl rfl (yd_load_row hT rfl rfl mE rfl rfl) ?_ | refine g_yd rfl rfl (yd_load_row0 hT rfl rfl mE rfl rfl) ?_ | refine g_yd rfl rfl (yd_eql rfl rfl rfl rfl rfl (by kernel_rfl)) ?_ | refine g_yd rfl rfl (yd_neq rfl rfl rfl rfl rfl (by kernel_rfl)) ?_ | refine g_yd rfl rfl (yd_index hT rfl rfl rfl sI rfl) ?_ | refine g_yd rfl rfl (yd_slice_nil hT rfl rfl rfl rfl) ?_ | refine g_yd rfl rfl (yd_build_arr hT rfl rfl rfl rfl rfl rfl) ?_ | (refine g_mv rfl ?_; first | (refine mv_box rfl rfl rfl rfl ?_; intro _) | (refine mv_alloc rfl hT rfl rfl ?_; intro _) | refine mv_store hT rfl rfl rfl rfl rfl rfl sO rfl ?_ | (refine mv_buildSlice rfl hT rfl rfl rfl rfl rfl rfl rfl rfl ?_; intro _)) | refine g_yd rfl rfl (Ys.yd (ys_str_eql hT rfl rfl rfl rfl)) ?_ | refine g_yd rfl rfl (Ys.yd (ys_str_neq hT rfl rfl rfl rfl)) ?_) | (refine g_mv rfl ?_; first | refine mv_call_bel (fun w hk => inners_nil w) rfl rfl rfl rfl rfl (by kernel_rfl) ?_ | refine mv_call_bel (fun w hk => leaves_none none 0 w) rfl rfl rfl rfl rfl (by kernel_rfl) ?_) | ((first | refine g_split rfl rfl tE (fun _ => ?_) (fun _ => ?_) | refine gk_cond rfl rfl tE (fun _ => ?_) (fun _ => ?_)) <;> (try first | (exfalso; omega; done) | (rename_i hx; exact absurd rfl hx) | (rename_i hx; cases hx; done)))))
      refine gk_loop_sel (fun (q : Nat × Nat) => match q with | (m, t) => m ≤ qs.length ∧ (m < qs.length → t = m * (L.length / 2))) (fun (q : Nat × Nat) => match q with | (m, t) => [(0, .slice A i c), (1, .int .i64 k), (5, .slice pA pn pc), (11, .slice A2 (ks.map NodeD.g).length c2), (13, .slice uA un uc), (14, .slice jA jn jc), (15, .int .i64 t), (16, .int .i64 m)]) (fun (q : Nat × Nat) => match q with | (m, t) => []) (fun (q : Nat × Nat) => match q with | (m, t) => [sl jA 1 PE (js.map NodeD.g), allF js nodeF, sl uA 1 PE (us.map NodeD.g), allF us nodeF, allF ks nodeF, sl A2 1 PE (ks.map NodeD.g), sl pA 1 QE qs, allF qs QF, sl A 4 EE L]) (fun (q : Nat × Nat) => match q with | (m, t) => qs.length - m) (0, 0) rfl ⟨Nat.zero_le _, fun _ => by omega⟩ (by repeat (first | exact trivial | refine ⟨rfl, ?_⟩)) sA sS ?_
      rintro ⟨m, t⟩ hI
      replace hI : m ≤ qs.length ∧ (m < qs.length → t = m * (L.length / 2)) := hI
      change GK _ _ [(0, .slice A i c), (1, .int .i64 k), (5, .slice pA pn pc), (11, .slice A2 (ks.map NodeD.g).length c2), (13, .slice uA un uc), (14, .slice jA jn jc), (15, .int .i64 t), (16, .int .i64 m)] [] [sl jA 1 PE (js.map NodeD.g), allF js nodeF, sl uA 1 PE (us.map NodeD.g), allF us nodeF, allF ks nodeF, sl A2 1 PE (ks.map NodeD.g), sl pA 1 QE qs, allF qs QF, sl A 4 EE L]
      obtain ⟨hmq, ht⟩ := hI
      (repeat (first | refine g_nil ?_ | refine g_pure true hT rfl rfl rfl sI ?_ | refine g_skip rfl rfl ?_ | refine g_skip0 rfl rfl ?_ | refine gk_region rfl ?_ | refine gk_cond_t rfl rfl ?_ | refine gk_cond_f rfl rfl ?_ | refine g_yd rfl rfl (yd_load_blk hT rfl rfl mE rfl rfl) ?_ | refine g_yd rfl rfl (yd_load_row hT rfl rfl mE rfl rfl) ?_ | refine g_yd rfl rfl (yd_load_row0 hT rfl rfl mE rfl rfl) ?_ | refine g_yd rfl rfl (yd_eql rfl rfl rfl rfl rfl (by kernel_rfl)) ?_ | refine g_yd rfl rfl (yd_neq rfl rfl rfl rfl rfl (by kernel_rfl)) ?_ | refine g_yd rfl rfl (yd_index hT rfl rfl rfl sI rfl) ?_ | refine g_yd rfl rfl (yd_slice_nil hT rfl rfl rfl rfl) ?_ | refine g_yd rfl rfl (yd_build_arr hT rfl rfl rfl rfl rfl rfl) ?_ | (refine g_mv rfl ?_; first | (refine mv_box rfl rfl rfl rfl ?_; intro _) | (refine mv_alloc rfl hT rfl rfl ?_; intro _) | refine mv_store hT rfl rfl rfl rfl rfl rfl sO rfl ?_ | (refine mv_buildSlice rfl hT rfl rfl rfl rfl rfl rfl rfl rfl ?_; intro _)) | refine g_yd rfl rfl (Ys.yd (ys_str_eql hT rfl rfl rfl rfl)) ?_ | refine g_yd rfl rfl (Ys.yd (ys_str_neq hT rfl rfl rfl rfl)) ?_))
      refine gk_cond rfl rfl (tells_tB _) (fun hlt => ?_) (fun hlt => ?_)
      · have hi : m < qs.length := by omega
        replace ht := ht hi
        obtain ⟨x, hx⟩ := get_ex hi
        obtain ⟨d, hd⟩ := get_ex (l := us) (i := m) (by omega)
        obtain ⟨e, he⟩ := get_ex (l := js) (i := m) (by omega)
        obtain ⟨KM, hKM⟩ := get_ex (l := cutN ks) (i := m) (by omega)
        have hxc : (cutN L)[m]? = some x.2 := by rw [← hp5, List.getElem?_map, hx]; rfl
        have hdl := hu5.at hKM hd
        have hel := hj5.at hKM he
        have hxn := hp6 x (List.mem_of_getElem? hx)
        obtain ⟨hc1, hc2, hc3⟩ := cut_at hxc
        have hll := cut_len_at hkL hKM hxc
        have hk1' := (cut_at hKM).1
        rw [hkL, ← ht, hll] at hk1'
        rw [← ht] at hc2 hc3
        have hkm : ∀ y, y ∈ KM → y ∈ ks := by
          intro y hy
          rw [hk1'] at hy
          exact List.mem_of_mem_drop (List.mem_of_mem_take hy)
        refine gk_allR (l := qs) (F := QF) (x := x) mE (List.mem_of_getElem? hx) ?_
        refine gk_allR (l := us) (F := nodeF) (x := d) mE (List.mem_of_getElem? hd) ?_
        refine gk_allR (l := js) (F := nodeF) (x := e) mE (List.mem_of_getElem? he) ?_
        refine gk_elem (enc := QE) (L := qs) m (show sl pA 1 QE qs ∈ _ from mE) (by omega) (by decide) (fun b1 o1 y eA hy => ?_)
        subst eA
        obtain rfl : x = y := by rw [hx] at hy; exact Option.some.inj hy
        refine gk_elem (enc := PE) (L := us.map NodeD.g) m (show sl uA 1 PE (us.map NodeD.g) ∈ _ from mE) (by rw [List.length_map]; omega) (by decide) (fun b2 o2 y eA hy => ?_)
        subst eA
        obtain rfl : d.g = y := by rw [List.getElem?_map, hd] at hy; exact Option.some.inj hy
        refine gk_elem (enc := PE) (L := js.map NodeD.g) m (show sl jA 1 PE (js.map NodeD.g) ∈ _ from mE) (by rw [List.length_map]; omega) (by decide) (fun b3 o3 y eA hy => ?_)
        subst eA
        obtain rfl : e.g = y := by rw [List.getElem?_map, he] at hy; exact Option.some.inj hy
        obtain ⟨⟨xA, xn, xc⟩, M⟩ := x
        dsimp only at hxc hxn hll hk1' hc2 hc3
        subst hxn
        refine gk_sub (enc := PE) (L := ks.map NodeD.g) t c2 M.length (show sl A2 1 PE (ks.map NodeD.g) ∈ _ from mE) (by omega) ?_
        rw [← List.map_drop, ← List.map_take, ← hk1']
        refine gk_any [1, 2, 3] (Cut _ (fun _ : Unit => [(0, .slice A i c), (1, .int .i64 k), (5, .slice (some ⟨b1, o1, none⟩) pn pc), (11, .slice A2 (ks.map NodeD.g).length c2), (13, .slice (some ⟨b2, o2, none⟩) un uc), (14, .slice (some ⟨b3, o3, none⟩) jn jc), (15, .int .i64 t), (16, .int .i64 m), (184, .bool false)]) (fun _ => []) (fun _ => [row b1 (o1 + m * 1) (encF QE (⟨xA, M.length, xc⟩, M) 0 1), sl (some ⟨b3, o3, none⟩) 1 PE (js.map NodeD.g), allF js nodeF, sl (some ⟨b2, o2, none⟩) 1 PE (us.map NodeD.g), allF us nodeF, allF ks nodeF, sl A2 1 PE (ks.map NodeD.g), sl (some ⟨b1, o1, none⟩) 1 QE qs, allF qs QF, sl A 4 EE L])) rfl rfl (by kernel_rfl) ?_ (cut_k fun _ => ?_)
        · skip
          refine gb_take 0 rfl (by decide +kernel) rfl rfl (ys_ev (nw := true) hT rfl sI) sF ?_
          refine gb_take 1 rfl (by decide +kernel) rfl rfl (ys_ev (nw := true) hT rfl sI) sF ?_
          refine gb_take 2 rfl (by decide +kernel) rfl rfl (ys_ev (nw := true) hT rfl sI) sF ?_
          refine gb_take 3 rfl (by decide +kernel) rfl rfl (by first | exact ys_blk hT rfl rfl mE rfl rfl | exact ys_row hT rfl rfl mE rfl rfl | exact ys_row0 hT rfl rfl mE rfl rfl) sF ?_
          refine gb_take 4 rfl (by decide +kernel) rfl rfl (ys_ev (nw := true) hT rfl sI) sF ?_
          refine gb_take 5 rfl (by decide +kernel) rfl rfl (ys_ev (nw := true) hT rfl sI) sF ?_
          refine gb_take 6 rfl (by decide +kernel) rfl rfl (ys_ev (nw := true) hT rfl sI) sF ?_
          refine gb_take 7 rfl (by decide +kernel) rfl rfl (ys_ev (nw := true) hT rfl sI) sF ?_
          refine gb_take 8 rfl (by decide +kernel) rfl rfl (ys_ev (nw := true) hT rfl sI) sF ?_
          refine gb_take 9 rfl (by decide +kernel) rfl rfl (ys_ev (nw := true) hT rfl sI) sF ?_
          refine gb_take 10 rfl (by decide +kernel) rfl rfl (by first | exact ys_blk hT rfl rfl mE rfl rfl | exact ys_row hT rfl rfl mE rfl rfl | exact ys_row0 hT rfl rfl mE rfl rfl) sF ?_
          refine gb_take 11 rfl (by decide +kernel) rfl rfl (ys_ev (nw := true) hT rfl sI) sF ?_
          refine gb_take 12 rfl (by decide +kernel) rfl rfl (ys_ev (nw := true) hT rfl sI) sF ?_
          refine gb_take 13 rfl (by decide +kernel) rfl rfl (ys_slice_lh hT t (t + M.length) rfl rfl rfl rfl rfl rfl (by show (t : Int) + (M.length : Int) = _; omega) (by omega) (by omega)) sF ?_
          refine gb_only 14 (by decide +kernel) rfl rfl ?_
          refine mv_call_bel (fun w hk => linner_yes d KM (shA A2 t c2 1) (t + M.length - t) (c2 - t) w hdl (by omega) (by omega) (fun y hy => hne y (hkm y hy)) (hk.rR mE) (rd_sub (hk.rR (φ := allF ks nodeF) mE) hkm) (hk.rR mE)) rfl rfl rfl rfl rfl (by kernel_rfl) ?_
          refine ⟨sF, ?_⟩
          refine gb_take 15 rfl (by decide +kernel) rfl rfl (ys_ev (nw := true) hT rfl sI) sF ?_
          refine gb_take 16 rfl (by decide +kernel) rfl rfl (ys_ev (nw := true) hT rfl sI) sF ?_
          first | refine gb_take 17 rfl (by decide +kernel) rfl rfl (ys_ev (nw := true) hT rfl sI) sF ?_ | refine gb_skip 17 rfl (by decide +kernel) rfl rfl sF ?_
          first | refine gb_take 18 rfl (by decide +kernel) rfl rfl (ys_ev (nw := true) hT rfl sI) sF ?_ | refine gb_skip 18 rfl (by decide +kernel) rfl rfl sF ?_
          first | refine gb_take 19 rfl (by decide +kernel) rfl rfl (ys_ev (nw := true) hT rfl sI) sF ?_ | refine gb_skip 19 rfl (by decide +kernel) rfl rfl sF ?_
          first | refine gb_take 20 rfl (by decide +kernel) rfl rfl (by first | exact ys_blk hT rfl rfl mE rfl rfl | exact ys_row hT rfl rfl mE rfl rfl | exact ys_row0 hT rfl rfl mE rfl rfl) sF ?_ | refine gb_skip 20 rfl (by decide +kernel) rfl rfl sF ?_
          first | refine gb_take 21 rfl (by decide +kernel) rfl rfl (ys_ev (nw := true) hT rfl sI) sF ?_ | refine gb_skip 21 rfl (by decide +kernel) rfl rfl sF ?_
          first | refine gb_take 22 rfl (by decide +kernel) rfl rfl (ys_ev (nw := true) hT rfl sI) sF ?_ | refine gb_skip 22 rfl (by decide +kernel) rfl rfl sF ?_
          first | refine gb_take 23 rfl (by decide +kernel) rfl rfl (ys_ev (nw := true) hT rfl sI) sF ?_ | refine gb_skip 23 rfl (by decide +kernel) rfl rfl sF ?_
          first | refine gb_take 24 rfl (by decide +kernel) rfl rfl (ys_ev (nw := true) hT rfl sI) sF ?_ | refine gb_skip 24 rfl (by decide +kernel) rfl rfl sF ?_
          first | refine gb_take 25 rfl (by decide +kernel) rfl rfl (ys_ev (nw := true) hT rfl sI) sF ?_ | refine gb_skip 25 rfl (by decide +kernel) rfl rfl sF ?_
          first | refine gb_take 26 rfl (by decide +kernel) rfl rfl (ys_ev (nw := true) hT rfl sI) sF ?_ | refine gb_skip 26 rfl (by decide +kernel) rfl rfl sF ?_
          first | refine gb_take 27 rfl (by decide +kernel) rfl rfl (by first | exact ys_blk hT rfl rfl mE rfl rfl | exact ys_row hT rfl rfl mE rfl rfl | exact ys_row0 hT rfl rfl mE rfl rfl) sF ?_ | refine gb_skip 27 rfl (by decide +kernel) rfl rfl sF ?_
          first | refine gb_take 28 rfl (by decide +kernel) rfl rfl (ys_ev (nw := true) hT rfl sI) sF ?_ | refine gb_skip 28 rfl (by decide +kernel) rfl rfl sF ?_
          first | refine gb_take 29 rfl (by decide +kernel) rfl rfl (ys_ev (nw := true) hT rfl sI) sF ?_ | refine gb_skip 29 rfl (by decide +kernel) rfl rfl sF ?_
          first | refine gb_take 30 rfl (by decide +kernel) rfl rfl (ys_slice_lh hT t (t + M.length) rfl rfl rfl rfl rfl rfl (by show (t : Int) + (M.length : Int) = _; omega) (by omega) (by omega)) sF ?_ | refine gb_skip 30 rfl (by decide +kernel) rfl rfl sF ?_
          first | refine gb_skip 31 rfl (by decide +kernel) rfl rfl sF ?_ | (refine gb_only 31 (by decide +kernel) rfl rfl ?_; (refine mv_call_bel (fun w hk => linner_yes e KM (shA A2 t c2 1) (t + M.length - t) (c2 - t) w hel (by omega) (by omega) (fun y hy => hne y (hkm y hy)) (hk.rR mE) (rd_sub (hk.rR (φ := allF ks nodeF) mE) hkm) (hk.rR mE)) rfl rfl rfl rfl rfl (by kernel_rfl) ?_); refine ⟨sF, ?_⟩)
          first | refine gb_take 32 rfl (by decide +kernel) rfl rfl (ys_ev (nw := true) hT rfl sI) sF ?_ | refine gb_skip 32 rfl (by decide +kernel) rfl rfl sF ?_
          refine gb_take 33 rfl (by decide +kernel) rfl rfl (ys_ev (nw := true) hT rfl sI) sF ?_
          refine gb_nil (by decide +kernel) ?_
          exact ⟨(), (by repeat (first | exact trivial | refine ⟨rfl, ?_⟩)), sA, sS⟩
        · (repeat (first | refine g_nil ?_ | refine g_pure true hT rfl rfl rfl sI ?_ | refine g_skip rfl rfl ?_ | refine g_skip0 rfl rfl ?_ | refine gk_region rfl ?_ | refine gk_cond_t rfl rfl ?_ | refine gk_cond_f rfl rfl ?_ | refine g_yd rfl rfl (yd_load_blk hT rfl rfl mE rfl rfl) ?_ | refine g_yd rfl rfl (yd_load_row hT rfl rfl mE rfl rfl) ?_ | refine g_yd rfl rfl (yd_load_row0 hT rfl rfl mE rfl rfl) ?_ | refine g_yd rfl rfl (yd_eql rfl rfl rfl rfl rfl (by kernel_rfl)) ?_ | refine g_yd rfl rfl (yd_neq rfl rfl rfl rfl rfl (by kernel_rfl)) ?_ | refine g_yd rfl rfl (yd_index hT rfl rfl rfl sI rfl) ?_ | refine g_yd rfl rfl (yd_slice_nil hT rfl rfl rfl rfl) ?_ | refine g_yd rfl rfl (yd_build_arr hT rfl rfl rfl rfl rfl rfl) ?_ | (refine g_mv rfl ?_; first | (refine mv_box rfl rfl rfl rfl ?_; intro _) | (refine mv_alloc rfl hT rfl rfl ?_; intro _) | refine mv_store hT rfl rfl rfl rfl rfl rfl sO rfl ?_ | (refine mv_buildSlice rfl hT rfl rfl rfl rfl rfl rfl rfl rfl ?_; intro _)) | refine g_yd rfl rfl (Ys.yd (ys_str_eql hT rfl rfl rfl rfl)) ?_ | refine g_yd rfl rfl (Ys.yd (ys_str_neq hT rfl rfl rfl rfl)) ?_))
          refine gk_again_sel rfl (m + 1, t + M.length) ⟨by omega, fun h => hc3 (by omega)⟩ (by dsimp only; omega) (by repeat (first | exact trivial | refine ⟨rfl, ?_⟩)) sA sS
      · clear hlt
        (repeat' (first | (first | refine g_nil ?_ | refine g_pure true hT rfl rfl rfl sI ?_ | refine g_skip rfl rfl ?_ | refine g_skip0 rfl rfl ?_ | refine gk_region rfl ?_ | refine gk_cond_t rfl rfl ?_ | refine gk_cond_f rfl rfl ?_ | refine g_yd rfl rfl (yd_load_blk hT rfl rfl mE rfl rfl) ?_ | refine g_yd rfl rfl (yd_load_row hT rfl rfl mE rfl rfl) ?_ | refine g_yd rfl rfl (yd_load_row0 hT rfl rfl mE rfl rfl) ?_ | refine g_yd rfl rfl (yd_eql rfl rfl rfl rfl rfl (by kernel_rfl)) ?_ | refine g_yd rfl rfl (yd_neq rfl rfl rfl rfl rfl (by kernel_rfl)) ?_ | refine g_yd rfl rfl (yd_index hT rfl rfl rfl sI rfl) ?_ | refine g_yd rfl rfl (yd_slice_nil hT rfl rfl rfl rfl) ?_ | refine g_yd rfl rfl (yd_build_arr hT rfl rfl rfl rfl rfl rfl) ?_ | (refine g_mv rfl ?_; first | (refine mv_box rfl rfl rfl rfl ?_; intro _) | (refine mv_alloc rfl hT rfl rfl ?_; intro _) | refine mv_store hT rfl rfl rfl rfl rfl rfl sO rfl ?_ | (refine mv_buildSlice rfl hT rfl rfl rfl rfl rfl rfl rfl rfl ?_; intro _)) | refine g_yd rfl rfl (Ys.yd (ys_str_eql hT rfl rfl rfl rfl)) ?_ | refine g_yd rfl rfl (Ys.yd (ys_str_neq hT rfl rfl rfl rfl)) ?_) | (refine g_mv rfl ?_; first | refine mv_call_bel (fun w hk => nalive_any w) rfl rfl rfl rfl rfl (by kernel_rfl) ?_) | ((first | refine g_split rfl rfl tE (fun _ => ?_) (fun _ => ?_) | refine gk_cond rfl rfl tE (fun _ => ?_) (fun _ => ?_)) <;> (try first | (exfalso; omega; done) | (rename_i hx; exact absurd rfl hx) | (rename_i hx; cases hx; done)))))
        refine gk_ret hT rfl rfl (.tmp rfl .nil) (fun w' hk => ?_)
        exact ⟨rfl, hk.toBelow⟩
theorem nodeSplits_any (A : Option Addr) (n c : Nat) (L : List EntD) (cut : Int) (w : World) (hs0 : (SlV.mk A n c).Ok L.length) (hL : Sl w A 4 EE L) :
    Calls Try.prog 3 [.slice A n c, .int .i64 cut].toArray w fun e w' => e = .returned (.bool true) ∧ Below w.heap.size w w' := by
  have hn : n = L.length := hs0.n
  have hn9 : n ≤ 9223372036854775807 := by
    have h1 : n ≤ c := hs0.c
    have h2 : c ≤ maxLen := hs0.mx
    unfold maxLen at h2; omega
  by_cases hr : L.length ≤ 14 ∧ Asc L
  · by_cases h1 : 1 ≤ cut ∧ cut < n
    · obtain ⟨k, rfl⟩ : ∃ k : Nat, cut = k := ⟨cut.toNat, by omega⟩
      exact nodeSplits_main A n c L k w hs0 hL hr (by omega) (by omega)
    · refine g_enter0 T [] [] [sl A 4 EE L] Try.func3 rfl Try.ntmps3 rfl ((Kn.start w).argR hL (by decide) (fun _ h => by cases h)) ?_
      (repeat' (first | (first | refine g_nil ?_ | refine g_pure true hT rfl rfl rfl sI ?_ | refine g_skip rfl rfl ?_ | refine g_skip0 rfl rfl ?_ | refine gk_region rfl ?_ | refine gk_cond_t rfl rfl ?_ | refine gk_cond_f rfl rfl ?_ | refine g_yd rfl rfl (yd_load_blk hT rfl rfl mE rfl rfl) ?_ | refine g_yd rfl rfl (yd_load_row hT rfl rfl mE rfl rfl) ?_ | refine g_yd rfl rfl (yd_load_row0 hT rfl rfl mE rfl rfl) ?_ | refine g_yd rfl rfl (yd_eql rfl rfl rfl rfl rfl (by kernel_rfl)) ?_ | refine g_yd rfl rfl (yd_neq rfl rfl rfl rfl rfl (by kernel_rfl)) ?_ | refine g_yd rfl rfl (yd_index hT rfl rfl rfl sI rfl) ?_ | refine g_yd rfl rfl (yd_slice_nil hT rfl rfl rfl rfl) ?_ | refine g_yd rfl rfl (yd_build_arr hT rfl rfl rfl rfl rfl rfl) ?_ | (refine g_mv rfl ?_; first | (refine mv_box rfl rfl rfl rfl ?_; intro _) | (refine mv_alloc rfl hT rfl rfl ?_; intro _) | refine mv_store hT rfl rfl rfl rfl rfl rfl sO rfl ?_ | (refine mv_buildSlice rfl hT rfl rfl rfl rfl rfl rfl rfl rfl ?_; intro _)) | refine g_yd rfl rfl (Ys.yd (ys_str_eql hT rfl rfl rfl rfl)) ?_ | refine g_yd rfl rfl (Ys.yd (ys_str_neq hT rfl rfl rfl rfl)) ?_) | (refine g_mv rfl ?_; first | refine mv_call_bel (fun w hk => calls_bT (tB_true hr) (rises_any A n c L 14 w hn hn9 (hk.pR (sl A 4 EE L) mE))) rfl rfl rfl rfl rfl (by kernel_rfl) ?_) | ((first | refine g_split rfl rfl tE (fun _ => ?_) (fun _ => ?_) | refine gk_cond rfl rfl tE (fun _ => ?_) (fun _ => ?_)) <;> (try first | (exfalso; omega; done) | (rename_i hx; exact absurd rfl hx) | (rename_i hx; cases hx; done)))))
      all_goals (refine gk_ret hT rfl rfl (.tmp rfl .nil) (fun w' hk => ?_); exact ⟨rfl, hk.toBelow⟩)
  · refine g_enter0 T [] [] [sl A 4 EE L] Try.func3 rfl Try.ntmps3 rfl ((Kn.start w).argR hL (by decide) (fun _ h => by cases h)) ?_
    (repeat' (first | (first | refine g_nil ?_ | refine g_pure true hT rfl rfl rfl sI ?_ | refine g_skip rfl rfl ?_ | refine g_skip0 rfl rfl ?_ | refine gk_region rfl ?_ | refine gk_cond_t rfl rfl ?_ | refine gk_cond_f rfl rfl ?_ | refine g_yd rfl rfl (yd_load_blk hT rfl rfl mE rfl rfl) ?_ | refine g_yd rfl rfl (yd_load_row hT rfl rfl mE rfl rfl) ?_ | refine g_yd rfl rfl (yd_load_row0 hT rfl rfl mE rfl rfl) ?_ | refine g_yd rfl rfl (yd_eql rfl rfl rfl rfl rfl (by kernel_rfl)) ?_ | refine g_yd rfl rfl (yd_neq rfl rfl rfl rfl rfl (by kernel_rfl)) ?_ | refine g_yd rfl rfl (yd_index hT rfl rfl rfl sI rfl) ?_ | refine g_yd rfl rfl (yd_slice_nil hT rfl rfl rfl rfl) ?_ | refine g_yd rfl rfl (yd_build_arr hT rfl rfl rfl rfl rfl rfl) ?_ | (refine g_mv rfl ?_; first | (refine mv_box rfl rfl rfl rfl ?_; intro _) | (refine mv_alloc rfl hT rfl rfl ?_; intro _) | refine mv_store hT rfl rfl rfl rfl rfl rfl sO rfl ?_ | (refine mv_buildSlice rfl hT rfl rfl rfl rfl rfl rfl rfl rfl ?_; intro _)) | refine g_yd rfl rfl (Ys.yd (ys_str_eql hT rfl rfl rfl rfl)) ?_ | refine g_yd rfl rfl (Ys.yd (ys_str_neq hT rfl rfl rfl rfl)) ?_) | (refine g_mv rfl ?_; first | refine mv_call_bel (fun w hk => calls_bT (tB_false hr) (rises_any A n c L 14 w hn hn9 (hk.pR (sl A 4 EE L) mE))) rfl rfl rfl rfl rfl (by kernel_rfl) ?_) | ((first | refine g_split rfl rfl tE (fun _ => ?_) (fun _ => ?_) | refine gk_cond rfl rfl tE (fun _ => ?_) (fun _ => ?_)) <;> (try first | (exfalso; omega; done) | (rename_i hx; exact absurd rfl hx) | (rename_i hx; cases hx; done)))))
    all_goals (refine gk_ret hT rfl rfl (.tmp rfl .nil) (fun w' hk => ?_); exact ⟨rfl, hk.toBelow⟩)
end Go.Proofs.Ytdjhocgfdbnkmaa.Nd
