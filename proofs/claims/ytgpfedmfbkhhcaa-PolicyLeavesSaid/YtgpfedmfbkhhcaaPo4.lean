/- The points that stay. -/
import Derived.Test.YtgpfedmfbkhhcaaPo3
import Derived.Test.YtgpfedmfbkhhcaaOv
import Derived.Test.YtgpfedmfbkhhcaaCtI
namespace Go.Proofs.Ytgpfedmfbkhhcaa.Po
open Go.RowKit Mem Gx Ct Dd Hp
set_option linter.unusedVariables false
set_option linter.unusedSimpArgs false
set_option maxRecDepth 100000
set_option maxHeartbeats 4000000
def subS (a b : Int) : Int := if a < b then 0 else a - b
def downS (n b : Int) : Int := if b = 0 then 0 else n - n % b
theorem osub_any (a b : Int) (w : World) (h0 : 0 ≤ a) (h1 : a ≤ 18446744073709551615) (h2 : 0 ≤ b) (h3 : b ≤ 18446744073709551615) :
    Calls Try.prog 44 [.int .u64 a, .int .u64 b].toArray w fun e w' => e = .returned (.int .u64 (subS a b)) ∧ Below w.heap.size w w' := by
  unfold subS
  split
  · exact Ov.sub_no a b w h0 h3 (by omega)
  · exact Ov.sub_ok a b w h0 h1 h2 (by omega)
theorem odown_any (n b : Int) (w : World) (h0 : 0 ≤ n) (h1 : n ≤ 18446744073709551615) (h2 : 0 ≤ b) :
    Calls Try.prog 43 [.int .u64 n, .int .u64 b].toArray w fun e w' => e = .returned (.int .u64 (downS n b)) ∧ Below w.heap.size w w' := by
  unfold downS
  split
  · rename_i h
    subst h
    exact Ov.down_0 n w
  · exact Ov.down_any n b w h0 h1 (by omega)
theorem ok_drop {A : Option Addr} {n c : Nat} {L : List Int} (h : (SlV.mk A n c).Ok L.length) (i : Nat) (hi : i ≤ L.length) : (SlV.mk (shA A i c 1) (L.length - i) (c - i)).Ok (L.drop i).length := by
  have h1 : n = L.length := h.n
  have h2 : n ≤ c := h.c
  have h3 : c ≤ maxLen := h.mx
  refine ⟨by rw [List.length_drop], by show L.length - i ≤ c - i; omega, by show c - i ≤ maxLen; omega, fun h4 => ?_⟩
  have h4 : shA A i c 1 = none := h4
  unfold shA at h4
  cases A with
  | none => have := h.nil rfl; dsimp only at this; show c - i = 0; omega
  | some a =>
    by_cases e : i = c
    · show c - i = 0; omega
    · exfalso
      rw [if_neg (fun h => e h.symm)] at h4
      cases h4
theorem g_shareN {X : Cx} {f : Fr} {O R : List Fact} {k : List KI} {ops lo : List Oper} {φ : Fact} {O' : List Fact} (hE : X.E = []) (hs : Sel φ O O') (hg : (∀ b, φ.S b → X.w0.heap.size ≤ b) → G X ops lo k f O' (φ :: R)) : G X ops lo k f O R := .mk fun a w hr hk => (hg fun b hb => (hk.ownS φ (hs.perm.mem_iff.2 (.head _)) b hb).resolve_right (by rw [hE]; simp)).out a w hr (hk.share hs)
theorem drop_S {A : Option Addr} {L : List Int} {i c b : Nat} (h : (sl (shA A i c 1) 1 (IE .u64) (L.drop i)).S b) : (sl A 1 (IE .u64) L).S b := by
  obtain ⟨h1, a, ha, hb⟩ := h
  obtain ⟨y, hy, e⟩ := shA_block ha
  rw [List.length_drop] at h1
  exact ⟨by omega, y, hy, by rw [e]; exact hb⟩
theorem moreK_no {low fl ev : Int} (h0 : 0 ≤ fl) (h : ¬ (0 < ev ∧ fl < low)) : moreK low fl ev = [] := by
  unfold moreK
  split
  · rename_i hp
    have h1 : (low - 1) % ev = (low - 1) - ev * ((low - 1) / ev) := by have := Int.emod_add_mul_ediv (low - 1) ev; omega
    have h2 : 0 ≤ (low - 1) % ev := Int.emod_nonneg _ (by omega)
    exact more_low (by omega) _
  · rfl
/-- Within the loop: what there is, what comes. -/
structure KpI (low fl ev nn : Int) (M : List Int) : Prop where
  n0 : 0 ≤ nn
  n9 : nn ≤ 18446744073709551615
  len : M.length ≤ 32
  eq : M ++ (if 0 < ev ∧ 0 < low then moreD fl ev (32 - M.length) nn else []) = moreK low fl ev
theorem KpI.start {low fl ev : Int} (h0 : 0 ≤ low) (h9 : low ≤ 18446744073709551615) (he : 0 ≤ ev) : KpI low fl ev (downS (subS low 1) ev) [] := by
  have hs : 0 ≤ subS low 1 ∧ subS low 1 ≤ 18446744073709551615 := by unfold subS; split <;> omega
  have hd : 0 ≤ downS (subS low 1) ev ∧ downS (subS low 1) ev ≤ 18446744073709551615 := by
    unfold downS
    split
    · omega
    · have := Ov.mod_le (subS low 1) ev hs.1 (by omega)
      omega
  refine ⟨hd.1, hd.2, by decide, ?_⟩
  unfold moreK
  rw [List.nil_append]
  split
  · rename_i hp
    have : downS (subS low 1) ev = low - 1 - (low - 1) % ev := by
      unfold downS subS
      rw [if_neg (by omega), if_neg (by omega)]
    rw [this]
    rfl
  · rfl
theorem KpI.full {low fl ev nn : Int} {M : List Int} (h : KpI low fl ev nn M) (hs : ¬ (0 < ev ∧ 0 < low) ∨ nn < fl ∨ M.length = 32) : M = moreK low fl ev := by
  rw [← h.eq]
  rcases hs with hs | hs | hs
  · rw [if_neg hs, List.append_nil]
  · split
    · rw [more_low hs, List.append_nil]
    · rw [List.append_nil]
  · rw [hs]
    split <;> simp [moreD]
theorem KpI.last {low fl ev nn : Int} {M : List Int} (h : KpI low fl ev nn M) (hp : 0 < ev ∧ 0 < low) (h1 : ¬ nn < fl) (h2 : M.length < 32) (h3 : nn < ev) : M ++ [nn] = moreK low fl ev := by
  rw [← h.eq, if_pos hp, show 32 - M.length = (31 - M.length) + 1 by omega, more_end h1 h3]
theorem KpI.step {low fl ev nn : Int} {M : List Int} (h : KpI low fl ev nn M) (hp : 0 < ev ∧ 0 < low) (h1 : ¬ nn < fl) (h2 : M.length < 32) (h3 : ¬ nn < ev) : KpI low fl ev (nn - ev) (M ++ [nn]) := by
  have hn := h.n0
  have hn9 := h.n9
  refine ⟨by omega, by omega, by simp; omega, ?_⟩
  rw [← h.eq, if_pos hp, if_pos hp, show 32 - M.length = (31 - M.length) + 1 by omega, more_go h1 h3, List.append_assoc, List.length_append, List.length_singleton, show 32 - (M.length + 1) = 31 - M.length by omega]
  rfl
theorem pkept_any (c : CatD) (low ev : Int) (w : World) (hc : c.Ok) (h9 : c.K.length ≤ 1000) (hl0 : 0 ≤ low) (hl9 : low ≤ 18446744073709551615) (he0 : 0 ≤ ev) (h : Rd1 w (catF c)) :
    Calls Try.prog 22 [c.val, .int .u64 low, .int .u64 ev].toArray w (RetS (fun q : SlV => q.Ok (keptP c.K low c.fl ev).length) (fun q => q.v) (fun q => [sl q.A 1 (IE .u64) (keptP c.K low c.fl ev)]) [] w) := by
  obtain ⟨nv, ng, nb, fl, ⟨vA, vm, vc⟩, V, ⟨gA, gm, gc⟩, G, ⟨bA, bm, bc⟩, B, ⟨kA, km, kd⟩, K, ⟨tA, tm, tc⟩, M⟩ := c
  have hkn : km = K.length := hc.k.n
  have hml := moreK_len low fl ev
  dsimp only at h9
  dsimp only [CatD.val]
  refine g_enter0 T [] [] [catF (⟨nv, ng, nb, fl, ⟨vA, vm, vc⟩, V, ⟨gA, gm, gc⟩, G, ⟨bA, bm, bc⟩, B, ⟨kA, km, kd⟩, K, ⟨tA, tm, tc⟩, M⟩ : CatD)] Try.func22 rfl Try.ntmps22 rfl (Rds.cons h .nil).kn ?_
  refine gk_der [catF (⟨nv, ng, nb, fl, ⟨vA, vm, vc⟩, V, ⟨gA, gm, gc⟩, G, ⟨bA, bm, bc⟩, B, ⟨kA, km, kd⟩, K, ⟨tA, tm, tc⟩, M⟩ : CatD)] (φ := sl kA 1 (IE .u64) K) d_k sS ?_
  (repeat (refine gG ?_; try intro _))
  rename_i g3
  refine g_mv rfl ?_; refine mv_call_bel (fun w hk => osub_any low 1 w hl0 hl9 (by decide) (by decide)) rfl rfl rfl rfl rfl (by kernel_rfl) ?_
  (repeat (refine gG ?_; try intro _))
  have hs0 : 0 ≤ subS low 1 ∧ subS low 1 ≤ 18446744073709551615 := by unfold subS; split <;> omega
  refine g_mv rfl ?_; refine mv_call_bel (fun w hk => odown_any (subS low 1) ev w hs0.1 hs0.2 he0) rfl rfl rfl rfl rfl (by kernel_rfl) ?_
  (repeat (refine gG ?_; try intro _))
  refine gk_own 0 31 1 (IE .u64) ?_
  refine gk_loop_sel (fun (q : Int × (Option Addr) × Nat × (List Int)) => match q with | (nn, rA, rc, M) => (KpI low fl ev nn M)) (fun (q : Int × (Option Addr) × Nat × (List Int)) => match q with | (nn, rA, rc, M) => [(1, .int .u64 low), (2, .int .u64 ev), (3, .pointer (some ⟨g3, 0, none⟩)), (7, .slice rA M.length rc), (8, .int .u64 nn)]) (fun (q : Int × (Option Addr) × Nat × (List Int)) => match q with | (nn, rA, rc, M) => [own 0 31 1 (.slice rA M.length rc) (IE .u64) M, blk g3 [.int .i64 nv, .int .i64 ng, .int .i64 nb, .int .u64 fl, .slice vA vm vc, .slice gA gm gc, .slice bA bm bc, .slice kA km kd, .slice tA tm tc] 67]) (fun (q : Int × (Option Addr) × Nat × (List Int)) => match q with | (nn, rA, rc, M) => [sl kA 1 (IE .u64) K]) (fun (q : Int × (Option Addr) × Nat × (List Int)) => match q with | (nn, rA, rc, M) => 33 - M.length) (downS (subS low 1) ev, none, 0, []) rfl (KpI.start hl0 hl9 he0) (by repeat (first | exact trivial | refine ⟨rfl, ?_⟩)) sA sS ?_
  rintro ⟨nn, rA, rc, M⟩ hI
  replace hI : (KpI low fl ev nn M) := hI
  change GK _ _ [(1, .int .u64 low), (2, .int .u64 ev), (3, .pointer (some ⟨g3, 0, none⟩)), (7, .slice rA M.length rc), (8, .int .u64 nn)] [own 0 31 1 (.slice rA M.length rc) (IE .u64) M, blk g3 [.int .i64 nv, .int .i64 ng, .int .i64 nb, .int .u64 fl, .slice vA vm vc, .slice gA gm gc, .slice bA bm bc, .slice kA km kd, .slice tA tm tc] 67] [sl kA 1 (IE .u64) K]
  have hM := hI.len
  have hn0 := hI.n0
  have hn9 := hI.n9
  by_cases hp : 0 < ev ∧ 0 < low
  · by_cases h1 : nn < fl
    · obtain rfl := hI.full (.inr (.inl h1))
      (repeat' (first | (refine gG ?_; try intro _) | ((first | refine g_split rfl rfl tE (fun _ => ?_) (fun _ => ?_) | refine gk_cond rfl rfl tE (fun _ => ?_) (fun _ => ?_)) <;> (try first | (exfalso; omega; done) | (rename_i hx; exact absurd rfl hx) | (rename_i hx; cases hx; done)))))
      refine g_mv rfl (mv_call_mod (φ := own 0 31 1 (.slice rA (moreK low fl ev).length rc) (IE .u64) (moreK low fl ev)) (ψ := fun _ : Unit => own 0 31 1 (.slice rA (moreK low fl ev).length rc) (IE .u64) (moreK low fl ev).reverse) (fun w1 hk => by exact rev_own (.slice rA (moreK low fl ev).length rc) (moreK low fl ev) w1 (by omega) (hk.rO (φ := own 0 31 1 (.slice rA (moreK low fl ev).length rc) (IE .u64) (moreK low fl ev)) mE)) rfl rfl rfl rfl rfl (by kernel_rfl) (by intro _; first | ((repeat (first | with_reducible exact Upd.here _ | with_reducible apply Upd.there)); done) | ((repeat (first | exact Upd.here _ | apply Upd.there)); done) | fail) (fun _ _ => ?_))
      refine g_freeze (.slice rA (moreK low fl ev).length rc) (by intro _; first | ((repeat (first | with_reducible exact Upd.here _ | with_reducible apply Upd.there)); done) | ((repeat (first | exact Upd.here _ | apply Upd.there)); done) | fail) (fun A4 c4 hv hA41 hA42 hA43 => ?_)
      injection hv with e1 e2 e3
      subst e1
      subst e3
      (repeat (refine gG ?_; try intro _))
      refine g_mv rfl ?_; refine mv_call_rt (fun w hk => cloneU_own kA km kd K w hkn (by omega) (hk.pR (sl kA 1 (IE .u64) K) mE)) rfl rfl rfl rfl rfl (by kernel_rfl) (fun _ => rfl) (fun v2 _ => ?_)
      (repeat (refine gG ?_; try intro _))
      refine g_mv rfl (mv_append (L := K) rfl (moreK low fl ev).reverse rfl rfl rfl rfl elt_U (by intro _; first | ((repeat (first | with_reducible exact Upd.here _ | with_reducible apply Upd.there)); done) | ((repeat (first | exact Upd.here _ | apply Upd.there)); done) | fail) (src_O mE) (List.length_reverse).symm oneU (by simp only [maxLen, List.length_append, List.length_reverse]; omega) (by simp only [List.length_append, List.length_reverse]; omega) (Nat.zero_le _) (fun v3 => ?_))
      refine g_freeze _ (by intro _; first | ((repeat (first | with_reducible exact Upd.here _ | with_reducible apply Upd.there)); done) | ((repeat (first | exact Upd.here _ | apply Upd.there)); done) | fail) (fun A5 c5 hA5 hA51 hA52 hA53 => ?_); subst hA5
      have hl5 : (K ++ (moreK low fl ev).reverse).length = K.length + (moreK low fl ev).length := by rw [List.length_append, List.length_reverse]
      refine g_shareN rfl (φ := sl A5 1 (IE .u64) (K ++ (moreK low fl ev).reverse)) (by repeat (first | with_reducible exact Sel.here | with_reducible apply Sel.there)) (fun hnew => ?_)
      (repeat (refine gG ?_; try intro _))
      refine g_yd rfl rfl (Ys.yd (ys_max (x := ((K ++ (moreK low fl ev).reverse).length : Int) - 32) (y := 0) ((K.length + (moreK low fl ev).length - 32 : Nat) : Int) rfl rfl rfl (by split <;> omega))) ?_
      refine g_dropS (enc := IE .u64) (L := K ++ (moreK low fl ev).reverse) (A := A5) (sz := 1) (K.length + (moreK low fl ev).length - 32) c5 mE (by omega) ?_
      refine g_yd rfl rfl (Ys.yd (ys_slice_l hT (K.length + (moreK low fl ev).length - 32) rfl rfl rfl rfl rfl (by omega))) ?_
      (repeat (refine gG ?_; try intro _))
      refine gk_ret hT rfl rfl (.tmp rfl .nil) (fun w' hk => ?_)
      exact RetS.mk (⟨shA A5 (K.length + (moreK low fl ev).length - 32) c5 1, (K ++ (moreK low fl ev).reverse).length - (K.length + (moreK low fl ev).length - 32), c5 - (K.length + (moreK low fl ev).length - 32)⟩ : SlV) (ok_drop ⟨rfl, hA51, hA52, hA53⟩ _ (by omega)) rfl hk (.cons (RS1.rd hk mE (fun b hb => .inl (hnew b (drop_S hb)))) .nil)
    · by_cases h2 : M.length < 32
      · by_cases h3 : nn < ev
        · have e := hI.last hp h1 h2 h3
          (repeat' (first | (refine gG ?_; try intro _) | ((first | refine g_split rfl rfl tE (fun _ => ?_) (fun _ => ?_) | refine gk_cond rfl rfl tE (fun _ => ?_) (fun _ => ?_)) <;> (try first | (exfalso; omega; done) | (rename_i hx; exact absurd rfl hx) | (rename_i hx; cases hx; done)))))
          refine g_mv rfl (mv_append (L := M) rfl [nn] rfl rfl rfl rfl elt_U (by intro _; first | ((repeat (first | with_reducible exact Upd.here _ | with_reducible apply Upd.there)); done) | ((repeat (first | exact Upd.here _ | apply Upd.there)); done) | fail) (src_blk mE rfl) rfl oneU (by simp only [maxLen, List.length_append, List.length_cons, List.length_nil]; omega) (by simp only [List.length_append, List.length_cons, List.length_nil]; omega) (Nat.zero_le _) (fun v2 => ?_))
          refine g_ownv v2 mE (fun A2 c2 hv2 _ _ _ => ?_)
          subst hv2
          rw [e]
          (repeat' (first | (refine gG ?_; try intro _) | ((first | refine g_split rfl rfl tE (fun _ => ?_) (fun _ => ?_) | refine gk_cond rfl rfl tE (fun _ => ?_) (fun _ => ?_)) <;> (try first | (exfalso; omega; done) | (rename_i hx; exact absurd rfl hx) | (rename_i hx; cases hx; done)))))
          obtain ⟨rA, erA⟩ : ∃ rA, rA = A2 := ⟨_, rfl⟩
          obtain ⟨rc, erc⟩ : ∃ rc, rc = c2 := ⟨_, rfl⟩
          rw [← erA, ← erc]
          refine g_mv rfl (mv_call_mod (φ := own 0 31 1 (.slice rA (moreK low fl ev).length rc) (IE .u64) (moreK low fl ev)) (ψ := fun _ : Unit => own 0 31 1 (.slice rA (moreK low fl ev).length rc) (IE .u64) (moreK low fl ev).reverse) (fun w1 hk => by exact rev_own (.slice rA (moreK low fl ev).length rc) (moreK low fl ev) w1 (by omega) (hk.rO (φ := own 0 31 1 (.slice rA (moreK low fl ev).length rc) (IE .u64) (moreK low fl ev)) mE)) rfl rfl rfl rfl rfl (by kernel_rfl) (by intro _; first | ((repeat (first | with_reducible exact Upd.here _ | with_reducible apply Upd.there)); done) | ((repeat (first | exact Upd.here _ | apply Upd.there)); done) | fail) (fun _ _ => ?_))
          refine g_freeze (.slice rA (moreK low fl ev).length rc) (by intro _; first | ((repeat (first | with_reducible exact Upd.here _ | with_reducible apply Upd.there)); done) | ((repeat (first | exact Upd.here _ | apply Upd.there)); done) | fail) (fun A4 c4 hv hA41 hA42 hA43 => ?_)
          injection hv with e1 e2 e3
          subst e1
          subst e3
          (repeat (refine gG ?_; try intro _))
          refine g_mv rfl ?_; refine mv_call_rt (fun w hk => cloneU_own kA km kd K w hkn (by omega) (hk.pR (sl kA 1 (IE .u64) K) mE)) rfl rfl rfl rfl rfl (by kernel_rfl) (fun _ => rfl) (fun v2 _ => ?_)
          (repeat (refine gG ?_; try intro _))
          refine g_mv rfl (mv_append (L := K) rfl (moreK low fl ev).reverse rfl rfl rfl rfl elt_U (by intro _; first | ((repeat (first | with_reducible exact Upd.here _ | with_reducible apply Upd.there)); done) | ((repeat (first | exact Upd.here _ | apply Upd.there)); done) | fail) (src_O mE) (List.length_reverse).symm oneU (by simp only [maxLen, List.length_append, List.length_reverse]; omega) (by simp only [List.length_append, List.length_reverse]; omega) (Nat.zero_le _) (fun v3 => ?_))
          refine g_freeze _ (by intro _; first | ((repeat (first | with_reducible exact Upd.here _ | with_reducible apply Upd.there)); done) | ((repeat (first | exact Upd.here _ | apply Upd.there)); done) | fail) (fun A5 c5 hA5 hA51 hA52 hA53 => ?_); subst hA5
          have hl5 : (K ++ (moreK low fl ev).reverse).length = K.length + (moreK low fl ev).length := by rw [List.length_append, List.length_reverse]
          refine g_shareN rfl (φ := sl A5 1 (IE .u64) (K ++ (moreK low fl ev).reverse)) (by repeat (first | with_reducible exact Sel.here | with_reducible apply Sel.there)) (fun hnew => ?_)
          (repeat (refine gG ?_; try intro _))
          refine g_yd rfl rfl (Ys.yd (ys_max (x := ((K ++ (moreK low fl ev).reverse).length : Int) - 32) (y := 0) ((K.length + (moreK low fl ev).length - 32 : Nat) : Int) rfl rfl rfl (by split <;> omega))) ?_
          refine g_dropS (enc := IE .u64) (L := K ++ (moreK low fl ev).reverse) (A := A5) (sz := 1) (K.length + (moreK low fl ev).length - 32) c5 mE (by omega) ?_
          refine g_yd rfl rfl (Ys.yd (ys_slice_l hT (K.length + (moreK low fl ev).length - 32) rfl rfl rfl rfl rfl (by omega))) ?_
          (repeat (refine gG ?_; try intro _))
          refine gk_ret hT rfl rfl (.tmp rfl .nil) (fun w' hk => ?_)
          exact RetS.mk (⟨shA A5 (K.length + (moreK low fl ev).length - 32) c5 1, (K ++ (moreK low fl ev).reverse).length - (K.length + (moreK low fl ev).length - 32), c5 - (K.length + (moreK low fl ev).length - 32)⟩ : SlV) (ok_drop ⟨rfl, hA51, hA52, hA53⟩ _ (by omega)) rfl hk (.cons (RS1.rd hk mE (fun b hb => .inl (hnew b (drop_S hb)))) .nil)
        · have hst := hI.step hp h1 h2 h3
          (repeat' (first | (refine gG ?_; try intro _) | ((first | refine g_split rfl rfl tE (fun _ => ?_) (fun _ => ?_) | refine gk_cond rfl rfl tE (fun _ => ?_) (fun _ => ?_)) <;> (try first | (exfalso; omega; done) | (rename_i hx; exact absurd rfl hx) | (rename_i hx; cases hx; done)))))
          refine g_mv rfl (mv_append (L := M) rfl [nn] rfl rfl rfl rfl elt_U (by intro _; first | ((repeat (first | with_reducible exact Upd.here _ | with_reducible apply Upd.there)); done) | ((repeat (first | exact Upd.here _ | apply Upd.there)); done) | fail) (src_blk mE rfl) rfl oneU (by simp only [maxLen, List.length_append, List.length_cons, List.length_nil]; omega) (by simp only [List.length_append, List.length_cons, List.length_nil]; omega) (Nat.zero_le _) (fun v2 => ?_))
          refine g_ownv v2 mE (fun A2 c2 hv2 _ _ _ => ?_)
          subst hv2
          (repeat' (first | (refine gG ?_; try intro _) | ((first | refine g_split rfl rfl tE (fun _ => ?_) (fun _ => ?_) | refine gk_cond rfl rfl tE (fun _ => ?_) (fun _ => ?_)) <;> (try first | (exfalso; omega; done) | (rename_i hx; exact absurd rfl hx) | (rename_i hx; cases hx; done)))))
          refine gk_say 8 (.int .u64 (nn - ev)) rfl (by first | rfl | (congr 1; show (nn - ev) % 18446744073709551616 = _; omega)) ?_
          refine gk_again_sel rfl (nn - ev, A2, c2, M ++ [nn]) hst (by dsimp only; simp only [List.length_append, List.length_singleton]; omega) (by repeat (first | exact trivial | refine ⟨rfl, ?_⟩)) sA sS
      · obtain rfl := hI.full (.inr (.inr (by omega)))
        (repeat' (first | (refine gG ?_; try intro _) | ((first | refine g_split rfl rfl tE (fun _ => ?_) (fun _ => ?_) | refine gk_cond rfl rfl tE (fun _ => ?_) (fun _ => ?_)) <;> (try first | (exfalso; omega; done) | (rename_i hx; exact absurd rfl hx) | (rename_i hx; cases hx; done)))))
        refine g_mv rfl (mv_call_mod (φ := own 0 31 1 (.slice rA (moreK low fl ev).length rc) (IE .u64) (moreK low fl ev)) (ψ := fun _ : Unit => own 0 31 1 (.slice rA (moreK low fl ev).length rc) (IE .u64) (moreK low fl ev).reverse) (fun w1 hk => by exact rev_own (.slice rA (moreK low fl ev).length rc) (moreK low fl ev) w1 (by omega) (hk.rO (φ := own 0 31 1 (.slice rA (moreK low fl ev).length rc) (IE .u64) (moreK low fl ev)) mE)) rfl rfl rfl rfl rfl (by kernel_rfl) (by intro _; first | ((repeat (first | with_reducible exact Upd.here _ | with_reducible apply Upd.there)); done) | ((repeat (first | exact Upd.here _ | apply Upd.there)); done) | fail) (fun _ _ => ?_))
        refine g_freeze (.slice rA (moreK low fl ev).length rc) (by intro _; first | ((repeat (first | with_reducible exact Upd.here _ | with_reducible apply Upd.there)); done) | ((repeat (first | exact Upd.here _ | apply Upd.there)); done) | fail) (fun A4 c4 hv hA41 hA42 hA43 => ?_)
        injection hv with e1 e2 e3
        subst e1
        subst e3
        (repeat (refine gG ?_; try intro _))
        refine g_mv rfl ?_; refine mv_call_rt (fun w hk => cloneU_own kA km kd K w hkn (by omega) (hk.pR (sl kA 1 (IE .u64) K) mE)) rfl rfl rfl rfl rfl (by kernel_rfl) (fun _ => rfl) (fun v2 _ => ?_)
        (repeat (refine gG ?_; try intro _))
        refine g_mv rfl (mv_append (L := K) rfl (moreK low fl ev).reverse rfl rfl rfl rfl elt_U (by intro _; first | ((repeat (first | with_reducible exact Upd.here _ | with_reducible apply Upd.there)); done) | ((repeat (first | exact Upd.here _ | apply Upd.there)); done) | fail) (src_O mE) (List.length_reverse).symm oneU (by simp only [maxLen, List.length_append, List.length_reverse]; omega) (by simp only [List.length_append, List.length_reverse]; omega) (Nat.zero_le _) (fun v3 => ?_))
        refine g_freeze _ (by intro _; first | ((repeat (first | with_reducible exact Upd.here _ | with_reducible apply Upd.there)); done) | ((repeat (first | exact Upd.here _ | apply Upd.there)); done) | fail) (fun A5 c5 hA5 hA51 hA52 hA53 => ?_); subst hA5
        have hl5 : (K ++ (moreK low fl ev).reverse).length = K.length + (moreK low fl ev).length := by rw [List.length_append, List.length_reverse]
        refine g_shareN rfl (φ := sl A5 1 (IE .u64) (K ++ (moreK low fl ev).reverse)) (by repeat (first | with_reducible exact Sel.here | with_reducible apply Sel.there)) (fun hnew => ?_)
        (repeat (refine gG ?_; try intro _))
        refine g_yd rfl rfl (Ys.yd (ys_max (x := ((K ++ (moreK low fl ev).reverse).length : Int) - 32) (y := 0) ((K.length + (moreK low fl ev).length - 32 : Nat) : Int) rfl rfl rfl (by split <;> omega))) ?_
        refine g_dropS (enc := IE .u64) (L := K ++ (moreK low fl ev).reverse) (A := A5) (sz := 1) (K.length + (moreK low fl ev).length - 32) c5 mE (by omega) ?_
        refine g_yd rfl rfl (Ys.yd (ys_slice_l hT (K.length + (moreK low fl ev).length - 32) rfl rfl rfl rfl rfl (by omega))) ?_
        (repeat (refine gG ?_; try intro _))
        refine gk_ret hT rfl rfl (.tmp rfl .nil) (fun w' hk => ?_)
        exact RetS.mk (⟨shA A5 (K.length + (moreK low fl ev).length - 32) c5 1, (K ++ (moreK low fl ev).reverse).length - (K.length + (moreK low fl ev).length - 32), c5 - (K.length + (moreK low fl ev).length - 32)⟩ : SlV) (ok_drop ⟨rfl, hA51, hA52, hA53⟩ _ (by omega)) rfl hk (.cons (RS1.rd hk mE (fun b hb => .inl (hnew b (drop_S hb)))) .nil)
  · obtain rfl := hI.full (.inl hp)
    by_cases hev : 0 < ev
    · (repeat' (first | (refine gG ?_; try intro _) | ((first | refine g_split rfl rfl tE (fun _ => ?_) (fun _ => ?_) | refine gk_cond rfl rfl tE (fun _ => ?_) (fun _ => ?_)) <;> (try first | (exfalso; omega; done) | (rename_i hx; exact absurd rfl hx) | (rename_i hx; cases hx; done)))))
      refine g_mv rfl (mv_call_mod (φ := own 0 31 1 (.slice rA (moreK low fl ev).length rc) (IE .u64) (moreK low fl ev)) (ψ := fun _ : Unit => own 0 31 1 (.slice rA (moreK low fl ev).length rc) (IE .u64) (moreK low fl ev).reverse) (fun w1 hk => by exact rev_own (.slice rA (moreK low fl ev).length rc) (moreK low fl ev) w1 (by omega) (hk.rO (φ := own 0 31 1 (.slice rA (moreK low fl ev).length rc) (IE .u64) (moreK low fl ev)) mE)) rfl rfl rfl rfl rfl (by kernel_rfl) (by intro _; first | ((repeat (first | with_reducible exact Upd.here _ | with_reducible apply Upd.there)); done) | ((repeat (first | exact Upd.here _ | apply Upd.there)); done) | fail) (fun _ _ => ?_))
      refine g_freeze (.slice rA (moreK low fl ev).length rc) (by intro _; first | ((repeat (first | with_reducible exact Upd.here _ | with_reducible apply Upd.there)); done) | ((repeat (first | exact Upd.here _ | apply Upd.there)); done) | fail) (fun A4 c4 hv hA41 hA42 hA43 => ?_)
      injection hv with e1 e2 e3
      subst e1
      subst e3
      (repeat (refine gG ?_; try intro _))
      refine g_mv rfl ?_; refine mv_call_rt (fun w hk => cloneU_own kA km kd K w hkn (by omega) (hk.pR (sl kA 1 (IE .u64) K) mE)) rfl rfl rfl rfl rfl (by kernel_rfl) (fun _ => rfl) (fun v2 _ => ?_)
      (repeat (refine gG ?_; try intro _))
      refine g_mv rfl (mv_append (L := K) rfl (moreK low fl ev).reverse rfl rfl rfl rfl elt_U (by intro _; first | ((repeat (first | with_reducible exact Upd.here _ | with_reducible apply Upd.there)); done) | ((repeat (first | exact Upd.here _ | apply Upd.there)); done) | fail) (src_O mE) (List.length_reverse).symm oneU (by simp only [maxLen, List.length_append, List.length_reverse]; omega) (by simp only [List.length_append, List.length_reverse]; omega) (Nat.zero_le _) (fun v3 => ?_))
      refine g_freeze _ (by intro _; first | ((repeat (first | with_reducible exact Upd.here _ | with_reducible apply Upd.there)); done) | ((repeat (first | exact Upd.here _ | apply Upd.there)); done) | fail) (fun A5 c5 hA5 hA51 hA52 hA53 => ?_); subst hA5
      have hl5 : (K ++ (moreK low fl ev).reverse).length = K.length + (moreK low fl ev).length := by rw [List.length_append, List.length_reverse]
      refine g_shareN rfl (φ := sl A5 1 (IE .u64) (K ++ (moreK low fl ev).reverse)) (by repeat (first | with_reducible exact Sel.here | with_reducible apply Sel.there)) (fun hnew => ?_)
      (repeat (refine gG ?_; try intro _))
      refine g_yd rfl rfl (Ys.yd (ys_max (x := ((K ++ (moreK low fl ev).reverse).length : Int) - 32) (y := 0) ((K.length + (moreK low fl ev).length - 32 : Nat) : Int) rfl rfl rfl (by split <;> omega))) ?_
      refine g_dropS (enc := IE .u64) (L := K ++ (moreK low fl ev).reverse) (A := A5) (sz := 1) (K.length + (moreK low fl ev).length - 32) c5 mE (by omega) ?_
      refine g_yd rfl rfl (Ys.yd (ys_slice_l hT (K.length + (moreK low fl ev).length - 32) rfl rfl rfl rfl rfl (by omega))) ?_
      (repeat (refine gG ?_; try intro _))
      refine gk_ret hT rfl rfl (.tmp rfl .nil) (fun w' hk => ?_)
      exact RetS.mk (⟨shA A5 (K.length + (moreK low fl ev).length - 32) c5 1, (K ++ (moreK low fl ev).reverse).length - (K.length + (moreK low fl ev).length - 32), c5 - (K.length + (moreK low fl ev).length - 32)⟩ : SlV) (ok_drop ⟨rfl, hA51, hA52, hA53⟩ _ (by omega)) rfl hk (.cons (RS1.rd hk mE (fun b hb => .inl (hnew b (drop_S hb)))) .nil)
    · (repeat' (first | (refine gG ?_; try intro _) | ((first | refine g_split rfl rfl tE (fun _ => ?_) (fun _ => ?_) | refine gk_cond rfl rfl tE (fun _ => ?_) (fun _ => ?_)) <;> (try first | (exfalso; omega; done) | (rename_i hx; exact absurd rfl hx) | (rename_i hx; cases hx; done)))))
      refine g_mv rfl (mv_call_mod (φ := own 0 31 1 (.slice rA (moreK low fl ev).length rc) (IE .u64) (moreK low fl ev)) (ψ := fun _ : Unit => own 0 31 1 (.slice rA (moreK low fl ev).length rc) (IE .u64) (moreK low fl ev).reverse) (fun w1 hk => by exact rev_own (.slice rA (moreK low fl ev).length rc) (moreK low fl ev) w1 (by omega) (hk.rO (φ := own 0 31 1 (.slice rA (moreK low fl ev).length rc) (IE .u64) (moreK low fl ev)) mE)) rfl rfl rfl rfl rfl (by kernel_rfl) (by intro _; first | ((repeat (first | with_reducible exact Upd.here _ | with_reducible apply Upd.there)); done) | ((repeat (first | exact Upd.here _ | apply Upd.there)); done) | fail) (fun _ _ => ?_))
      refine g_freeze (.slice rA (moreK low fl ev).length rc) (by intro _; first | ((repeat (first | with_reducible exact Upd.here _ | with_reducible apply Upd.there)); done) | ((repeat (first | exact Upd.here _ | apply Upd.there)); done) | fail) (fun A4 c4 hv hA41 hA42 hA43 => ?_)
      injection hv with e1 e2 e3
      subst e1
      subst e3
      (repeat (refine gG ?_; try intro _))
      refine g_mv rfl ?_; refine mv_call_rt (fun w hk => cloneU_own kA km kd K w hkn (by omega) (hk.pR (sl kA 1 (IE .u64) K) mE)) rfl rfl rfl rfl rfl (by kernel_rfl) (fun _ => rfl) (fun v2 _ => ?_)
      (repeat (refine gG ?_; try intro _))
      refine g_mv rfl (mv_append (L := K) rfl (moreK low fl ev).reverse rfl rfl rfl rfl elt_U (by intro _; first | ((repeat (first | with_reducible exact Upd.here _ | with_reducible apply Upd.there)); done) | ((repeat (first | exact Upd.here _ | apply Upd.there)); done) | fail) (src_O mE) (List.length_reverse).symm oneU (by simp only [maxLen, List.length_append, List.length_reverse]; omega) (by simp only [List.length_append, List.length_reverse]; omega) (Nat.zero_le _) (fun v3 => ?_))
      refine g_freeze _ (by intro _; first | ((repeat (first | with_reducible exact Upd.here _ | with_reducible apply Upd.there)); done) | ((repeat (first | exact Upd.here _ | apply Upd.there)); done) | fail) (fun A5 c5 hA5 hA51 hA52 hA53 => ?_); subst hA5
      have hl5 : (K ++ (moreK low fl ev).reverse).length = K.length + (moreK low fl ev).length := by rw [List.length_append, List.length_reverse]
      refine g_shareN rfl (φ := sl A5 1 (IE .u64) (K ++ (moreK low fl ev).reverse)) (by repeat (first | with_reducible exact Sel.here | with_reducible apply Sel.there)) (fun hnew => ?_)
      (repeat (refine gG ?_; try intro _))
      refine g_yd rfl rfl (Ys.yd (ys_max (x := ((K ++ (moreK low fl ev).reverse).length : Int) - 32) (y := 0) ((K.length + (moreK low fl ev).length - 32 : Nat) : Int) rfl rfl rfl (by split <;> omega))) ?_
      refine g_dropS (enc := IE .u64) (L := K ++ (moreK low fl ev).reverse) (A := A5) (sz := 1) (K.length + (moreK low fl ev).length - 32) c5 mE (by omega) ?_
      refine g_yd rfl rfl (Ys.yd (ys_slice_l hT (K.length + (moreK low fl ev).length - 32) rfl rfl rfl rfl rfl (by omega))) ?_
      (repeat (refine gG ?_; try intro _))
      refine gk_ret hT rfl rfl (.tmp rfl .nil) (fun w' hk => ?_)
      exact RetS.mk (⟨shA A5 (K.length + (moreK low fl ev).length - 32) c5 1, (K ++ (moreK low fl ev).reverse).length - (K.length + (moreK low fl ev).length - 32), c5 - (K.length + (moreK low fl ev).length - 32)⟩ : SlV) (ok_drop ⟨rfl, hA51, hA52, hA53⟩ _ (by omega)) rfl hk (.cons (RS1.rd hk mE (fun b hb => .inl (hnew b (drop_S hb)))) .nil)
end Go.Proofs.Ytgpfedmfbkhhcaa.Po

