/- The queue of timers: Cancel, At, Len, PopS. -/
import Derived.Test.YtgpfedmfbkhhcaaDv6
namespace Go.Proofs.Ytgpfedmfbkhhcaa.Dv
open Go.RowKit Mem Gx Hp Du
set_option linter.unusedVariables false
set_option linter.unusedSimpArgs false
set_option maxRecDepth 100000
set_option maxHeartbeats 1000000
theorem qcancel_any (g : Nat) (ru nw : Value) (s : QuS) (S : List Tim) (p : Int × Int) (w : World) (hs : QuOk s.mo s.L S) (h : Rd1 w (quF g ru nw s)) :
    Calls Try.prog 36 [rowP g, .int .i64 p.1, .int .i64 p.2].toArray w (RetM (quF g ru nw s) (fun q : QuS × Bool => QuOk q.1.mo q.1.L (wo p S) ∧ q.2 = tB (p ∈ S.map Tim.key)) (fun q => .bool q.2) (fun q => quF g ru nw q.1) w) := by
  obtain ⟨mo, v, L⟩ := s
  replace hs : QuOk mo L S := hs
  have hEE : ∀ b, b ∈ (g :: ownE v) ++ mo.toList → (quF g ru nw ⟨mo, v, L⟩).S b := fun b hb => (qu_fin g ru nw _ b).2 hb
  have hmem : p ∈ L.map Tim.key ↔ p ∈ S.map Tim.key := (hs.l.map Tim.key).mem_iff
  have hS9 := hs.len
  have hLl : L.length = S.length := hs.l.length_eq
  cases mo with
  | none =>
    have hS0 := hs.nil rfl
    have hok : QuOk none L (wo p S) := by rw [hS0] at hs ⊢; exact hs
    have hfl : p ∉ S.map Tim.key := by rw [hS0]; simp
    refine g_enter0 T _ [blk g [ru, v, .map none, nw] 33, own 0 87 3 v TE L] [] Try.func36 rfl Try.ntmps36 rfl (Kn.startP (l := [blk g [ru, v, .map none, nw] 33, own 0 87 3 v TE L]) h (fun b hb => (qu_fin g ru nw ⟨none, v, L⟩ b).1 hb) (fun _ h => by cases h)) ?_
    (repeat (refine gG ?_; try intro _))
    refine g_yd rfl rfl (Ys.yd (ys_lookupG_nil p rfl rfl rfl rfl Try.underlying26 kok_name z_int)) ?_
    refine g_say 18 (.tuple #[.int .i64 0, .bool false]) rfl rfl ?_
    (repeat' (first | (refine gG ?_; try intro _) | ((first | refine g_split rfl rfl tE (fun _ => ?_) (fun _ => ?_) | refine gk_cond rfl rfl tE (fun _ => ?_) (fun _ => ?_)) <;> (try first | (exfalso; omega; done) | (rename_i hx; exact absurd rfl hx) | (rename_i hx; cases hx; done)))))
    refine gk_ret hT rfl rfl (.tmp rfl .nil) (fun w' hk => ?_)
    exact RetM.mkP (ll := fun q : QuS × Bool => quL g ru nw q.1) (⟨none, v, L⟩, false) ⟨hok, (tB_false hfl).symm⟩ rfl hk hEE (sA : SelAll [blk g [ru, v, .map none, nw] 33, own 0 87 3 v TE L] _)
  | some r =>
    have hKL : Keys L := hs.keys.perm hs.l
    refine g_enter0 T _ (duL g r ru nw v L) [] Try.func36 rfl Try.ntmps36 rfl (Kn.startP (l := duL g r ru nw v L) h (fun b hb => (qu_fin g ru nw ⟨some r, v, L⟩ b).1 hb) (fun _ h => by cases h)) ?_
    refine gk_mpxE (L := L) (by repeat (first | with_reducible exact Sel.here | with_reducible apply Sel.there)) (fun M hM => ?_)
    (repeat (refine gG ?_; try intro _))
    refine g_yd rfl rfl ((ys_lookupG (S := [mpk r (pairV .i64) M]) p rfl rfl rfl rfl Try.underlying26 kok_name z_int mE).ydS sF) ?_
    cases hi : idx L p with
    | none =>
      have hmg : mg p M = none := by rw [hM.get]; unfold posT; rw [hi]; rfl
      have hfl : p ∉ S.map Tim.key := fun hx => idx_none.1 hi (hmem.2 hx)
      have hok : QuOk (some r) L (wo p S) := by rw [wo_no hfl]; exact hs
      refine g_say 18 (.tuple #[.int .i64 0, .bool false]) rfl (lkv_none hmg) ?_
      (repeat' (first | (refine gG ?_; try intro _) | ((first | refine g_split rfl rfl tE (fun _ => ?_) (fun _ => ?_) | refine gk_cond rfl rfl tE (fun _ => ?_) (fun _ => ?_)) <;> (try first | (exfalso; omega; done) | (rename_i hx; exact absurd rfl hx) | (rename_i hx; cases hx; done)))))
      refine gk_mpxI hM (by repeat (first | with_reducible exact Sel.here | with_reducible apply Sel.there)) ?_
      refine gk_ret hT rfl rfl (.tmp rfl .nil) (fun w' hk => ?_)
      exact RetM.mkP (ll := fun q : QuS × Bool => quL g ru nw q.1) (⟨some r, v, L⟩, false) ⟨hok, (tB_false hfl).symm⟩ rfl hk hEE (sA : SelAll (duL g r ru nw v L) _)
    | some i =>
      obtain ⟨y, hy, hyk⟩ := idx_get hi
      have hil := (List.getElem?_eq_some_iff.1 hy).1
      have hmg : mg p M = some (.int .i64 (i : Int)) := by rw [← hyk]; exact map_at hKL hM hy
      have htr : p ∈ S.map Tim.key := hmem.1 (by rw [← hyk]; exact List.mem_map.2 ⟨y, List.mem_of_getElem? hy, rfl⟩)
      refine g_say 18 (.tuple #[.int .i64 (i : Int), .bool true]) rfl (lkv_some hmg) ?_
      (repeat' (first | (refine gG ?_; try intro _) | ((first | refine g_split rfl rfl tE (fun _ => ?_) (fun _ => ?_) | refine gk_cond rfl rfl tE (fun _ => ?_) (fun _ => ?_)) <;> (try first | (exfalso; omega; done) | (rename_i hx; exact absurd rfl hx) | (rename_i hx; cases hx; done)))))
      refine g_yd rfl rfl (Ys.yd (ys_makeIface rfl rfl (by kernel_rfl))) ?_
      (repeat' (first | (refine gG ?_; try intro _) | ((first | refine g_split rfl rfl tE (fun _ => ?_) (fun _ => ?_) | refine gk_cond rfl rfl tE (fun _ => ?_) (fun _ => ?_)) <;> (try first | (exfalso; omega; done) | (rename_i hx; exact absurd rfl hx) | (rename_i hx; cases hx; done)))))
      refine g_exI (S := fun b => b = r) (I := fun M => MapIs M (posT L)) (ψ := fun M => mpk r (pairV .i64) M) (hS := fun _ _ => rfl) M hM (by repeat (first | with_reducible exact Sel.here | with_reducible apply Sel.there)) ?_
      refine g_pack (duL g r ru nw v L) [] (sA : SelAll [blk g [ru, v, .map (some r), nw] 33, own 0 87 3 v TE L, exF (fun b => b = r) (fun M => MapIs M (posT L)) (fun M => mpk r (pairV .i64) M) (fun _ _ => rfl)] _) ?_
      refine g_mv rfl (mv_call_mod (φ := duF g r ru nw v L) (ψ := fun q : Value × List Tim × Tim => duF g r ru nw q.1 q.2.1) (fun w hk => hremove_any (duHO g r ru nw) v L i w (hk.rO (φ := duF g r ru nw v L) mE) hKL (by omega) hil hs.heap) rfl rfl rfl rfl rfl (by kernel_rfl) (by intro _; first | ((repeat (first | with_reducible exact Upd.here _ | with_reducible apply Upd.there)); done) | ((repeat (first | exact Upd.here _ | apply Upd.there)); done) | fail) (fun q hI => ?_))
      obtain ⟨v1, L1, z⟩ := q
      obtain ⟨hz, hp, hh⟩ := hI
      replace hz : L[i]? = some z := hz
      obtain rfl : y = z := by rw [hy] at hz; exact Option.some.inj hz
      (repeat' (first | (refine gG ?_; try intro _) | ((first | refine g_split rfl rfl tE (fun _ => ?_) (fun _ => ?_) | refine gk_cond rfl rfl tE (fun _ => ?_) (fun _ => ?_)) <;> (try first | (exfalso; omega; done) | (rename_i hx; exact absurd rfl hx) | (rename_i hx; cases hx; done)))))
      refine gk_ret hT rfl rfl (.tmp rfl .nil) (fun w' hk => ?_)
      refine RetM.mk (ψ := fun q : QuS × Bool => quF g ru nw q.1) (⟨some r, v1, L1⟩, true) ⟨?_, (tB_true htr).symm⟩ rfl hk hEE (mE : duF g r ru nw v1 L1 ∈ _)
      rw [← hyk]
      exact hs.drop (by simp) hp hh
theorem qat_any (g : Nat) (ru nw : Value) (s : QuS) (S : List Tim) (p : Int × Int) (w : World) (hs : QuOk s.mo s.L S) (h : Rd1 w (quF g ru nw s)) :
    Calls Try.prog 40 [rowP g, .int .i64 p.1, .int .i64 p.2].toArray w fun e w' => e = .returned (.tuple #[.int .u64 (atP p S).1, .bool (atP p S).2]) ∧ Below w.heap.size w w' := by
  obtain ⟨mo, v, L⟩ := s
  replace hs : QuOk mo L S := hs
  have hLl : L.length = S.length := hs.l.length_eq
  cases mo with
  | none =>
    have hS0 := hs.nil rfl
    have hat : atP p S = (0, false) := by rw [hS0]; rfl
    rw [hat]
    have hb : Rd1 w (blk g [ru, v, .map none, nw] 33) := Rd1.unpack (l := [blk g [ru, v, .map none, nw] 33, own 0 87 3 v TE L]) h (.head _)
    refine g_enter0 T [] [] [row g 1 [v, .map none, nw]] Try.func40 rfl Try.ntmps40 rfl (Rds.cons (rowS hb.row) .nil).kn ?_
    (repeat (refine gG ?_; try intro _))
    refine g_yd rfl rfl (Ys.yd (ys_lookupG_nil p rfl rfl rfl rfl Try.underlying26 kok_name z_int)) ?_
    refine g_say 19 (.tuple #[.int .i64 0, .bool false]) rfl rfl ?_
    (repeat' (first | (refine gG ?_; try intro _) | ((first | refine g_split rfl rfl tE (fun _ => ?_) (fun _ => ?_) | refine gk_cond rfl rfl tE (fun _ => ?_) (fun _ => ?_)) <;> (try first | (exfalso; omega; done) | (rename_i hx; exact absurd rfl hx) | (rename_i hx; cases hx; done)))))
    refine gk_ret hT rfl rfl (.tmp rfl (.tmp rfl .nil)) (fun w' hk => ?_)
    exact ⟨rfl, hk.toBelow⟩
  | some r =>
    have hKL : Keys L := hs.keys.perm hs.l
    obtain ⟨A, c, hv, hc, hm, hA, hrd⟩ := own_rdv (Rd1.unpack (l := duL g r ru nw v L) h (.tail _ (.head _)))
    subst hv
    have hb : Rd1 w (blk g [ru, (Value.slice A L.length c), .map (some r), nw] 33) := Rd1.unpack (l := duL g r ru nw _ L) h (.head _)
    obtain ⟨M, hM, hmr⟩ := Rd1.exE (Rd1.unpack (φ := mpx r L) (l := duL g r ru nw _ L) h (.tail _ (.tail _ (.head _))))
    refine g_enter0 T [] [] [row g 1 [(Value.slice A L.length c), .map (some r), nw], sl A 3 TE L, mpk r (pairV .i64) M] Try.func40 rfl Try.ntmps40 rfl (Rds.cons (rowS hb.row) (.cons hrd (.cons hmr .nil))).kn ?_
    cases hi : idx L p with
    | none =>
      have hmg : mg p M = none := by rw [hM.get]; unfold posT; rw [hi]; rfl
      rw [atP_none hs.l hi]
      (repeat (refine gG ?_; try intro _))
      refine g_yd rfl rfl ((ys_lookupG (S := [mpk r (pairV .i64) M]) p rfl rfl rfl rfl Try.underlying26 kok_name z_int mE).ydS sF) ?_
      refine g_say 19 (.tuple #[.int .i64 0, .bool false]) rfl (lkv_none hmg) ?_
      (repeat' (first | (refine gG ?_; try intro _) | ((first | refine g_split rfl rfl tE (fun _ => ?_) (fun _ => ?_) | refine gk_cond rfl rfl tE (fun _ => ?_) (fun _ => ?_)) <;> (try first | (exfalso; omega; done) | (rename_i hx; exact absurd rfl hx) | (rename_i hx; cases hx; done)))))
      refine gk_ret hT rfl rfl (.tmp rfl (.tmp rfl .nil)) (fun w' hk => ?_)
      exact ⟨rfl, hk.toBelow⟩
    | some i =>
      obtain ⟨y, hy, hyk⟩ := idx_get hi
      have hil := (List.getElem?_eq_some_iff.1 hy).1
      have hmg : mg p M = some (.int .i64 (i : Int)) := by rw [← hyk]; exact map_at hKL hM hy
      rw [atP_some hs.keys hs.l hy hyk]
      refine gk_elem (enc := TE) (L := L) i mE hil (by decide) (fun b o z eA hz => ?_)
      subst eA
      obtain rfl : y = z := by rw [hy] at hz; exact Option.some.inj hz
      (repeat (refine gG ?_; try intro _))
      refine g_yd rfl rfl ((ys_lookupG (S := [mpk r (pairV .i64) M]) p rfl rfl rfl rfl Try.underlying26 kok_name z_int mE).ydS sF) ?_
      refine g_say 19 (.tuple #[.int .i64 (i : Int), .bool true]) rfl (lkv_some hmg) ?_
      (repeat' (first | (refine gG ?_; try intro _) | ((first | refine g_split rfl rfl tE (fun _ => ?_) (fun _ => ?_) | refine gk_cond rfl rfl tE (fun _ => ?_) (fun _ => ?_)) <;> (try first | (exfalso; omega; done) | (rename_i hx; exact absurd rfl hx) | (rename_i hx; cases hx; done)))))
      refine gk_ret hT rfl rfl (.tmp rfl (.tmp rfl .nil)) (fun w' hk => ?_)
      exact ⟨rfl, hk.toBelow⟩
theorem qlen_any (g : Nat) (ru nw : Value) (s : QuS) (S : List Tim) (w : World) (hs : QuOk s.mo s.L S) (h : Rd1 w (quF g ru nw s)) :
    Calls Try.prog 118 [rowP g].toArray w fun e w' => e = .returned (.int .i64 (S.length : Int)) ∧ Below w.heap.size w w' := by
  obtain ⟨mo, v, L⟩ := s
  replace hs : QuOk mo L S := hs
  have hLl : L.length = S.length := hs.l.length_eq
  rw [← hLl]
  have hb : Rd1 w (blk g [ru, v, .map mo, nw] 33) ∧ ∃ A c, v = .slice A L.length c := by
    cases mo with
    | none =>
      obtain ⟨A, c, hv, _⟩ := own_rdv (Rd1.unpack (l := [blk g [ru, v, .map none, nw] 33, own 0 87 3 v TE L]) h (.tail _ (.head _)))
      exact ⟨Rd1.unpack (l := [blk g [ru, v, .map none, nw] 33, own 0 87 3 v TE L]) h (.head _), A, c, hv⟩
    | some r =>
      obtain ⟨A, c, hv, _⟩ := own_rdv (Rd1.unpack (l := duL g r ru nw v L) h (.tail _ (.head _)))
      exact ⟨Rd1.unpack (l := duL g r ru nw v L) h (.head _), A, c, hv⟩
  obtain ⟨hb, A, c, hv⟩ := hb
  subst hv
  refine g_enter0 T [] [] [row g 1 [(Value.slice A L.length c), .map mo, nw]] Try.func118 rfl Try.ntmps118 rfl (Rds.cons (rowS hb.row) .nil).kn ?_
  (repeat' (first | (refine gG ?_; try intro _) | ((first | refine g_split rfl rfl tE (fun _ => ?_) (fun _ => ?_) | refine gk_cond rfl rfl tE (fun _ => ?_) (fun _ => ?_)) <;> (try first | (exfalso; omega; done) | (rename_i hx; exact absurd rfl hx) | (rename_i hx; cases hx; done)))))
  refine gk_ret hT rfl rfl (.tmp rfl .nil) (fun w' hk => ?_)
  exact ⟨rfl, hk.toBelow⟩
theorem qpop_any (g : Nat) (ru nw : Value) (s : QuS) (S : List Tim) (u : Int) (w : World) (hs : QuOk s.mo s.L S) (h : Rd1 w (quF g ru nw s)) :
    Calls Try.prog 32 [rowP g, .int .u64 u].toArray w (RetM (quF g ru nw s) (fun q : QuS × Tim × Bool => QuOk q.1.mo q.1.L (popP u S).1 ∧ q.2 = (popP u S).2) (fun q => .tuple #[q.2.1.val, .bool q.2.2]) (fun q => quF g ru nw q.1) w) := by
  obtain ⟨mo, v, L⟩ := s
  replace hs : QuOk mo L S := hs
  have hEE : ∀ b, b ∈ (g :: ownE v) ++ mo.toList → (quF g ru nw ⟨mo, v, L⟩).S b := fun b hb => (qu_fin g ru nw _ b).2 hb
  have hS9 := hs.len
  have hLl : L.length = S.length := hs.l.length_eq
  cases S with
  | nil =>
    obtain rfl : L = [] := by simpa using hLl
    cases mo with
    | none =>
      refine g_enter0 T _ [blk g [ru, v, .map none, nw] 33, own 0 87 3 v TE []] [] Try.func32 rfl Try.ntmps32 rfl (Kn.startP (l := [blk g [ru, v, .map none, nw] 33, own 0 87 3 v TE []]) h (fun b hb => (qu_fin g ru nw ⟨none, v, []⟩ b).1 hb) (fun _ h => by cases h)) ?_
      (repeat (refine gG ?_; try intro _))
      refine g_ownv v (L := ([] : List Tim)) mE (fun A2 c2 hv2 _ _ _ => ?_)
      subst hv2
      (repeat' (first | (refine gG ?_; try intro _) | ((first | refine g_split rfl rfl tE (fun _ => ?_) (fun _ => ?_) | refine gk_cond rfl rfl tE (fun _ => ?_) (fun _ => ?_)) <;> (try first | (exfalso; omega; done) | (rename_i hx; exact absurd rfl hx) | (rename_i hx; cases hx; done)))))
      refine gk_ret hT rfl rfl (.cell rfl mE rfl rfl (.tmp rfl .nil)) (fun w' hk => ?_)
      exact RetM.mkP (ll := fun q : QuS × Tim × Bool => quL g ru nw q.1) (⟨none, _, []⟩, ⟨0, 0, 0⟩, false) ⟨hs, rfl⟩ rfl hk hEE (sA : SelAll [blk g [ru, (.slice A2 0 c2), .map none, nw] 33, own 0 87 3 (.slice A2 0 c2) TE []] _)
    | some r =>
      refine g_enter0 T _ (duL g r ru nw v []) [] Try.func32 rfl Try.ntmps32 rfl (Kn.startP (l := duL g r ru nw v []) h (fun b hb => (qu_fin g ru nw ⟨some r, v, []⟩ b).1 hb) (fun _ h => by cases h)) ?_
      (repeat (refine gG ?_; try intro _))
      refine g_ownv v (L := ([] : List Tim)) mE (fun A2 c2 hv2 _ _ _ => ?_)
      subst hv2
      (repeat' (first | (refine gG ?_; try intro _) | ((first | refine g_split rfl rfl tE (fun _ => ?_) (fun _ => ?_) | refine gk_cond rfl rfl tE (fun _ => ?_) (fun _ => ?_)) <;> (try first | (exfalso; omega; done) | (rename_i hx; exact absurd rfl hx) | (rename_i hx; cases hx; done)))))
      refine gk_ret hT rfl rfl (.cell rfl mE rfl rfl (.tmp rfl .nil)) (fun w' hk => ?_)
      exact RetM.mkP (ll := fun q : QuS × Tim × Bool => quL g ru nw q.1) (⟨some r, _, []⟩, ⟨0, 0, 0⟩, false) ⟨hs, rfl⟩ rfl hk hEE (sA : SelAll (duL g r ru nw (.slice A2 0 c2) []) _)
  | cons x S' =>
    cases mo with
    | none => exact absurd (hs.nil rfl) (by simp)
    | some r =>
      have hxl : (x :: S').length = S'.length + 1 := rfl
      have hKL : Keys L := hs.keys.perm hs.l
      obtain ⟨x', hx'⟩ : ∃ x', L[0]? = some x' := ⟨L[0]'(by omega), List.getElem?_eq_getElem (by omega)⟩
      obtain rfl := hs.least hx'
      refine g_enter0 T _ (duL g r ru nw v L) [] Try.func32 rfl Try.ntmps32 rfl (Kn.startP (l := duL g r ru nw v L) h (fun b hb => (qu_fin g ru nw ⟨some r, v, L⟩ b).1 hb) (fun _ h => by cases h)) ?_
      refine gk_own0 v (L := L) mE (by omega) (fun b c hv hc hm => ?_)
      subst hv
      (repeat' (first | (refine gG ?_; try intro _) | ((first | refine g_split rfl rfl tE (fun _ => ?_) (fun _ => ?_) | refine gk_cond rfl rfl tE (fun _ => ?_) (fun _ => ?_)) <;> (try first | (exfalso; omega; done) | (rename_i hx; exact absurd rfl hx) | (rename_i hx; cases hx; done)))))
      rename_i g4 _
      refine g_yd rfl rfl ((ys_load_el (S := [own 0 87 3 (.slice (some ⟨b, 0, none⟩) L.length c) TE L]) (o0 := 0) (sz := 3) (enc := TE) (L := L) hT 0 x' 0 rfl rfl rfl rfl hx' (at_own mE) rfl rfl).ydS sF) ?_
      refine g_say 21 (.int .u64 x'.t) rfl rfl ?_
      by_cases hu : u < x'.t
      · have hpp : popP u (x' :: S') = (x' :: S', ⟨0, 0, 0⟩, false) := if_pos hu
        rw [hpp]
        (repeat' (first | (refine gG ?_; try intro _) | ((first | refine g_split rfl rfl tE (fun _ => ?_) (fun _ => ?_) | refine gk_cond rfl rfl tE (fun _ => ?_) (fun _ => ?_)) <;> (try first | (exfalso; omega; done) | (rename_i hx; exact absurd rfl hx) | (rename_i hx; cases hx; done)))))
        refine gk_ret hT rfl rfl (.cell rfl mE rfl rfl (.tmp rfl .nil)) (fun w' hk => ?_)
        exact RetM.mkP (ll := fun q : QuS × Tim × Bool => quL g ru nw q.1) (⟨some r, _, L⟩, ⟨0, 0, 0⟩, false) ⟨hs, rfl⟩ rfl hk hEE (sA : SelAll (duL g r ru nw (.slice (some ⟨b, 0, none⟩) L.length c) L) _)
      · have hpp : popP u (x' :: S') = (S', x', true) := if_neg hu
        rw [hpp]
        (repeat' (first | (refine gG ?_; try intro _) | ((first | refine g_split rfl rfl tE (fun _ => ?_) (fun _ => ?_) | refine gk_cond rfl rfl tE (fun _ => ?_) (fun _ => ?_)) <;> (try first | (exfalso; omega; done) | (rename_i hx; exact absurd rfl hx) | (rename_i hx; cases hx; done)))))
        refine g_yd rfl rfl (Ys.yd (ys_makeIface rfl rfl (by kernel_rfl))) ?_
        refine g_pack (duL g r ru nw (.slice (some ⟨b, 0, none⟩) L.length c) L) [blk g4 [.int .u64 0, .int .i64 0, .int .i64 0] 87] sA ?_
        refine g_mv rfl (mv_call_mod (φ := duF g r ru nw (.slice (some ⟨b, 0, none⟩) L.length c) L) (ψ := fun q : Value × List Tim × Tim => duF g r ru nw q.1 q.2.1) (fun w hk => hpop_any (duHO g r ru nw) (.slice (some ⟨b, 0, none⟩) L.length c) L w (hk.rO (φ := duF g r ru nw (.slice (some ⟨b, 0, none⟩) L.length c) L) mE) hKL (by omega) (by omega) hs.heap) rfl rfl rfl rfl rfl (by kernel_rfl) (by intro _; first | ((repeat (first | with_reducible exact Upd.here _ | with_reducible apply Upd.there)); done) | ((repeat (first | exact Upd.here _ | apply Upd.there)); done) | fail) (fun q hI => ?_))
        obtain ⟨v1, L1, z⟩ := q
        obtain ⟨hz, hp, hh⟩ := hI
        replace hz : L[0]? = some z := hz
        obtain rfl : x' = z := by rw [hx'] at hz; exact Option.some.inj hz
        refine g_say 30 (.iface 87 x'.val) rfl rfl ?_
        refine g_yd rfl rfl (Ys.yd (ys_typeAssert rfl rfl (by kernel_rfl))) ?_
        (repeat' (first | (refine gG ?_; try intro _) | ((first | refine g_split rfl rfl tE (fun _ => ?_) (fun _ => ?_) | refine gk_cond rfl rfl tE (fun _ => ?_) (fun _ => ?_)) <;> (try first | (exfalso; omega; done) | (rename_i hx; exact absurd rfl hx) | (rename_i hx; cases hx; done)))))
        refine gk_ret hT rfl rfl (.cell rfl mE rfl rfl (.tmp rfl .nil)) (fun w' hk => ?_)
        have hd := hs.drop (mo' := some r) (by simp) hp hh
        rw [wo_head hs.keys] at hd
        exact RetM.mk (ψ := fun q : QuS × Tim × Bool => quF g ru nw q.1) (⟨some r, v1, L1⟩, x', true) ⟨hd, rfl⟩ rfl hk hEE (mE : duF g r ru nw v1 L1 ∈ _)
end Go.Proofs.Ytgpfedmfbkhhcaa.Dv

