/- Alloc: Take, Hold, Drop, Adopt. -/
import Derived.Test.YtdkgmgfadpnhbaaAl3
namespace Go.Proofs.Ytdkgmgfadpnhbaa.Al
open Go.RowKit Mem Gx Gm KyU Dd Rf Hp
set_option linter.unusedVariables false
set_option linter.unusedSimpArgs false
set_option maxRecDepth 100000
set_option maxHeartbeats 2000000
def takeA (s : AlS) : AlS × Int × Int := match s.S with
  | [] => (s, 0, 30)
  | x :: S' => (⟨S', s.l ++ [x], s.U, s.L⟩, x, 0)
theorem atake_any (a n : Nat) (D : AlD) (s : AlS) (w : World) (hl9 : s.l.length < 1000) (hI : AlI n D s) (h : Rd1 w (alF a n D s)) :
    Calls Try.prog 55 [.pointer (some ⟨a, 0, none⟩)].toArray w (RetM (alF a n D s) (fun r : AlD × AlS × Int × Int => AlI n r.1 r.2.1 ∧ r.2 = takeA s) (fun r => .tuple #[.int .u32 r.2.2.1, .int .i64 r.2.2.2]) (fun r => alF a n r.1 r.2.1) w) := by
  obtain ⟨f, fs, T1, rs, M, v⟩ := D
  obtain ⟨S, l, U, L⟩ := s
  obtain ⟨hp, hf, hr, hu⟩ := hI
  dsimp only at hp hf hr hu hl9
  refine g_enter0 T (finE (alF a n ⟨f, fs, T1, rs, M, v⟩ ⟨S, l, U, L⟩) w) [tbF2 a (⟨.pointer (some ⟨f, 0, none⟩), .map (some rs), v, .int .i64 (n : Int)⟩ : XA) T1, packF (frF f fs), mpk rs (Value.int .u32) M, own 0 87 1 v (IE .u32) L] [] Try.func55 rfl Try.ntmps55 rfl (Kn.startP h (fun b hb => (finE_mem h.2 b).2 hb) (fun _ h => by cases h)) ?_
  rw [show tbF2 a (⟨.pointer (some ⟨f, 0, none⟩), .map (some rs), v, .int .i64 (n : Int)⟩ : XA) T1 = packF [blk a [.pointer (some ⟨f, 0, none⟩), .map T1.r, .int .i64 T1.sum, .map (some rs), v, .int .i64 (n : Int)] 191, moF T1.r T1.M] from rfl]
  refine gk_unpack (l := [blk a [.pointer (some ⟨f, 0, none⟩), .map T1.r, .int .i64 T1.sum, .map (some rs), v, .int .i64 (n : Int)] 191, moF T1.r T1.M]) (by repeat (first | with_reducible exact Sel.here | with_reducible apply Sel.there)) ?_
  (repeat (refine gG ?_; try intro _))
  refine g_mv rfl (mv_call_mod (φ := packF (frF f fs)) (ψ := fun r : FrS × Int × Bool => packF (frF f r.1)) (fun w1 hk => by exact ltake_any f fs S w1 hf (hk.rO (φ := packF (frF f fs)) mE)) rfl rfl rfl rfl rfl (by kernel_rfl) (by intro _; first | ((repeat (first | with_reducible exact Upd.here _ | with_reducible apply Upd.there)); done) | ((repeat (first | exact Upd.here _ | apply Upd.there)); done) | fail) (fun r hr2 => ?_))
  obtain ⟨fs', b, ok⟩ := r
  obtain ⟨hf', hv⟩ := hr2
  dsimp only at hf' hv ⊢
  cases S with
  | nil =>
    obtain ⟨rfl, rfl⟩ : b = 0 ∧ ok = false := by cases hv; exact ⟨rfl, rfl⟩
    (repeat (refine gG ?_; try intro _))
    refine gk_pack (tbL2 a (⟨.pointer (some ⟨f, 0, none⟩), .map (some rs), v, .int .i64 (n : Int)⟩ : XA) T1) [packF (frF f fs'), mpk rs (Value.int .u32) M, own 0 87 1 v (IE .u32) L] sA ?_
    refine gk_ret hT rfl rfl (.tmp rfl (.tmp rfl .nil)) (fun w' hk => ?_)
    exact RetM.mkP (ll := fun r : AlD × AlS × Int × Int => alL a n r.1 r.2.1) ((⟨f, fs', T1, rs, M, v⟩, ⟨[], l, U, L⟩, 0, 30) : AlD × AlS × Int × Int) ⟨⟨hp, hf', hr, hu⟩, rfl⟩ rfl hk (fun b hb => (finE_mem h.2 b).1 hb) (show SelAll [tbF2 a (⟨.pointer (some ⟨f, 0, none⟩), .map (some rs), v, .int .i64 (n : Int)⟩ : XA) T1, packF (frF f fs'), mpk rs (Value.int .u32) M, own 0 87 1 v (IE .u32) L] _ from sA)
  | cons x S' =>
    obtain ⟨rfl, rfl⟩ : b = x ∧ ok = true := by cases hv; exact ⟨rfl, rfl⟩
    have hx := hp.pos (b := b) (.inl (.head _))
    (repeat (refine gG ?_; try intro _))
    refine g_pack (tbL2 a (⟨.pointer (some ⟨f, 0, none⟩), .map (some rs), v, .int .i64 (n : Int)⟩ : XA) T1) [packF (frF f fs'), mpk rs (Value.int .u32) M, own 0 87 1 v (IE .u32) L] sA ?_
    refine g_mv rfl (mv_call_mod (φ := tbF2 a (⟨.pointer (some ⟨f, 0, none⟩), .map (some rs), v, .int .i64 (n : Int)⟩ : XA) T1) (ψ := fun T' : TabS => tbF2 a (⟨.pointer (some ⟨f, 0, none⟩), .map (some rs), v, .int .i64 (n : Int)⟩ : XA) T') (fun w1 hk => by exact hold2_any a (⟨.pointer (some ⟨f, 0, none⟩), .map (some rs), v, .int .i64 (n : Int)⟩ : XA) T1 l b w1 (by omega) hl9 hr (hk.rO (φ := tbF2 a (⟨.pointer (some ⟨f, 0, none⟩), .map (some rs), v, .int .i64 (n : Int)⟩ : XA) T1) mE)) rfl rfl rfl rfl rfl (by kernel_rfl) (by intro _; first | ((repeat (first | with_reducible exact Upd.here _ | with_reducible apply Upd.there)); done) | ((repeat (first | exact Upd.here _ | apply Upd.there)); done) | fail) (fun T' hT' => ?_))
    (repeat (refine gG ?_; try intro _))
    refine gk_ret hT rfl rfl (.tmp rfl (.tmp rfl .nil)) (fun w' hk => ?_)
    exact RetM.mkP (ll := fun r : AlD × AlS × Int × Int => alL a n r.1 r.2.1) ((⟨f, fs', T', rs, M, v⟩, ⟨S', l ++ [b], U, L⟩, b, 0) : AlD × AlS × Int × Int) ⟨⟨hp.take, hf', hT', hu⟩, rfl⟩ rfl hk (fun b hb => (finE_mem h.2 b).1 hb) (show SelAll [tbF2 a (⟨.pointer (some ⟨f, 0, none⟩), .map (some rs), v, .int .i64 (n : Int)⟩ : XA) T', packF (frF f fs'), mpk rs (Value.int .u32) M, own 0 87 1 v (IE .u32) L] _ from sA)
/-- What Drop leaves. -/
def dropA (s : AlS) (b : Int) : AlS × Int := if s.l.count b = 0 then (s, 60) else if 1 < s.l.count b then (⟨s.S, s.l.erase b, s.U, s.L⟩, 0) else if b ∈ s.U then (⟨s.S, s.l.erase b, s.U, s.L ++ [b]⟩, 0) else (⟨ins b s.S, s.l.erase b, s.U, s.L⟩, 0)
theorem lk_u {M : List (Int × Value)} {U : List Int} (hu : MapIs M (uV U)) (b : Int) : ((lkG b M 0).map (·.2)).getD (.int .i64 0) = .int .i64 (if b ∈ U then 1 else 0) := by
  have h1 := hu.get b
  unfold mg at h1
  rw [h1]
  unfold uV
  split <;> rfl
theorem adrop_any (a n : Nat) (D : AlD) (s : AlS) (b : Int) (w : World) (hn : n ≤ 4096) (hI : AlI n D s) (h : Rd1 w (alF a n D s)) :
    Calls Try.prog 57 [.pointer (some ⟨a, 0, none⟩), .int .u32 b].toArray w (RetM (alF a n D s) (fun r : AlD × AlS × Int => AlI n r.1 r.2.1 ∧ r.2 = dropA s b) (fun r => .int .i64 r.2.2) (fun r => alF a n r.1 r.2.1) w) := by
  have hlens := hI.p.lens
  obtain ⟨f, fs, T1, rs, M, v⟩ := D
  obtain ⟨S, l, U, L⟩ := s
  obtain ⟨hp, hf, hr, hu⟩ := hI
  dsimp only at hp hf hr hu hlens
  refine g_enter0 T (finE (alF a n ⟨f, fs, T1, rs, M, v⟩ ⟨S, l, U, L⟩) w) [tbF2 a (⟨.pointer (some ⟨f, 0, none⟩), .map (some rs), v, .int .i64 (n : Int)⟩ : XA) T1, packF (frF f fs), mpk rs (Value.int .u32) M, own 0 87 1 v (IE .u32) L] [] Try.func57 rfl Try.ntmps57 rfl (Kn.startP h (fun b hb => (finE_mem h.2 b).2 hb) (fun _ h => by cases h)) ?_
  (repeat (refine gG ?_; try intro _))
  by_cases h0 : l.count b = 0
  · have hd : dropA ⟨S, l, U, L⟩ b = (⟨S, l, U, L⟩, 60) := if_pos h0
    refine g_mv rfl ?_; refine mv_call_bel (fun w hk => drop02_any a (⟨.pointer (some ⟨f, 0, none⟩), .map (some rs), v, .int .i64 (n : Int)⟩ : XA) T1 l b w h0 hr (hk.rO (φ := tbF2 a (⟨.pointer (some ⟨f, 0, none⟩), .map (some rs), v, .int .i64 (n : Int)⟩ : XA) T1) mE)) rfl rfl rfl rfl rfl (by kernel_rfl) ?_
    (repeat' (first | (refine gG ?_; try intro _) | ((first | refine g_split rfl rfl tE (fun _ => ?_) (fun _ => ?_) | refine gk_cond rfl rfl tE (fun _ => ?_) (fun _ => ?_)) <;> (try first | (exfalso; omega; done) | (rename_i hx; exact absurd rfl hx) | (rename_i hx; cases hx; done)))))
    refine gk_ret hT rfl rfl (.tmp rfl .nil) (fun w' hk => ?_)
    exact RetM.mkP (ll := fun r : AlD × AlS × Int => alL a n r.1 r.2.1) ((⟨f, fs, T1, rs, M, v⟩, ⟨S, l, U, L⟩, 60) : AlD × AlS × Int) ⟨⟨hp, hf, hr, hu⟩, hd.symm⟩ rfl hk (fun b hb => (finE_mem h.2 b).1 hb) (show SelAll [tbF2 a (⟨.pointer (some ⟨f, 0, none⟩), .map (some rs), v, .int .i64 (n : Int)⟩ : XA) T1, packF (frF f fs), mpk rs (Value.int .u32) M, own 0 87 1 v (IE .u32) L] _ from sA)
  have hb : b ∈ l := List.count_pos_iff.1 (by omega)
  have hb1 := hp.pos (b := b) (.inr (.inl hb))
  have hec : (l.erase b).count b = l.count b - 1 := List.count_erase_self
  refine g_mv rfl (mv_call_mod (φ := tbF2 a (⟨.pointer (some ⟨f, 0, none⟩), .map (some rs), v, .int .i64 (n : Int)⟩ : XA) T1) (ψ := fun T' : TabS => tbF2 a (⟨.pointer (some ⟨f, 0, none⟩), .map (some rs), v, .int .i64 (n : Int)⟩ : XA) T') (fun w1 hk => by exact drop2_any a (⟨.pointer (some ⟨f, 0, none⟩), .map (some rs), v, .int .i64 (n : Int)⟩ : XA) T1 l b w1 (by omega) hr (hk.rO (φ := tbF2 a (⟨.pointer (some ⟨f, 0, none⟩), .map (some rs), v, .int .i64 (n : Int)⟩ : XA) T1) mE)) rfl rfl rfl rfl rfl (by kernel_rfl) (by intro _; first | ((repeat (first | with_reducible exact Upd.here _ | with_reducible apply Upd.there)); done) | ((repeat (first | exact Upd.here _ | apply Upd.there)); done) | fail) (fun T' hT' => ?_))
  by_cases h1 : 1 < l.count b
  · have hd : dropA ⟨S, l, U, L⟩ b = (⟨S, l.erase b, U, L⟩, 0) := (if_neg h0).trans (if_pos h1)
    (repeat' (first | (refine gG ?_; try intro _) | ((first | refine g_split rfl rfl tE (fun _ => ?_) (fun _ => ?_) | refine gk_cond rfl rfl tE (fun _ => ?_) (fun _ => ?_)) <;> (try first | (exfalso; omega; done) | (rename_i hx; exact absurd rfl hx) | (rename_i hx; cases hx; done)))))
    refine gk_ret hT rfl rfl (.tmp rfl .nil) (fun w' hk => ?_)
    exact RetM.mkP (ll := fun r : AlD × AlS × Int => alL a n r.1 r.2.1) ((⟨f, fs, T', rs, M, v⟩, ⟨S, l.erase b, U, L⟩, 0) : AlD × AlS × Int) ⟨⟨hp.dropM h1, hf, hT', hu⟩, hd.symm⟩ rfl hk (fun b hb => (finE_mem h.2 b).1 hb) (show SelAll [tbF2 a (⟨.pointer (some ⟨f, 0, none⟩), .map (some rs), v, .int .i64 (n : Int)⟩ : XA) T', packF (frF f fs), mpk rs (Value.int .u32) M, own 0 87 1 v (IE .u32) L] _ from sA)
  have hc1 : l.count b = 1 := by omega
  rw [show tbF2 a (⟨.pointer (some ⟨f, 0, none⟩), .map (some rs), v, .int .i64 (n : Int)⟩ : XA) T' = packF [blk a [.pointer (some ⟨f, 0, none⟩), .map T'.r, .int .i64 T'.sum, .map (some rs), v, .int .i64 (n : Int)] 191, moF T'.r T'.M] from rfl]
  refine g_unpack (l := [blk a [.pointer (some ⟨f, 0, none⟩), .map T'.r, .int .i64 T'.sum, .map (some rs), v, .int .i64 (n : Int)] 191, moF T'.r T'.M]) (by repeat (first | with_reducible exact Sel.here | with_reducible apply Sel.there)) ?_
  (repeat' (first | (refine gG ?_; try intro _) | ((first | refine g_split rfl rfl tE (fun _ => ?_) (fun _ => ?_) | refine gk_cond rfl rfl tE (fun _ => ?_) (fun _ => ?_)) <;> (try first | (exfalso; omega; done) | (rename_i hx; exact absurd rfl hx) | (rename_i hx; cases hx; done)))))
  refine g_yd rfl rfl ((ys_lookupG (S := [mpk rs (Value.int .u32) M]) b rfl rfl rfl rfl Try.underlying81 kok_u zero_I (.head _)).ydS sF) ?_
  refine g_say 33 (.int .i64 (if b ∈ U then 1 else 0)) rfl (lk_u hu b) ?_
  by_cases hbu : b ∈ U
  · have hd : dropA ⟨S, l, U, L⟩ b = (⟨S, l.erase b, U, L ++ [b]⟩, 0) := (if_neg h0).trans ((if_neg h1).trans (if_pos hbu))
    rw [if_pos hbu]
    (repeat' (first | (refine gG ?_; try intro _) | ((first | refine g_split rfl rfl tE (fun _ => ?_) (fun _ => ?_) | refine gk_cond rfl rfl tE (fun _ => ?_) (fun _ => ?_)) <;> (try first | (exfalso; omega; done) | (rename_i hx; exact absurd rfl hx) | (rename_i hx; cases hx; done)))))
    refine g_mv rfl (mv_append (L := L) rfl [b] rfl rfl rfl rfl Al.elt_U (by intro _; first | ((repeat (first | with_reducible exact Upd.here _ | with_reducible apply Upd.there)); done) | ((repeat (first | exact Upd.here _ | apply Upd.there)); done) | fail) (src_blk mE rfl) rfl Al.oneU (by simp only [maxLen, List.length_append, List.length_cons, List.length_nil]; omega) (by simp only [List.length_append, List.length_cons, List.length_nil]; omega) (Nat.zero_le _) (fun v2 => ?_))
    refine g_ownv v2 mE (fun A1 c1 hv1 _ _ _ => ?_)
    subst hv1
    (repeat (refine gG ?_; try intro _))
    refine gk_pack (tbL2 a (⟨.pointer (some ⟨f, 0, none⟩), .map (some rs), .slice A1 (L ++ [b]).length c1, .int .i64 (n : Int)⟩ : XA) T') [packF (frF f fs), mpk rs (Value.int .u32) M, own 0 87 1 (.slice A1 (L ++ [b]).length c1) (IE .u32) (L ++ [b])] sA ?_
    refine gk_ret hT rfl rfl (.tmp rfl .nil) (fun w' hk => ?_)
    exact RetM.mkP (ll := fun r : AlD × AlS × Int => alL a n r.1 r.2.1) ((⟨f, fs, T', rs, M, .slice A1 (L ++ [b]).length c1⟩, ⟨S, l.erase b, U, L ++ [b]⟩, 0) : AlD × AlS × Int) ⟨⟨hp.dropL hc1 hbu, hf, hT', hu⟩, hd.symm⟩ rfl hk (fun b hb => (finE_mem h.2 b).1 hb) (show SelAll [tbF2 a (⟨.pointer (some ⟨f, 0, none⟩), .map (some rs), .slice A1 (L ++ [b]).length c1, .int .i64 (n : Int)⟩ : XA) T', packF (frF f fs), mpk rs (Value.int .u32) M, own 0 87 1 (.slice A1 (L ++ [b]).length c1) (IE .u32) (L ++ [b])] _ from sA)
  · have hd : dropA ⟨S, l, U, L⟩ b = (⟨ins b S, l.erase b, U, L⟩, 0) := (if_neg h0).trans ((if_neg h1).trans (if_neg hbu))
    have hg : giveP b S = (ins b S, true) := give_yes fun h2 => h2.elim (by omega) fun h3 => hp.fl b h3 hb
    rw [if_neg hbu]
    (repeat' (first | (refine gG ?_; try intro _) | ((first | refine g_split rfl rfl tE (fun _ => ?_) (fun _ => ?_) | refine gk_cond rfl rfl tE (fun _ => ?_) (fun _ => ?_)) <;> (try first | (exfalso; omega; done) | (rename_i hx; exact absurd rfl hx) | (rename_i hx; cases hx; done)))))
    refine g_mv rfl (mv_call_mod (φ := packF (frF f fs)) (ψ := fun r : FrS × Bool => packF (frF f r.1)) (fun w1 hk => by exact lgive_any f fs S b w1 hf (by omega) (hk.rO (φ := packF (frF f fs)) mE)) rfl rfl rfl rfl rfl (by kernel_rfl) (by intro _; first | ((repeat (first | with_reducible exact Upd.here _ | with_reducible apply Upd.there)); done) | ((repeat (first | exact Upd.here _ | apply Upd.there)); done) | fail) (fun r hr2 => ?_))
    obtain ⟨fs', ok⟩ := r
    obtain ⟨hf', hok⟩ := hr2
    rw [hg] at hf'
    dsimp only at hf' ⊢
    (repeat (refine gG ?_; try intro _))
    refine gk_pack (tbL2 a (⟨.pointer (some ⟨f, 0, none⟩), .map (some rs), v, .int .i64 (n : Int)⟩ : XA) T') [packF (frF f fs'), mpk rs (Value.int .u32) M, own 0 87 1 v (IE .u32) L] sA ?_
    refine gk_ret hT rfl rfl (.tmp rfl .nil) (fun w' hk => ?_)
    exact RetM.mkP (ll := fun r : AlD × AlS × Int => alL a n r.1 r.2.1) ((⟨f, fs', T', rs, M, v⟩, ⟨ins b S, l.erase b, U, L⟩, 0) : AlD × AlS × Int) ⟨⟨hp.dropF hc1, hf', hT', hu⟩, hd.symm⟩ rfl hk (fun b hb => (finE_mem h.2 b).1 hb) (show SelAll [tbF2 a (⟨.pointer (some ⟨f, 0, none⟩), .map (some rs), v, .int .i64 (n : Int)⟩ : XA) T', packF (frF f fs'), mpk rs (Value.int .u32) M, own 0 87 1 v (IE .u32) L] _ from sA)
end Go.Proofs.Ytdkgmgfadpnhbaa.Al

