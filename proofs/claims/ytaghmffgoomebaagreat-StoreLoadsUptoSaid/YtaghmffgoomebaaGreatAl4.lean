/- Alloc: New, Len, Free, Late, Count, Held. Alloc: Take, Hold, Drop, Adopt. -/
import Derived.Test.YtaghmffgoomebaaGreatAl1
namespace Go.Proofs.YtaghmffgoomebaaGreat.Al
open Go.RowKit Mem Gx KyU Dd Rf Hp
set_option linter.unusedVariables false
set_option linter.unusedSimpArgs false
set_option maxRecDepth 100000
set_option maxHeartbeats 1000000
/-- What may be read of an Alloc. -/
structure RdA (a n f : Nat) (fs : FrS) (T1 : TabS) (rs : Nat) (M : List (Int × Value)) (v : Value) (L : List Int) (w : World) : Prop where
  b : Rd1 w (blk a [.pointer (some ⟨f, 0, none⟩), .map T1.r, .int .i64 T1.sum, .map (some rs), v, .int .i64 (n : Int)] 100)
  t : Rd1 w (tbF2 a (⟨.pointer (some ⟨f, 0, none⟩), .map (some rs), v, .int .i64 (n : Int)⟩ : XA) T1)
  f : Rd1 w (packF (frF f fs))
  m : Rd1 w (mpk rs (Value.int .u32) M)
  o : Rd1 w (own 0 26 1 v (IE .u32) L)
theorem rda {a n : Nat} {f : Nat} {fs : FrS} {T1 : TabS} {rs : Nat} {M : List (Int × Value)} {v : Value} {s : AlS} {w : World} (h : Rd1 w (alF a n ⟨f, fs, T1, rs, M, v⟩ s)) : RdA a n f fs T1 rs M v s.L w := by
  have ht : Rd1 w (tbF2 a (⟨.pointer (some ⟨f, 0, none⟩), .map (some rs), v, .int .i64 (n : Int)⟩ : XA) T1) := h.unpack (.head _)
  exact ⟨ht.unpack (.head _), ht, h.unpack (.tail _ (.head _)), h.unpack (.tail _ (.tail _ (.head _))), h.unpack (.tail _ (.tail _ (.tail _ (.head _))))⟩
theorem afree_any (a n : Nat) (D : AlD) (s : AlS) (w : World) (hI : AlI n D s) (h : Rd1 w (alF a n D s)) :
    Calls Tryz.prog 17 [.pointer (some ⟨a, 0, none⟩)].toArray w fun e w' => e = .returned (.int .i64 (s.S.length : Int)) ∧ Below w.heap.size w w' := by
  have hl := hI.fr.l.length_eq
  have h9 := hI.fr.len
  obtain ⟨f, fs, T1, rs, M, v⟩ := D
  have hr := rda h
  replace hl : fs.L.length = s.S.length := hl
  rw [← hl]
  refine g_enter0 T [] [] [blk a [.pointer (some ⟨f, 0, none⟩), .map T1.r, .int .i64 T1.sum, .map (some rs), v, .int .i64 (n : Int)] 100, packF (frF f fs)] Tryz.func17 rfl Tryz.ntmps17 rfl (Rds.cons hr.b (.cons hr.f .nil)).kn ?_
  refine gk_rowR (g := a) mE ?_
  (repeat (refine gG ?_; try intro _))
  refine g_mv rfl ?_; refine mv_call_bel (fun w hk => llen_any f fs w (hk.rR (φ := packF (frF f fs)) mE) (by omega)) rfl rfl rfl rfl rfl (by kernel_rfl) ?_
  (repeat (refine gG ?_; try intro _))
  refine gk_ret hT rfl rfl (.tmp rfl .nil) (fun w' hk => ?_)
  exact ⟨rfl, hk.toBelow⟩
theorem anew_any (n : Nat) (w : World) (hn : n ≤ 4096) : Calls Tryz.prog 25 [.int .i64 (n : Int)].toArray w (Ret (fun q : Nat × AlD => AlI n q.2 ⟨iota n, [], [], []⟩) (fun q => .tuple #[.pointer (some ⟨q.1, 0, none⟩), .int .i64 0]) (fun q => [alF q.1 n q.2 ⟨iota n, [], [], []⟩]) w) := by
  refine g_enter0 T [] [] [] Tryz.func25 rfl Tryz.ntmps25 rfl (Kn.start _) ?_
  (repeat (refine gG ?_; try intro _))
  refine g_mv rfl ?_; refine mv_call_rt (fun w hk => lnew_any n w hn) rfl rfl rfl rfl rfl (by kernel_rfl) (fun _ => rfl) (fun q hq => ?_)
  obtain ⟨f, fs⟩ := q
  dsimp only at hq ⊢
  (repeat' (first | (refine gG ?_; try intro _) | ((first | refine g_split rfl rfl tE (fun _ => ?_) (fun _ => ?_) | refine gk_cond rfl rfl tE (fun _ => ?_) (fun _ => ?_)) <;> (try first | (exfalso; omega; done) | (rename_i hx; exact absurd rfl hx) | (rename_i hx; cases hx; done)))))
  refine g_mv rfl (mv_makeMapG rfl (Value.int .u32) rfl (fun rs => ?_))
  (repeat (refine gG ?_; try intro _))
  rename_i a
  refine gk_own 0 26 1 (IE .u32) ?_
  refine gk_triv (moF none []) (fun w => rfl) (fun b h => h) ?_
  obtain ⟨v, hv⟩ : ∃ v, v = Value.slice none 0 0 := ⟨_, rfl⟩
  refine gk_pack (tbL2 a (⟨.pointer (some ⟨f, 0, none⟩), .map (some rs), .slice none 0 0, .int .i64 (n : Int)⟩ : XA) ⟨none, [], 0⟩) [packF (frF f fs), mpk rs (Value.int .u32) [], own 0 26 1 (.slice none 0 0) (IE .u32) []] sA ?_
  refine gk_pack (alL a n ⟨f, fs, ⟨none, [], 0⟩, rs, [], .slice none 0 0⟩ ⟨iota n, [], [], []⟩) [] sA ?_
  refine gk_ret hT rfl rfl (.tmp rfl (.tmp rfl .nil)) (fun w' hk => ?_)
  exact Ret.mk ((a, ⟨f, fs, ⟨none, [], 0⟩, rs, [], .slice none 0 0⟩) : Nat × AlD) ⟨alp_new n, hq, ⟨fun _ => rfl, rfl, MapIs.nil.congr fun k => by simp [cntV], by simp⟩, MapIs.nil.congr fun k => by simp [uV]⟩ rfl hk sA
end Go.Proofs.YtaghmffgoomebaaGreat.Al
namespace Go.Proofs.YtaghmffgoomebaaGreat.Al
open Go.RowKit Mem Gx KyU Dd Rf Hp
set_option linter.unusedVariables false
set_option linter.unusedSimpArgs false
set_option maxRecDepth 100000
set_option maxHeartbeats 2000000
def takeA (s : AlS) : AlS × Int × Int := match s.S with
  | [] => (s, 0, 30)
  | x :: S' => (⟨S', s.l ++ [x], s.U, s.L⟩, x, 0)
theorem atake_any (a n : Nat) (D : AlD) (s : AlS) (w : World) (hl9 : s.l.length < 1000) (hI : AlI n D s) (h : Rd1 w (alF a n D s)) :
    Calls Tryz.prog 71 [.pointer (some ⟨a, 0, none⟩)].toArray w (RetM (alF a n D s) (fun r : AlD × AlS × Int × Int => AlI n r.1 r.2.1 ∧ r.2 = takeA s) (fun r => .tuple #[.int .u32 r.2.2.1, .int .i64 r.2.2.2]) (fun r => alF a n r.1 r.2.1) w) := by
  obtain ⟨f, fs, T1, rs, M, v⟩ := D
  obtain ⟨S, l, U, L⟩ := s
  obtain ⟨hp, hf, hr, hu⟩ := hI
  dsimp only at hp hf hr hu hl9
  refine g_enter0 T (finE (alF a n ⟨f, fs, T1, rs, M, v⟩ ⟨S, l, U, L⟩) w) [tbF2 a (⟨.pointer (some ⟨f, 0, none⟩), .map (some rs), v, .int .i64 (n : Int)⟩ : XA) T1, packF (frF f fs), mpk rs (Value.int .u32) M, own 0 26 1 v (IE .u32) L] [] Tryz.func71 rfl Tryz.ntmps71 rfl (Kn.startP h (fun b hb => (finE_mem h.2 b).2 hb) (fun _ h => by cases h)) ?_
  rw [show tbF2 a (⟨.pointer (some ⟨f, 0, none⟩), .map (some rs), v, .int .i64 (n : Int)⟩ : XA) T1 = packF [blk a [.pointer (some ⟨f, 0, none⟩), .map T1.r, .int .i64 T1.sum, .map (some rs), v, .int .i64 (n : Int)] 100, moF T1.r T1.M] from rfl]
  refine gk_unpack (l := [blk a [.pointer (some ⟨f, 0, none⟩), .map T1.r, .int .i64 T1.sum, .map (some rs), v, .int .i64 (n : Int)] 100, moF T1.r T1.M]) (by repeat (first | with_reducible exact Sel.here | with_reducible apply Sel.there)) ?_
  (repeat (refine gG ?_; try intro _))
  refine g_mv rfl (mv_call_mod (φ := packF (frF f fs)) (ψ := fun r : FrS × Int × Bool => packF (frF f r.1)) (fun w1 hk => by exact ltake_any f fs S w1 hf (hk.rO (φ := packF (frF f fs)) mE)) rfl rfl rfl rfl rfl (by kernel_rfl) uD (fun r hr2 => ?_))
  obtain ⟨fs', b, ok⟩ := r
  obtain ⟨hf', hv⟩ := hr2
  dsimp only at hf' hv ⊢
  cases S with
  | nil =>
    obtain ⟨rfl, rfl⟩ : b = 0 ∧ ok = false := by cases hv; exact ⟨rfl, rfl⟩
    (repeat (refine gG ?_; try intro _))
    refine gk_pack (tbL2 a (⟨.pointer (some ⟨f, 0, none⟩), .map (some rs), v, .int .i64 (n : Int)⟩ : XA) T1) [packF (frF f fs'), mpk rs (Value.int .u32) M, own 0 26 1 v (IE .u32) L] sA ?_
    refine gk_ret hT rfl rfl (.tmp rfl (.tmp rfl .nil)) (fun w' hk => ?_)
    exact RetM.mkP (ll := fun r : AlD × AlS × Int × Int => alL a n r.1 r.2.1) ((⟨f, fs', T1, rs, M, v⟩, ⟨[], l, U, L⟩, 0, 30) : AlD × AlS × Int × Int) ⟨⟨hp, hf', hr, hu⟩, rfl⟩ rfl hk (fun b hb => (finE_mem h.2 b).1 hb) (show SelAll [tbF2 a (⟨.pointer (some ⟨f, 0, none⟩), .map (some rs), v, .int .i64 (n : Int)⟩ : XA) T1, packF (frF f fs'), mpk rs (Value.int .u32) M, own 0 26 1 v (IE .u32) L] _ from sA)
  | cons x S' =>
    obtain ⟨rfl, rfl⟩ : b = x ∧ ok = true := by cases hv; exact ⟨rfl, rfl⟩
    have hx := hp.pos (b := b) (.inl (.head _))
    (repeat (refine gG ?_; try intro _))
    refine g_pack (tbL2 a (⟨.pointer (some ⟨f, 0, none⟩), .map (some rs), v, .int .i64 (n : Int)⟩ : XA) T1) [packF (frF f fs'), mpk rs (Value.int .u32) M, own 0 26 1 v (IE .u32) L] sA ?_
    refine g_mv rfl (mv_call_mod (φ := tbF2 a (⟨.pointer (some ⟨f, 0, none⟩), .map (some rs), v, .int .i64 (n : Int)⟩ : XA) T1) (ψ := fun T' : TabS => tbF2 a (⟨.pointer (some ⟨f, 0, none⟩), .map (some rs), v, .int .i64 (n : Int)⟩ : XA) T') (fun w1 hk => by exact hold2_any a (⟨.pointer (some ⟨f, 0, none⟩), .map (some rs), v, .int .i64 (n : Int)⟩ : XA) T1 l b w1 (by omega) hl9 hr (hk.rO (φ := tbF2 a (⟨.pointer (some ⟨f, 0, none⟩), .map (some rs), v, .int .i64 (n : Int)⟩ : XA) T1) mE)) rfl rfl rfl rfl rfl (by kernel_rfl) uD (fun T' hT' => ?_))
    (repeat (refine gG ?_; try intro _))
    refine gk_ret hT rfl rfl (.tmp rfl (.tmp rfl .nil)) (fun w' hk => ?_)
    exact RetM.mkP (ll := fun r : AlD × AlS × Int × Int => alL a n r.1 r.2.1) ((⟨f, fs', T', rs, M, v⟩, ⟨S', l ++ [b], U, L⟩, b, 0) : AlD × AlS × Int × Int) ⟨⟨hp.take, hf', hT', hu⟩, rfl⟩ rfl hk (fun b hb => (finE_mem h.2 b).1 hb) (show SelAll [tbF2 a (⟨.pointer (some ⟨f, 0, none⟩), .map (some rs), v, .int .i64 (n : Int)⟩ : XA) T', packF (frF f fs'), mpk rs (Value.int .u32) M, own 0 26 1 v (IE .u32) L] _ from sA)
theorem lk_u {M : List (Int × Value)} {U : List Int} (hu : MapIs M (uV U)) (b : Int) : ((lkG b M 0).map (·.2)).getD (.int .i64 0) = .int .i64 (if b ∈ U then 1 else 0) := by
  have h1 := hu.get b
  unfold mg at h1
  rw [h1]
  unfold uV
  split <;> rfl
end Go.Proofs.YtaghmffgoomebaaGreat.Al
