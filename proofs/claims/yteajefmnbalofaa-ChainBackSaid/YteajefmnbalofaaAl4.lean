/- Alloc: Take, Hold, Drop, Adopt. -/
import Derived.Test.YteajefmnbalofaaAl3
namespace Go.Proofs.Yteajefmnbalofaa.Al
open Go.RowKit Mem Gx KyU Dd Rf Hp
set_option linter.unusedVariables false
set_option linter.unusedSimpArgs false
set_option maxRecDepth 100000
set_option maxHeartbeats 2000000
def takeA (s : AlS) : AlS × Int × Int := match s.S with
  | [] => (s, 0, 30)
  | x :: S' => (⟨S', s.l ++ [x], s.U, s.L⟩, x, 0)
theorem atake_any (a n : Nat) (D : AlD) (s : AlS) (w : World) (hl9 : s.l.length < 1000) (hI : AlI n D s) (h : Rd1 w (alF a n D s)) :
    Calls Try.prog 22 [.pointer (some ⟨a, 0, none⟩)].toArray w (RetM (alF a n D s) (fun r : AlD × AlS × Int × Int => AlI n r.1 r.2.1 ∧ r.2 = takeA s) (fun r => .tuple #[.int .u32 r.2.2.1, .int .i64 r.2.2.2]) (fun r => alF a n r.1 r.2.1) w) := by
  obtain ⟨f, fs, T1, rs, M, v⟩ := D
  obtain ⟨S, l, U, L⟩ := s
  obtain ⟨hp, hf, hr, hu⟩ := hI
  dsimp only at hp hf hr hu hl9
  refine g_enter0 T (finE (alF a n ⟨f, fs, T1, rs, M, v⟩ ⟨S, l, U, L⟩) w) [tbF2 a (⟨.pointer (some ⟨f, 0, none⟩), .map (some rs), v, .int .i64 (n : Int)⟩ : XA) T1, packF (frF f fs), mpk rs (Value.int .u32) M, own 0 60 1 v (IE .u32) L] [] Try.func22 rfl Try.ntmps22 rfl (Kn.startP h (fun b hb => (finE_mem h.2 b).2 hb) (fun _ h => by cases h)) ?_
  rw [show tbF2 a (⟨.pointer (some ⟨f, 0, none⟩), .map (some rs), v, .int .i64 (n : Int)⟩ : XA) T1 = packF [blk a [.pointer (some ⟨f, 0, none⟩), .map T1.r, .int .i64 T1.sum, .map (some rs), v, .int .i64 (n : Int)] 102, moF T1.r T1.M] from rfl]
  refine gk_unpack (l := [blk a [.pointer (some ⟨f, 0, none⟩), .map T1.r, .int .i64 T1.sum, .map (some rs), v, .int .i64 (n : Int)] 102, moF T1.r T1.M]) (by repeat (first | with_reducible exact Sel.here | with_reducible apply Sel.there)) ?_
  (repeat (refine gG ?_; try intro _))
  refine g_mv rfl (mv_call_mod (φ := packF (frF f fs)) (ψ := fun r : FrS × Int × Bool => packF (frF f r.1)) (fun w1 hk => by exact ltake_any f fs S w1 hf (hk.rO (φ := packF (frF f fs)) mE)) rfl rfl rfl rfl rfl (by kernel_rfl) (by intro _; first | ((repeat (first | with_reducible exact Upd.here _ | with_reducible apply Upd.there)); done) | ((repeat (first | exact Upd.here _ | apply Upd.there)); done) | fail) (fun r hr2 => ?_))
  obtain ⟨fs', b, ok⟩ := r
  obtain ⟨hf', hv⟩ := hr2
  dsimp only at hf' hv ⊢
  cases S with
  | nil =>
    obtain ⟨rfl, rfl⟩ : b = 0 ∧ ok = false := by cases hv; exact ⟨rfl, rfl⟩
    (repeat (refine gG ?_; try intro _))
    refine gk_pack (tbL2 a (⟨.pointer (some ⟨f, 0, none⟩), .map (some rs), v, .int .i64 (n : Int)⟩ : XA) T1) [packF (frF f fs'), mpk rs (Value.int .u32) M, own 0 60 1 v (IE .u32) L] sA ?_
    refine gk_ret hT rfl rfl (.tmp rfl (.tmp rfl .nil)) (fun w' hk => ?_)
    exact RetM.mkP (ll := fun r : AlD × AlS × Int × Int => alL a n r.1 r.2.1) ((⟨f, fs', T1, rs, M, v⟩, ⟨[], l, U, L⟩, 0, 30) : AlD × AlS × Int × Int) ⟨⟨hp, hf', hr, hu⟩, rfl⟩ rfl hk (fun b hb => (finE_mem h.2 b).1 hb) (show SelAll [tbF2 a (⟨.pointer (some ⟨f, 0, none⟩), .map (some rs), v, .int .i64 (n : Int)⟩ : XA) T1, packF (frF f fs'), mpk rs (Value.int .u32) M, own 0 60 1 v (IE .u32) L] _ from sA)
  | cons x S' =>
    obtain ⟨rfl, rfl⟩ : b = x ∧ ok = true := by cases hv; exact ⟨rfl, rfl⟩
    have hx := hp.pos (b := b) (.inl (.head _))
    (repeat (refine gG ?_; try intro _))
    refine g_pack (tbL2 a (⟨.pointer (some ⟨f, 0, none⟩), .map (some rs), v, .int .i64 (n : Int)⟩ : XA) T1) [packF (frF f fs'), mpk rs (Value.int .u32) M, own 0 60 1 v (IE .u32) L] sA ?_
    refine g_mv rfl (mv_call_mod (φ := tbF2 a (⟨.pointer (some ⟨f, 0, none⟩), .map (some rs), v, .int .i64 (n : Int)⟩ : XA) T1) (ψ := fun T' : TabS => tbF2 a (⟨.pointer (some ⟨f, 0, none⟩), .map (some rs), v, .int .i64 (n : Int)⟩ : XA) T') (fun w1 hk => by exact hold2_any a (⟨.pointer (some ⟨f, 0, none⟩), .map (some rs), v, .int .i64 (n : Int)⟩ : XA) T1 l b w1 (by omega) hl9 hr (hk.rO (φ := tbF2 a (⟨.pointer (some ⟨f, 0, none⟩), .map (some rs), v, .int .i64 (n : Int)⟩ : XA) T1) mE)) rfl rfl rfl rfl rfl (by kernel_rfl) (by intro _; first | ((repeat (first | with_reducible exact Upd.here _ | with_reducible apply Upd.there)); done) | ((repeat (first | exact Upd.here _ | apply Upd.there)); done) | fail) (fun T' hT' => ?_))
    (repeat (refine gG ?_; try intro _))
    refine gk_ret hT rfl rfl (.tmp rfl (.tmp rfl .nil)) (fun w' hk => ?_)
    exact RetM.mkP (ll := fun r : AlD × AlS × Int × Int => alL a n r.1 r.2.1) ((⟨f, fs', T', rs, M, v⟩, ⟨S', l ++ [b], U, L⟩, b, 0) : AlD × AlS × Int × Int) ⟨⟨hp.take, hf', hT', hu⟩, rfl⟩ rfl hk (fun b hb => (finE_mem h.2 b).1 hb) (show SelAll [tbF2 a (⟨.pointer (some ⟨f, 0, none⟩), .map (some rs), v, .int .i64 (n : Int)⟩ : XA) T', packF (frF f fs'), mpk rs (Value.int .u32) M, own 0 60 1 v (IE .u32) L] _ from sA)
/-- What Drop leaves. -/
def dropA (s : AlS) (b : Int) : AlS × Int := if s.l.count b = 0 then (s, 60) else if 1 < s.l.count b then (⟨s.S, s.l.erase b, s.U, s.L⟩, 0) else if b ∈ s.U then (⟨s.S, s.l.erase b, s.U, s.L ++ [b]⟩, 0) else (⟨ins b s.S, s.l.erase b, s.U, s.L⟩, 0)
theorem lk_u {M : List (Int × Value)} {U : List Int} (hu : MapIs M (uV U)) (b : Int) : ((lkG b M 0).map (·.2)).getD (.int .i64 0) = .int .i64 (if b ∈ U then 1 else 0) := by
  have h1 := hu.get b
  unfold mg at h1
  rw [h1]
  unfold uV
  split <;> rfl
end Go.Proofs.Yteajefmnbalofaa.Al

