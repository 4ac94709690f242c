/- Alloc: New, Len, Free, Late, Count, Held. -/
import Derived.Test.YteajefmnbalofaaAl1
namespace Go.Proofs.Yteajefmnbalofaa.Al
open Go.RowKit Mem Gx KyU Dd Rf Hp
set_option linter.unusedVariables false
set_option linter.unusedSimpArgs false
set_option maxRecDepth 100000
set_option maxHeartbeats 1000000
/-- What may be read of an Alloc. -/
structure RdA (a n f : Nat) (fs : FrS) (T1 : TabS) (rs : Nat) (M : List (Int × Value)) (v : Value) (L : List Int) (w : World) : Prop where
  b : Rd1 w (blk a [.pointer (some ⟨f, 0, none⟩), .map T1.r, .int .i64 T1.sum, .map (some rs), v, .int .i64 (n : Int)] 102)
  t : Rd1 w (tbF2 a (⟨.pointer (some ⟨f, 0, none⟩), .map (some rs), v, .int .i64 (n : Int)⟩ : XA) T1)
  f : Rd1 w (packF (frF f fs))
  m : Rd1 w (mpk rs (Value.int .u32) M)
  o : Rd1 w (own 0 60 1 v (IE .u32) L)
theorem rda {a n : Nat} {f : Nat} {fs : FrS} {T1 : TabS} {rs : Nat} {M : List (Int × Value)} {v : Value} {s : AlS} {w : World} (h : Rd1 w (alF a n ⟨f, fs, T1, rs, M, v⟩ s)) : RdA a n f fs T1 rs M v s.L w := by
  have ht : Rd1 w (tbF2 a (⟨.pointer (some ⟨f, 0, none⟩), .map (some rs), v, .int .i64 (n : Int)⟩ : XA) T1) := h.unpack (.head _)
  exact ⟨ht.unpack (.head _), ht, h.unpack (.tail _ (.head _)), h.unpack (.tail _ (.tail _ (.head _))), h.unpack (.tail _ (.tail _ (.tail _ (.head _))))⟩
theorem alen_any (a n : Nat) (D : AlD) (s : AlS) (w : World) (h : Rd1 w (alF a n D s)) :
    Calls Try.prog 115 [.pointer (some ⟨a, 0, none⟩)].toArray w fun e w' => e = .returned (.int .i64 (n : Int)) ∧ Below w.heap.size w w' := by
  obtain ⟨f, fs, T1, rs, M, v⟩ := D
  have hr := rda h
  refine g_enter0 T [] [] [blk a [.pointer (some ⟨f, 0, none⟩), .map T1.r, .int .i64 T1.sum, .map (some rs), v, .int .i64 (n : Int)] 102] Try.func115 rfl Try.ntmps115 rfl (Rds.cons hr.b .nil).kn ?_
  refine gk_rowR (g := a) mE ?_
  (repeat (refine gG ?_; try intro _))
  refine gk_ret hT rfl rfl (.tmp rfl .nil) (fun w' hk => ?_)
  exact ⟨rfl, hk.toBelow⟩
theorem afree_any (a n : Nat) (D : AlD) (s : AlS) (w : World) (hI : AlI n D s) (h : Rd1 w (alF a n D s)) :
    Calls Try.prog 25 [.pointer (some ⟨a, 0, none⟩)].toArray w fun e w' => e = .returned (.int .i64 (s.S.length : Int)) ∧ Below w.heap.size w w' := by
  have hl := hI.fr.l.length_eq
  have h9 := hI.fr.len
  obtain ⟨f, fs, T1, rs, M, v⟩ := D
  have hr := rda h
  replace hl : fs.L.length = s.S.length := hl
  rw [← hl]
  refine g_enter0 T [] [] [blk a [.pointer (some ⟨f, 0, none⟩), .map T1.r, .int .i64 T1.sum, .map (some rs), v, .int .i64 (n : Int)] 102, packF (frF f fs)] Try.func25 rfl Try.ntmps25 rfl (Rds.cons hr.b (.cons hr.f .nil)).kn ?_
  refine gk_rowR (g := a) mE ?_
  (repeat (refine gG ?_; try intro _))
  refine g_mv rfl ?_; refine mv_call_bel (fun w hk => llen_any f fs w (hk.rR (φ := packF (frF f fs)) mE) (by omega)) rfl rfl rfl rfl rfl (by kernel_rfl) ?_
  (repeat (refine gG ?_; try intro _))
  refine gk_ret hT rfl rfl (.tmp rfl .nil) (fun w' hk => ?_)
  exact ⟨rfl, hk.toBelow⟩
theorem anew_bad (n : Int) (w : World) (hn : n < 0 ∨ 4096 < n) : Calls Try.prog 46 [.int .i64 n].toArray w fun e w' => e = .returned (.tuple #[.pointer none, .int .i64 10]) ∧ Below w.heap.size w w' := by
  refine g_enter0 T [] [] [] Try.func46 rfl Try.ntmps46 rfl (Kn.start _) ?_
  (repeat' (first | (refine gG ?_; try intro _) | (refine g_mv rfl ?_; first | refine mv_call_bel (fun w hk => lnew_bad n w hn) rfl rfl rfl rfl rfl (by kernel_rfl) ?_) | ((first | refine g_split rfl rfl tE (fun _ => ?_) (fun _ => ?_) | refine gk_cond rfl rfl tE (fun _ => ?_) (fun _ => ?_)) <;> (try first | (exfalso; omega; done) | (rename_i hx; exact absurd rfl hx) | (rename_i hx; cases hx; done)))))
  refine gk_ret hT rfl rfl (.tmp rfl (.tmp rfl .nil)) (fun w' hk => ?_)
  exact ⟨rfl, hk.toBelow⟩
theorem anew_any (n : Nat) (w : World) (hn : n ≤ 4096) : Calls Try.prog 46 [.int .i64 (n : Int)].toArray w (Ret (fun q : Nat × AlD => AlI n q.2 ⟨iota n, [], [], []⟩) (fun q => .tuple #[.pointer (some ⟨q.1, 0, none⟩), .int .i64 0]) (fun q => [alF q.1 n q.2 ⟨iota n, [], [], []⟩]) w) := by
  refine g_enter0 T [] [] [] Try.func46 rfl Try.ntmps46 rfl (Kn.start _) ?_
  (repeat (refine gG ?_; try intro _))
  refine g_mv rfl ?_; refine mv_call_rt (fun w hk => lnew_any n w hn) rfl rfl rfl rfl rfl (by kernel_rfl) (fun _ => rfl) (fun q hq => ?_)
  obtain ⟨f, fs⟩ := q
  dsimp only at hq ⊢
  (repeat' (first | (refine gG ?_; try intro _) | ((first | refine g_split rfl rfl tE (fun _ => ?_) (fun _ => ?_) | refine gk_cond rfl rfl tE (fun _ => ?_) (fun _ => ?_)) <;> (try first | (exfalso; omega; done) | (rename_i hx; exact absurd rfl hx) | (rename_i hx; cases hx; done)))))
  refine g_mv rfl (mv_makeMapG rfl (Value.int .u32) rfl (fun rs => ?_))
  (repeat (refine gG ?_; try intro _))
  rename_i a
  refine gk_own 0 60 1 (IE .u32) ?_
  refine gk_triv (moF none []) (fun w => rfl) (fun b h => h) ?_
  obtain ⟨v, hv⟩ : ∃ v, v = Value.slice none 0 0 := ⟨_, rfl⟩
  refine gk_pack (tbL2 a (⟨.pointer (some ⟨f, 0, none⟩), .map (some rs), .slice none 0 0, .int .i64 (n : Int)⟩ : XA) ⟨none, [], 0⟩) [packF (frF f fs), mpk rs (Value.int .u32) [], own 0 60 1 (.slice none 0 0) (IE .u32) []] sA ?_
  refine gk_pack (alL a n ⟨f, fs, ⟨none, [], 0⟩, rs, [], .slice none 0 0⟩ ⟨iota n, [], [], []⟩) [] sA ?_
  refine gk_ret hT rfl rfl (.tmp rfl (.tmp rfl .nil)) (fun w' hk => ?_)
  exact Ret.mk ((a, ⟨f, fs, ⟨none, [], 0⟩, rs, [], .slice none 0 0⟩) : Nat × AlD) ⟨alp_new n, hq, ⟨fun _ => rfl, rfl, MapIs.nil.congr fun k => by simp [cntV], by simp⟩, MapIs.nil.congr fun k => by simp [uV]⟩ rfl hk sA
end Go.Proofs.Yteajefmnbalofaa.Al

