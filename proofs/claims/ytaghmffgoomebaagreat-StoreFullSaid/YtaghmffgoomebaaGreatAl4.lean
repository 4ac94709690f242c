/- Alloc: what there is, plain. Alloc: New, Len, Free, Late, Count, Held. Alloc: Take, Hold, Drop, Adopt. -/
import Derived.Test.YtaghmffgoomebaaGreatAl2
import Derived.Test.YtaghmffgoomebaaGreatAl0
namespace Go.Proofs.YtaghmffgoomebaaGreat.Al
open Go.RowKit Mem Gx KyU Dd Rf Hp
set_option linter.unusedVariables false
set_option linter.unusedSimpArgs false
set_option maxRecDepth 100000
/-- What an Alloc says: free, held, sure, waiting. -/
structure AlS where
  S : List Int
  l : List Int
  U : List Int
  L : List Int
/-- Each block is free, or held, or waits. -/
structure AlP (n : Nat) (s : AlS) : Prop where
  rng : ∀ b, (b ∈ s.S ∨ b ∈ s.l ∨ b ∈ s.L) ↔ (1 ≤ b ∧ b ≤ n)
  fl : ∀ b, b ∈ s.S → b ∉ s.l
  fL : ∀ b, b ∈ s.S → b ∉ s.L
  lL : ∀ b, b ∈ s.l → b ∉ s.L
  sorted : s.S.Pairwise (· < ·)
  nd : s.L.Nodup
  sub : ∀ b, b ∈ s.L → b ∈ s.U
def uV (U : List Int) (k : Int) : Option Value := if k ∈ U then some (.int .i64 1) else none
/-- Where it lies. -/
structure AlD where
  f : Nat
  fs : FrS
  T : TabS
  rs : Nat
  M : List (Int × Value)
  v : Value
structure AlI (n : Nat) (D : AlD) (s : AlS) : Prop where
  p : AlP n s
  fr : FrOk D.fs s.S
  rf : RfI D.T s.l
  u : MapIs D.M (uV s.U)
abbrev alX (n : Nat) (D : AlD) : XA := ⟨.pointer (some ⟨D.f, 0, none⟩), .map (some D.rs), D.v, .int .i64 (n : Int)⟩
def alL (a n : Nat) (D : AlD) (s : AlS) : List Fact := [tbF2 a (alX n D) D.T, packF (frF D.f D.fs), mpk D.rs (Value.int .u32) D.M, own 0 26 1 D.v (IE .u32) s.L]
abbrev alF (a n : Nat) (D : AlD) (s : AlS) : Fact := packF (alL a n D s)
theorem AlP.len {n : Nat} {s : AlS} (h : AlP n s) : s.S.length + (setP s.l).length + s.L.length = n := by
  have nS : s.S.Nodup := h.sorted.imp fun h => by omega
  have nl : (setP s.l).Nodup := nodup_of_rise (setP_rise s.l)
  have nd : (s.S ++ (setP s.l ++ s.L)).Nodup := by
    rw [List.nodup_append, List.nodup_append]
    refine ⟨nS, ⟨nl, h.nd, fun a ha b hb e => ?_⟩, fun a ha b hb e => ?_⟩
    · subst e; exact h.lL a (mem_setP.1 ha) hb
    · subst e
      rcases List.mem_append.1 hb with hb | hb
      · exact h.fl a ha (mem_setP.1 hb)
      · exact h.fL a ha hb
  have hp : (s.S ++ (setP s.l ++ s.L)).Perm (iota n) := (List.perm_ext_iff_of_nodup nd ((iota_sorted n).imp fun h => by omega)).2 fun b => by
    rw [List.mem_append, List.mem_append, mem_setP, h.rng b]
    refine ⟨fun hb => ?_, fun hb => iota_mem hb⟩
    unfold iota
    rw [List.mem_map]
    exact ⟨(b - 1).toNat, by rw [List.mem_range]; omega, by omega⟩
  have := hp.length_eq
  rw [iota_len, List.length_append, List.length_append] at this
  omega
theorem AlP.pos {n : Nat} {s : AlS} (h : AlP n s) {b : Int} (hb : b ∈ s.S ∨ b ∈ s.l ∨ b ∈ s.L) : 1 ≤ b ∧ b ≤ n := (h.rng b).1 hb
theorem alp_new (n : Nat) : AlP n ⟨iota n, [], [], []⟩ := ⟨fun b => by
    constructor
    · rintro (h | h | h)
      · exact iota_mem h
      · cases h
      · cases h
    · intro h
      refine .inl ?_
      show b ∈ iota n
      unfold iota
      rw [List.mem_map]
      exact ⟨(b - 1).toNat, by rw [List.mem_range]; omega, by omega⟩, fun _ _ h => (by cases h), fun _ _ h => (by cases h), fun _ h => (by cases h), iota_sorted n, List.nodup_nil, fun _ h => (by cases h)⟩
/-- Take: the lowest one. -/
theorem AlP.take {n : Nat} {S' l U L : List Int} {x : Int} (h : AlP n ⟨x :: S', l, U, L⟩) : AlP n ⟨S', l ++ [x], U, L⟩ := by
  have hx : x ∉ S' := fun hx => by have := (List.pairwise_cons.1 h.sorted).1 x hx; omega
  refine ⟨fun b => ?_, fun b hb hb2 => ?_, fun b hb => h.fL b (.tail _ hb), fun b hb => ?_, (List.pairwise_cons.1 h.sorted).2, h.nd, h.sub⟩
  · rw [← h.rng b, List.mem_append, List.mem_singleton, List.mem_cons]
    constructor
    · rintro (h1 | (h1 | h1) | h1)
      · exact .inl (.inr h1)
      · exact .inr (.inl h1)
      · exact .inl (.inl h1)
      · exact .inr (.inr h1)
    · rintro ((h1 | h1) | h1 | h1)
      · exact .inr (.inl (.inr h1))
      · exact .inl h1
      · exact .inr (.inl (.inl h1))
      · exact .inr (.inr h1)
  · rcases List.mem_append.1 hb2 with hb2 | hb2
    · exact h.fl b (.tail _ hb) hb2
    · obtain rfl := List.mem_singleton.1 hb2; exact hx hb
  · rcases List.mem_append.1 hb with hb | hb
    · exact h.lL b hb
    · obtain rfl := List.mem_singleton.1 hb; exact h.fL b (.head _)
/-- A block that is held is held once more. -/
theorem AlP.hold {n : Nat} {S l U L : List Int} {b : Int} (h : AlP n ⟨S, l, U, L⟩) (hb : b ∈ l) : AlP n ⟨S, l ++ [b], U, L⟩ := by
  have e : ∀ x, x ∈ l ++ [b] ↔ x ∈ l := fun x => by
    rw [List.mem_append, List.mem_singleton]
    exact ⟨fun h => h.elim id fun e => e ▸ hb, .inl⟩
  exact ⟨fun x => by rw [← h.rng x]; show (x ∈ S ∨ x ∈ l ++ [b] ∨ x ∈ L) ↔ _; rw [e], fun x hx h2 => h.fl x hx ((e x).1 h2), h.fL, fun x hx => h.lL x ((e x).1 hx), h.sorted, h.nd, h.sub⟩
end Go.Proofs.YtaghmffgoomebaaGreat.Al
namespace Go.Proofs.YtaghmffgoomebaaGreat.Al
open Go.RowKit Mem Gx KyU Dd Rf Hp
set_option linter.unusedVariables false
set_option linter.unusedSimpArgs false
set_option maxRecDepth 100000
set_option maxHeartbeats 1000000
/-- What may be read of an Alloc. -/
structure RdA (a n f : Nat) (fs : FrS) (T1 : TabS) (rs : Nat) (M : List (Int × Value)) (v : Value) (L : List Int) (w : World) : Prop where
  b : Rd1 w (blk a [.pointer (some ⟨f, 0, none⟩), .map T1.r, .int .i64 T1.sum, .map (some rs), v, .int .i64 (n : Int)] 100)
  t : Rd1 w (tbF2 a (⟨.pointer (some ⟨f, 0, none⟩), .map (some rs), v, .int .i64 (n : Int)⟩ : XA) T1)
  f : Rd1 w (packF (frF f fs))
  m : Rd1 w (mpk rs (Value.int .u32) M)
  o : Rd1 w (own 0 26 1 v (IE .u32) L)
theorem rda {a n : Nat} {f : Nat} {fs : FrS} {T1 : TabS} {rs : Nat} {M : List (Int × Value)} {v : Value} {s : AlS} {w : World} (h : Rd1 w (alF a n ⟨f, fs, T1, rs, M, v⟩ s)) : RdA a n f fs T1 rs M v s.L w := by
  have ht : Rd1 w (tbF2 a (⟨.pointer (some ⟨f, 0, none⟩), .map (some rs), v, .int .i64 (n : Int)⟩ : XA) T1) := h.unpack (.head _)
  exact ⟨ht.unpack (.head _), ht, h.unpack (.tail _ (.head _)), h.unpack (.tail _ (.tail _ (.head _))), h.unpack (.tail _ (.tail _ (.tail _ (.head _))))⟩
theorem afree_any (a n : Nat) (D : AlD) (s : AlS) (w : World) (hI : AlI n D s) (h : Rd1 w (alF a n D s)) :
    Calls Tryz.prog 17 [.pointer (some ⟨a, 0, none⟩)].toArray w fun e w' => e = .returned (.int .i64 (s.S.length : Int)) ∧ Below w.heap.size w w' := by
  have hl := hI.fr.l.length_eq
  have h9 := hI.fr.len
  obtain ⟨f, fs, T1, rs, M, v⟩ := D
  have hr := rda h
  replace hl : fs.L.length = s.S.length := hl
  rw [← hl]
  refine g_enter0 T [] [] [blk a [.pointer (some ⟨f, 0, none⟩), .map T1.r, .int .i64 T1.sum, .map (some rs), v, .int .i64 (n : Int)] 100, packF (frF f fs)] Tryz.func17 rfl Tryz.ntmps17 rfl (Rds.cons hr.b (.cons hr.f .nil)).kn ?_
  refine gk_rowR (g := a) mE ?_
  (repeat (refine gG ?_; try intro _))
  refine g_mv rfl ?_; refine mv_call_bel (fun w hk => llen_any f fs w (hk.rR (φ := packF (frF f fs)) mE) (by omega)) rfl rfl rfl rfl rfl (by kernel_rfl) ?_
  (repeat (refine gG ?_; try intro _))
  refine gk_ret hT rfl rfl (.tmp rfl .nil) (fun w' hk => ?_)
  exact ⟨rfl, hk.toBelow⟩
theorem anew_any (n : Nat) (w : World) (hn : n ≤ 4096) : Calls Tryz.prog 25 [.int .i64 (n : Int)].toArray w (Ret (fun q : Nat × AlD => AlI n q.2 ⟨iota n, [], [], []⟩) (fun q => .tuple #[.pointer (some ⟨q.1, 0, none⟩), .int .i64 0]) (fun q => [alF q.1 n q.2 ⟨iota n, [], [], []⟩]) w) := by
  refine g_enter0 T [] [] [] Tryz.func25 rfl Tryz.ntmps25 rfl (Kn.start _) ?_
  (repeat (refine gG ?_; try intro _))
  refine g_mv rfl ?_; refine mv_call_rt (fun w hk => lnew_any n w hn) rfl rfl rfl rfl rfl (by kernel_rfl) (fun _ => rfl) (fun q hq => ?_)
  obtain ⟨f, fs⟩ := q
  dsimp only at hq ⊢
  (repeat' (first | (refine gG ?_; try intro _) | ((first | refine g_split rfl rfl tE (fun _ => ?_) (fun _ => ?_) | refine gk_cond rfl rfl tE (fun _ => ?_) (fun _ => ?_)) <;> (try first | (exfalso; omega; done) | (rename_i hx; exact absurd rfl hx) | (rename_i hx; cases hx; done)))))
  refine g_mv rfl (mv_makeMapG rfl (Value.int .u32) rfl (fun rs => ?_))
  (repeat (refine gG ?_; try intro _))
  rename_i a
  refine gk_own 0 26 1 (IE .u32) ?_
  refine gk_triv (moF none []) (fun w => rfl) (fun b h => h) ?_
  obtain ⟨v, hv⟩ : ∃ v, v = Value.slice none 0 0 := ⟨_, rfl⟩
  refine gk_pack (tbL2 a (⟨.pointer (some ⟨f, 0, none⟩), .map (some rs), .slice none 0 0, .int .i64 (n : Int)⟩ : XA) ⟨none, [], 0⟩) [packF (frF f fs), mpk rs (Value.int .u32) [], own 0 26 1 (.slice none 0 0) (IE .u32) []] sA ?_
  refine gk_pack (alL a n ⟨f, fs, ⟨none, [], 0⟩, rs, [], .slice none 0 0⟩ ⟨iota n, [], [], []⟩) [] sA ?_
  refine gk_ret hT rfl rfl (.tmp rfl (.tmp rfl .nil)) (fun w' hk => ?_)
  exact Ret.mk ((a, ⟨f, fs, ⟨none, [], 0⟩, rs, [], .slice none 0 0⟩) : Nat × AlD) ⟨alp_new n, hq, ⟨fun _ => rfl, rfl, MapIs.nil.congr fun k => by simp [cntV], by simp⟩, MapIs.nil.congr fun k => by simp [uV]⟩ rfl hk sA
end Go.Proofs.YtaghmffgoomebaaGreat.Al
namespace Go.Proofs.YtaghmffgoomebaaGreat.Al
open Go.RowKit Mem Gx KyU Dd Rf Hp
set_option linter.unusedVariables false
set_option linter.unusedSimpArgs false
set_option maxRecDepth 100000
set_option maxHeartbeats 2000000
def takeA (s : AlS) : AlS × Int × Int := match s.S with
  | [] => (s, 0, 30)
  | x :: S' => (⟨S', s.l ++ [x], s.U, s.L⟩, x, 0)
theorem atake_any (a n : Nat) (D : AlD) (s : AlS) (w : World) (hl9 : s.l.length < 1000) (hI : AlI n D s) (h : Rd1 w (alF a n D s)) :
    Calls Tryz.prog 71 [.pointer (some ⟨a, 0, none⟩)].toArray w (RetM (alF a n D s) (fun r : AlD × AlS × Int × Int => AlI n r.1 r.2.1 ∧ r.2 = takeA s) (fun r => .tuple #[.int .u32 r.2.2.1, .int .i64 r.2.2.2]) (fun r => alF a n r.1 r.2.1) w) := by
  obtain ⟨f, fs, T1, rs, M, v⟩ := D
  obtain ⟨S, l, U, L⟩ := s
  obtain ⟨hp, hf, hr, hu⟩ := hI
  dsimp only at hp hf hr hu hl9
  refine g_enter0 T (finE (alF a n ⟨f, fs, T1, rs, M, v⟩ ⟨S, l, U, L⟩) w) [tbF2 a (⟨.pointer (some ⟨f, 0, none⟩), .map (some rs), v, .int .i64 (n : Int)⟩ : XA) T1, packF (frF f fs), mpk rs (Value.int .u32) M, own 0 26 1 v (IE .u32) L] [] Tryz.func71 rfl Tryz.ntmps71 rfl (Kn.startP h (fun b hb => (finE_mem h.2 b).2 hb) (fun _ h => by cases h)) ?_
  rw [show tbF2 a (⟨.pointer (some ⟨f, 0, none⟩), .map (some rs), v, .int .i64 (n : Int)⟩ : XA) T1 = packF [blk a [.pointer (some ⟨f, 0, none⟩), .map T1.r, .int .i64 T1.sum, .map (some rs), v, .int .i64 (n : Int)] 100, moF T1.r T1.M] from rfl]
  refine gk_unpack (l := [blk a [.pointer (some ⟨f, 0, none⟩), .map T1.r, .int .i64 T1.sum, .map (some rs), v, .int .i64 (n : Int)] 100, moF T1.r T1.M]) (by repeat (first | with_reducible exact Sel.here | with_reducible apply Sel.there)) ?_
  (repeat (refine gG ?_; try intro _))
  refine g_mv rfl (mv_call_mod (φ := packF (frF f fs)) (ψ := fun r : FrS × Int × Bool => packF (frF f r.1)) (fun w1 hk => by exact ltake_any f fs S w1 hf (hk.rO (φ := packF (frF f fs)) mE)) rfl rfl rfl rfl rfl (by kernel_rfl) (by intro _; first | ((repeat (first | with_reducible exact Upd.here _ | with_reducible apply Upd.there)); done) | ((repeat (first | exact Upd.here _ | apply Upd.there)); done) | fail) (fun r hr2 => ?_))
  obtain ⟨fs', b, ok⟩ := r
  obtain ⟨hf', hv⟩ := hr2
  dsimp only at hf' hv ⊢
  cases S with
  | nil =>
    obtain ⟨rfl, rfl⟩ : b = 0 ∧ ok = false := by cases hv; exact ⟨rfl, rfl⟩
    (repeat (refine gG ?_; try intro _))
    refine gk_pack (tbL2 a (⟨.pointer (some ⟨f, 0, none⟩), .map (some rs), v, .int .i64 (n : Int)⟩ : XA) T1) [packF (frF f fs'), mpk rs (Value.int .u32) M, own 0 26 1 v (IE .u32) L] sA ?_
    refine gk_ret hT rfl rfl (.tmp rfl (.tmp rfl .nil)) (fun w' hk => ?_)
    exact RetM.mkP (ll := fun r : AlD × AlS × Int × Int => alL a n r.1 r.2.1) ((⟨f, fs', T1, rs, M, v⟩, ⟨[], l, U, L⟩, 0, 30) : AlD × AlS × Int × Int) ⟨⟨hp, hf', hr, hu⟩, rfl⟩ rfl hk (fun b hb => (finE_mem h.2 b).1 hb) (show SelAll [tbF2 a (⟨.pointer (some ⟨f, 0, none⟩), .map (some rs), v, .int .i64 (n : Int)⟩ : XA) T1, packF (frF f fs'), mpk rs (Value.int .u32) M, own 0 26 1 v (IE .u32) L] _ from sA)
  | cons x S' =>
    obtain ⟨rfl, rfl⟩ : b = x ∧ ok = true := by cases hv; exact ⟨rfl, rfl⟩
    have hx := hp.pos (b := b) (.inl (.head _))
    (repeat (refine gG ?_; try intro _))
    refine g_pack (tbL2 a (⟨.pointer (some ⟨f, 0, none⟩), .map (some rs), v, .int .i64 (n : Int)⟩ : XA) T1) [packF (frF f fs'), mpk rs (Value.int .u32) M, own 0 26 1 v (IE .u32) L] sA ?_
    refine g_mv rfl (mv_call_mod (φ := tbF2 a (⟨.pointer (some ⟨f, 0, none⟩), .map (some rs), v, .int .i64 (n : Int)⟩ : XA) T1) (ψ := fun T' : TabS => tbF2 a (⟨.pointer (some ⟨f, 0, none⟩), .map (some rs), v, .int .i64 (n : Int)⟩ : XA) T') (fun w1 hk => by exact hold2_any a (⟨.pointer (some ⟨f, 0, none⟩), .map (some rs), v, .int .i64 (n : Int)⟩ : XA) T1 l b w1 (by omega) hl9 hr (hk.rO (φ := tbF2 a (⟨.pointer (some ⟨f, 0, none⟩), .map (some rs), v, .int .i64 (n : Int)⟩ : XA) T1) mE)) rfl rfl rfl rfl rfl (by kernel_rfl) (by intro _; first | ((repeat (first | with_reducible exact Upd.here _ | with_reducible apply Upd.there)); done) | ((repeat (first | exact Upd.here _ | apply Upd.there)); done) | fail) (fun T' hT' => ?_))
    (repeat (refine gG ?_; try intro _))
    refine gk_ret hT rfl rfl (.tmp rfl (.tmp rfl .nil)) (fun w' hk => ?_)
    exact RetM.mkP (ll := fun r : AlD × AlS × Int × Int => alL a n r.1 r.2.1) ((⟨f, fs', T', rs, M, v⟩, ⟨S', l ++ [b], U, L⟩, b, 0) : AlD × AlS × Int × Int) ⟨⟨hp.take, hf', hT', hu⟩, rfl⟩ rfl hk (fun b hb => (finE_mem h.2 b).1 hb) (show SelAll [tbF2 a (⟨.pointer (some ⟨f, 0, none⟩), .map (some rs), v, .int .i64 (n : Int)⟩ : XA) T', packF (frF f fs'), mpk rs (Value.int .u32) M, own 0 26 1 v (IE .u32) L] _ from sA)
end Go.Proofs.YtaghmffgoomebaaGreat.Al
