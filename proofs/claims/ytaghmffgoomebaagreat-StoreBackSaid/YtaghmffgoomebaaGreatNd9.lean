/- key.Put; are entries in order. The reference's Put; node.Put of a leaf (under way). -/
import Derived.Test.YtaghmffgoomebaaGreatNd
import Derived.Test.YtaghmffgoomebaaGreatPage3
import Derived.Test.YtaghmffgoomebaaGreatNd3
import Derived.Test.YtaghmffgoomebaaGreatPage7
set_option linter.unusedVariables false
set_option linter.unusedSimpArgs false
namespace Go.Proofs.YtaghmffgoomebaaGreat.Nd
open Go.RowKit Mem Gx Bytes
set_option maxRecDepth 100000
set_option maxHeartbeats 4000000
def keyB (k : KeyD) : List Int := le k.v 2 ++ le k.b 4 ++ le k.s 8
theorem zgh (k : KeyD) : (keyB k).length = 14 := by simp [keyB, zaL]
theorem zjb (base : Nat) (v : Value) (L : List Int) (k : KeyD) (w : World) (hk : k.Bd) (h : OwnL w base 5 1 v (IE .u8) L) (hL : L.length ≤ 10000) (hb : base ≤ w.heap.size) :
 Calls Tryz.prog 101 [v, k.val].toArray w fun e w' => ∃ v', e = .returned v' ∧ OwnL w' base 5 1 v' (IE .u8) (L ++ keyB k) ∧ Grew w w' v v' := by
 have k1 := hk.v
 have k2 := hk.b
 have k3 := hk.s
 refine zab T (ownE v) [own base 5 1 v (IE .u8) L] [] Tryz.func101 rfl Tryz.ntmps101 rfl (Kn.startG h) ?_
 (repeat (refine gG ?_; try intro _))
 refine g_mv rfl ?_; refine zbk (fun w hk => Fix.zdb base v L k.v 2 2 w rfl (by omega) (by omega) (hk.pO (own base 5 1 v (IE .u8) L) mE) (by omega) (Nat.le_trans hb hk.size)) rfl rfl rfl rfl rfl kR uD (fun v1 => ?_)
 (repeat (refine gG ?_; try intro _))
 refine g_mv rfl ?_; refine zbk (fun w hk => Fix.zdb base v1 (L ++ le k.v 2) k.b 4 4 w rfl (by omega) (by omega) (hk.pO (own base 5 1 v1 (IE .u8) (L ++ le k.v 2)) mE) (by simp only [List.length_append, zaL]; omega) (Nat.le_trans hb hk.size)) rfl rfl rfl rfl rfl kR uD (fun v2 => ?_)
 (repeat (refine gG ?_; try intro _))
 refine g_mv rfl ?_; refine zbk (fun w hk => Fix.zdb base v2 (L ++ le k.v 2 ++ le k.b 4) k.s 8 8 w rfl (by omega) (by omega) (hk.pO (own base 5 1 v2 (IE .u8) (L ++ le k.v 2 ++ le k.b 4)) mE) (by simp only [List.length_append, zaL]; omega) (Nat.le_trans hb hk.size)) rfl rfl rfl rfl rfl kR uD (fun v3 => ?_)
 (repeat (refine gG ?_; try intro _))
 refine zad hT rfl rfl (.tmp rfl .nil) (fun w' hk => ?_)
 obtain ⟨h1, h2⟩ := Kn.outG (L := L ++ le k.v 2 ++ le k.b 4 ++ le k.s 8) (base := base) (e := 5) (sz := 1) (enc := IE .u8) (v' := v3) hk mE (by simp only [List.length_append, zaL]; omega)
 refine ⟨v3, rfl, ?_, h2⟩
 have e : L ++ keyB k = L ++ le k.v 2 ++ le k.b 4 ++ le k.s 8 := by unfold keyB; simp only [List.append_assoc]
 rw [e]
 exact h1
def Asc (L : List EntD) : Prop := ∀ i, 0 < i → i < L.length → klt (L.getD (i - 1) default).k (L.getD i default).k
end Go.Proofs.YtaghmffgoomebaaGreat.Nd
namespace Go.Proofs.YtaghmffgoomebaaGreat.Nd
open Go.RowKit Mem Gx Bytes
set_option maxRecDepth 100000
set_option maxHeartbeats 4000000
theorem zdV {α : Type} [Inhabited α] {F : Value → Value} {sz : Nat} {enc : α → Nat → Value} {L : List α} {P : Program} {fid : FuncId} {args : Array Value} {w : World} {e' : TypeId} (hsz : 0 < sz) (h : Calls P fid args w fun e w' => ∃ v, e = .returned (F v) ∧ OwnL w' w.heap.size e' sz v enc L ∧ Below w.heap.size w w') :
 Calls P fid args w (Ret (fun s : SlV => s.Ok L.length) (fun s => F s.v) (fun s => [sl s.A sz enc L]) w) :=
 h.mono fun e w' ⟨v, h1, h2, h3⟩ => by
  obtain ⟨A, c, rfl, k1, k2, k3, k4, k5⟩ := OwnL.sl h2
  refine ⟨⟨A, _, c⟩, ⟨rfl, k2, k3, k4⟩, h1, ⟨h3, fun φ hφ => ?_, List.pairwise_singleton _ _⟩⟩
  obtain rfl := m1 hφ
  refine ⟨k1, fun b hb => ?_⟩
  obtain ⟨_, a, ha, hab⟩ := hb
  rw [← hab]
  exact k5 a ha
abbrev RetB (F : Value → Value) (L : List Int) (w : World) : Ending → World → Prop := Ret (fun s : SlV => s.Ok L.length) (fun s => F s.v) (fun s => [sl s.A 1 (IE .u8) L]) w
theorem zf5 (k : Int) (s : SlV) (L : List Int) (w : World) (h1 : 1 ≤ k) (h2 : k ≤ 6) (hs : s.Ok L.length) (hL : L.length ≤ 120) (h : Sl w s.A 1 (IE .u8) L) (hB : IsB L) :
 Calls Tryz.prog 102 [.int .i64 k, s.v].toArray w (RetB (fun v => .tuple #[v, .int .i64 0]) (Page.page k L) w) :=
 zdV (by decide) (Page.zoB k s.A s.n s.c L w h1 h2 hs.n (by rw [hs.n]; exact hL) h hB)
def entB (e : EntD) : List Int := keyB e.k ++ le e.a 4
def entsB (L : List EntD) : List Int := L.flatMap entB
def nodeB (L : List EntD) : List Int := [(L.length : Int)] ++ entsB L
theorem zjr (e : EntD) : (entB e).length = 18 := by unfold entB; rw [List.length_append, zgh, zaL]
theorem ze4 (L : List EntD) : (entsB L).length = 18 * L.length := by
 induction L with
 | nil => rfl
 | cons x r ih => show (entB x ++ entsB r).length = _; rw [List.length_append, ih, zjr, List.length_cons]; omega
theorem zbK (L : List EntD) : (nodeB L).length = 1 + 18 * L.length := by unfold nodeB; rw [List.length_append, ze4]; rfl
theorem zfG {L : List EntD} {j : Nat} {y : EntD} (h : L[j]? = some y) : entsB (L.take (j + 1)) = entsB (L.take j) ++ entB y := by
 have hk : j < L.length := by
  rcases Nat.lt_or_ge j L.length with h1 | h1
  ·exact h1
  ·rw [List.getElem?_eq_none h1] at h; cases h
 rw [List.take_succ_eq_append_getElem hk]
 rw [List.getElem?_eq_getElem hk] at h
 injection h with h
 unfold entsB
 rw [List.flatMap_append, h]
 simp
theorem zn0 (e : EntD) : IsB (entB e) := ((((zfv _ _).append (zfv _ _)).append (zfv _ _))).append (zfv _ _)
theorem zmg (L : List EntD) : IsB (entsB L) := by
 intro x hx
 obtain ⟨y, _, hy⟩ := List.mem_flatMap.1 hx
 exact zn0 y x hy
theorem zcL (L : List EntD) (h : L.length ≤ 255) : IsB (nodeB L) := (IsB.cons (by omega) IsB.nil).append (zmg L)
structure EntD.Bd (e : EntD) : Prop where
 k : e.k.Bd
 a : 0 ≤ e.a ∧ e.a < 4294967296
theorem zoF {E : List Nat} {w0 w : World} {O R : List Fact} {α : Type} [Inhabited α] {base e sz n c : Nat} {A : Option Addr} {enc : α → Nat → Value} {L : List α} (hk : Kn E w0 w O R) (h : own base e sz (.slice A n c) enc L ∈ O) : Sl w A sz enc L := by
 obtain ⟨A', c', hv, hs, _⟩ := hk.ownSl h
 injection hv with h1 h2 h3
 subst h1
 exact hs
end Go.Proofs.YtaghmffgoomebaaGreat.Nd
