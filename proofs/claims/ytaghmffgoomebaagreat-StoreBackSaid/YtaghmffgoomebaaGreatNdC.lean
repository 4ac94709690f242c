/- slices.BinarySearchFunc at keys; slices.Insert and slices.Delete at entries. slices.Delete at entries. slices.Clone at nodes. -/
import Derived.Test.YtaghmffgoomebaaGreatNd3
import Derived.Test.YtaghmffgoomebaaGreatGxL
import Derived.Test.YtaghmffgoomebaaGreatNd2
set_option linter.unusedVariables false
set_option linter.unusedSimpArgs false
namespace Go.Proofs.YtaghmffgoomebaaGreat.Nd
open Go.RowKit Mem Gx
set_option maxRecDepth 100000
set_option maxHeartbeats 4000000
theorem zbr {a b c : KeyD} (h1 : klt a b) (h2 : klt b c) : klt a c := by unfold klt at *; omega
def AscK (L : List KeyD) : Prop := ∀ i j, i < j → j < L.length → klt (L.getD i default) (L.getD j default)
structure PosK (L : List KeyD) (t : KeyD) (p : Nat) : Prop where
 le : p ≤ L.length
 lo : ∀ m, m < p → klt (L.getD m default) t
 hi : ∀ m, p ≤ m → m < L.length → ¬ klt (L.getD m default) t
theorem getD_at {α : Type} [Inhabited α] {L : List α} {i : Nat} {x : α} (h : L[i]? = some x) : L.getD i default = x := by rw [List.getD_eq_getElem?_getD, h]; rfl
theorem zdn (A : Option Addr) (n c : Nat) (L : List KeyD) (t : KeyD) (w : World) (hn : n = L.length) (h9 : n ≤ 1000000) (ha : AscK L) (hs : Sl w A 3 KE L) :
 Calls Tryz.prog 89 [.slice A n c, t.val, .func (.func 90) #[] #[]].toArray w (Ret (PosK L t) (fun p => .tuple #[.int .i64 (p : Int), .bool (tB (L[p]? = some t))]) (fun _ => []) w) := by
 refine zab T [] [] [sl A 3 KE L] Tryz.func89 rfl Tryz.ntmps89 rfl ((Kn.start w).argR hs (by decide) (fun _ h => by cases h)) ?_
 (repeat (refine gG ?_; try intro _))
 rename_i g4
 refine gL2 (fun (i : Nat) (j : Nat) => i ≤ j ∧ j ≤ n ∧ (∀ m, m < i → klt (L.getD m default) t) ∧ (∀ m, j ≤ m → m < n → ¬ klt (L.getD m default) t)) (fun i j => [(0, .slice A n c), (2, .func (.func 90) #[] #[]), (4, .pointer (some ⟨g4, 0, none⟩)), (8, .int .i64 n), (9, .int .i64 i), (10, .int .i64 j)]) (fun i j => [blk g4 [.int .u16 t.v, .int .u32 t.b, .int .u64 t.s] 29]) (fun i j => [sl A 3 KE L]) (fun i j => j - i) 0 n ⟨Nat.zero_le _, Nat.le_refl _, fun m h => by omega, fun m h1 h2 => by omega⟩ ?_
 rintro i j hI
 obtain ⟨h1, h2, hlo, hhi⟩ := hI
 (repeat (refine gG ?_; try intro _))
 refine zaJ rfl rfl (zaH _) (fun hlt => ?_) (fun hlt => ?_)
 ·(repeat (refine gG ?_; try intro _))
  obtain ⟨m, hm⟩ : ∃ m, m = (i + j) / 2 := ⟨_, rfl⟩
  refine zaK 22 (.int .u64 (m : Int)) rfl (by
   show Value.int .u64 (((i : Int) + (j : Int)).fdiv 2) = _
   rw [Int.fdiv_eq_ediv_of_nonneg _ (by decide)]
   congr 1
   omega) ?_
  have hmj : i ≤ m ∧ m < j := by omega
  clear hm
  (repeat (refine gG ?_; try intro _))
  obtain ⟨x, hx⟩ : ∃ x, L[m]? = some x := ⟨L[m], List.getElem?_eq_getElem (by omega)⟩
  have hxd := getD_at hx
  refine zar (enc := KE) (L := L) m mE (by omega) (by decide) (fun b0 o0 x' eA hx' => ?_)
  subst eA
  obtain rfl : x = x' := by rw [hx] at hx'; exact Option.some.inj hx'
  refine zas [0, 1] (Cut _ (fun _ : Unit => [(0, .slice (some ⟨b0, o0, none⟩) n c), (2, .func (.func 90) #[] #[]), (4, .pointer (some ⟨g4, 0, none⟩)), (8, .int .i64 n), (9, .int .i64 i), (10, .int .i64 j), (11, .int .i64 m), (31, .bool (tB (kcmp x t < 0)))]) (fun _ => [blk g4 [.int .u16 t.v, .int .u32 t.b, .int .u64 t.s] 29]) (fun _ => [sl (some ⟨b0, o0, none⟩) 3 KE L])) rfl rfl kR ?_ (zaD fun _ => ?_)
  ·skip
   refine gY hT 0 ?_
   refine gY hT 1 ?_
   refine gY hT 2 ?_
   refine gY hT 3 ?_
   refine gW hT 4 ?_
   refine gW hT 5 ?_
   refine gP 6 ?_
   refine zau (fun w hk => zgj x t w) rfl rfl rfl rfl rfl kR ?_
   refine ⟨sF, ?_⟩
   refine gY hT 7 ?_
   refine zak dK ?_
   exact ⟨(), fS, sA, sS⟩
  ·refine zaJ rfl rfl (zaH _) (fun hc => ?_) (fun hc => ?_)
   ·rw [zgi] at hc
    (repeat (refine gG ?_; try intro _))
    refine zag rfl (m + 1, j) ⟨by omega, h2, fun q hq => by
     rcases Nat.lt_or_ge q m with h | h
     ·exact zbr (ha q m h (by omega)) (hxd ▸ hc)
     ·obtain rfl : q = m := by omega
      exact hxd ▸ hc, hhi⟩ (by dsimp only; omega) fS sA sS
   ·rw [zgi] at hc
    (repeat (refine gG ?_; try intro _))
    refine zag rfl (i, m) ⟨hmj.1, by omega, hlo, fun q h3 h4 h5 => by
     rcases Nat.lt_or_ge m q with h | h
     ·exact hc (hxd ▸ zbr (ha m q h (by omega)) h5)
     ·obtain rfl : q = m := by omega
      exact hc (hxd ▸ h5)⟩ (by dsimp only; omega) fS sA sS
 ·have hij : i = j := by omega
  subst hij
  have hpos : PosK L t i := ⟨by omega, hlo, fun m a b => hhi m a (by omega)⟩
  (repeat (refine gG ?_; try intro _))
  by_cases hin : i < n
  ·obtain ⟨x, hx⟩ : ∃ x, L[i]? = some x := ⟨L[i], List.getElem?_eq_getElem (by omega)⟩
   refine zar (enc := KE) (L := L) i mE (by omega) (by decide) (fun b0 o0 x' eA hx' => ?_)
   subst eA
   obtain rfl : x = x' := by rw [hx] at hx'; exact Option.some.inj hx'
   refine zas [0, 1] (Cut _ (fun _ : Unit => [(6, .int .i64 i), (7, .bool (tB (kcmp x t = 0)))]) (fun _ => []) (fun _ => [])) rfl rfl kR ?_ (zaD fun _ => ?_)
   ·skip
    refine gY hT 0 ?_
    refine gY hT 1 ?_
    refine gY hT 2 ?_
    refine gY hT 3 ?_
    try (refine zam 38 (.bool true) rfl (congrArg Value.bool (zan (by omega))) ?_)
    refine gY hT 4 ?_
    first | refine gY hT 5 ?_ | refine gZ 5 ?_
    first | refine gY hT 6 ?_ | refine gZ 6 ?_
    first | refine gY hT 7 ?_ | refine gZ 7 ?_
    first | refine gY hT 8 ?_ | refine gZ 8 ?_
    first | refine gW hT 9 ?_ | refine gZ 9 ?_
    first | refine gW hT 10 ?_ | refine gZ 10 ?_
    first | refine gZ 11 ?_ | (refine gP 11 ?_; (refine zau (fun w hk => zgj x t w) rfl rfl rfl rfl rfl kR ?_); refine ⟨sF, ?_⟩)
    first | refine gY hT 12 ?_ | refine gZ 12 ?_
    refine gY hT 13 ?_
    refine gY hT 14 ?_
    refine gY hT 15 ?_
    refine zak dK ?_
    exact ⟨(), fS, sA, sS⟩
   ·(repeat (refine gG ?_; try intro _))
    refine zad hT rfl rfl (.tmp rfl (.tmp rfl .nil)) (fun w' hk => ?_)
    refine Ret.mk i hpos ?_ hk sA
    show Value.tuple #[.int .i64 (i : Int), .bool (tB (kcmp x t = 0))] = _
    rw [zbU (p := kcmp x t = 0) (q := L[i]? = some t) ⟨fun h => by rw [hx, (zhl x t).1 h], fun h => by rw [hx] at h; rw [Option.some.inj h]; exact (zhl t t).2 rfl⟩]
  ·refine zas [0, 1] (Cut _ (fun _ : Unit => [(6, .int .i64 i), (7, .bool false)]) (fun _ => []) (fun _ => [])) rfl rfl kR ?_ (zaD fun _ => ?_)
   ·skip
    refine gY hT 0 ?_
    refine gY hT 1 ?_
    refine gY hT 2 ?_
    refine gY hT 3 ?_
    try (refine zam 38 (.bool false) rfl (congrArg Value.bool (zaj (by omega))) ?_)
    refine gY hT 4 ?_
    first | refine gY hT 5 ?_ | refine gZ 5 ?_
    first | refine gY hT 6 ?_ | refine gZ 6 ?_
    first | refine gY hT 7 ?_ | refine gZ 7 ?_
    first | refine gY hT 8 ?_ | refine gZ 8 ?_
    first | refine gW hT 9 ?_ | refine gZ 9 ?_
    first | refine gW hT 10 ?_ | refine gZ 10 ?_
    first | refine gZ 11 ?_ | (refine gP 11 ?_; (skip); refine ⟨sF, ?_⟩)
    first | refine gY hT 12 ?_ | refine gZ 12 ?_
    refine gY hT 13 ?_
    refine gY hT 14 ?_
    refine gY hT 15 ?_
    refine zak dK ?_
    exact ⟨(), fS, sA, sS⟩
   ·(repeat (refine gG ?_; try intro _))
    refine zad hT rfl rfl (.tmp rfl (.tmp rfl .nil)) (fun w' hk => ?_)
    refine Ret.mk i hpos ?_ hk sA
    rw [zaj (show ¬ L[i]? = some t from fun h => by
     have := (List.getElem?_eq_some_iff.1 h).1
     omega)]
    rfl
theorem oneE : ∀ (x : EntD) (j : Nat), (EE x j).oneCell' = true := by intro x j; rcases j with _ | _ | _ | j <;> rfl
theorem zka (base : Nat) (A : Option Addr) (n c : Nat) (L : List EntD) (i : Nat) (y : EntD) (g0 : Nat) (w : World) (h : OwnL w base 31 4 (.slice A n c) EE L) (h9 : L.length ≤ 100000) (hi : i ≤ L.length) (hb : base ≤ w.heap.size) (h0 : w.heap[g0]? = some (.cells [.int .u16 y.k.v, .int .u32 y.k.b, .int .u64 y.k.s, .int .u32 y.a].toArray 31 (0, 0))) (hne : (Value.slice A n c).ownBlock ≠ some g0) :
 Calls Tryz.prog 91 [.slice A n c, .int .i64 i, .slice (some ⟨g0, 0, none⟩) 1 1].toArray w fun e w' => ∃ v', e = .returned v' ∧ OwnL w' base 31 4 v' EE (L.take i ++ [y] ++ L.drop i) ∧ Grew w w' (.slice A n c) v' := by
 have hnl : n = L.length ∧ n ≤ c := by
  obtain ⟨A', c', hv, _, h1, _⟩ := OwnL.sl h
  injection hv with e1 e2 e3
  exact ⟨e2, by omega⟩
 obtain ⟨hn, hnc⟩ := hnl
 have hk0 : Kn (ownE (.slice A n c)) w w [own base 31 4 (.slice A n c) EE L] [blk g0 [.int .u16 y.k.v, .int .u32 y.k.b, .int .u64 y.k.s, .int .u32 y.a] 31] := by
  refine (Kn.startG h).addR _ h0 (fun b hb => ?_) (fun φ hφ b hb hb' => ?_)
  ·have : b = g0 := hb
   subst this
   rcases Nat.lt_or_ge b w.heap.size with h' | h'
   ·exact h'
   ·rw [Array.getElem?_eq_none h'] at h0; cases h0
  ·obtain rfl := m1 hφ
   have e1 : b = g0 := hb'
   have e2 : (Value.slice A n c).ownBlock = some b := hb
   exact hne (by rw [e2, e1])
 refine zab T (ownE (.slice A n c)) [own base 31 4 (.slice A n c) EE L] [blk g0 [.int .u16 y.k.v, .int .u32 y.k.b, .int .u64 y.k.s, .int .u32 y.a] 31] Tryz.func91 rfl Tryz.ntmps91 rfl hk0 ?_
 (repeat (refine gG ?_; try intro _))
 refine g_yd rfl rfl (Ys.yd (zav hT i rfl rfl rfl rfl rfl (by omega))) ?_
 by_cases hin : i = n
 ·(repeat' (first | (refine gH ?_; try intro _) | (refine gS ?_ ?_ <;> intro _) | fail))
  refine g_mv rfl (zac rfl [y] rfl rfl rfl rfl zb7 uD (ziG mE rfl) rfl oneE sM sN hb (fun v1 => ?_))
  (repeat (refine gG ?_; try intro _))
  refine zad hT rfl rfl (.tmp rfl .nil) (fun w' hk => ?_)
  obtain ⟨q1, q2⟩ := Kn.outG (L := L ++ [y]) (base := base) (e := 31) (sz := 4) (enc := EE) (v' := v1) hk mE (by simp)
  refine ⟨v1, rfl, ?_, q2⟩
  subst hin
  rw [hn, List.take_length, List.drop_length, List.append_nil]
  exact q1
 ·have hi' : i < n := by omega
  obtain ⟨g, rfl⟩ : ∃ g, A = some ⟨g, 0, none⟩ := by
   rcases h.2 with ⟨_, h2⟩ | ⟨g, cap, cur, hv, _⟩
   ·omega
   ·injection hv with e1 e2 e3
    exact ⟨g, e1⟩
  have e4 : flatF 4 EE L = flatF 4 EE (L.take i) ++ flatF 4 EE (L.drop i) := by rw [← zao, List.take_append_drop]
  have lT : (flatF 4 EE (L.take i)).length = i * 4 := by rw [zaq, List.length_take, Nat.min_eq_left hi]
  have lD : (flatF 4 EE (L.drop i)).length = (n - i) * 4 := by rw [zaq, List.length_drop, hn]
  have lY : (flatF 4 EE [y]).length = 4 := by rw [zaq]; rfl
  have eR : flatF 4 EE (L.take i ++ [y] ++ L.drop i) = flatF 4 EE (L.take i) ++ flatF 4 EE [y] ++ flatF 4 EE (L.drop i) := by rw [zao, zao]
  have lR : (L.take i ++ [y] ++ L.drop i).length = n + 1 := by simp only [List.length_append, List.length_take, List.length_drop, List.length_cons, List.length_nil]; omega
  by_cases hroom : n + 1 ≤ c
  ·(repeat' (first | (refine gH ?_; try intro _) | (refine gS ?_ ?_ <;> intro _) | fail))
   refine g_yd rfl rfl (Ys.yd (ziv hT rfl rfl rfl rfl rfl)) ?_
   (repeat' (first | (refine gH ?_; try intro _) | (refine gS ?_ ?_ <;> intro _) | fail))
   refine g_yd rfl rfl (Ys.yd (zaU hT (n + 1) rfl rfl rfl rfl (by push_cast; rfl) hroom)) ?_
   refine zaK 60 (.slice (some ⟨g, 0, none⟩) (n + 1) c) rfl (by rw [zgQ]) ?_
   (repeat' (first | (refine gH ?_; try intro _) | (refine gS ?_ ?_ <;> intro _) | fail))
   refine g_yd rfl rfl (Ys.yd (zav hT (i + 1) rfl rfl rfl rfl (by push_cast; rfl) (by omega))) ?_
   refine zaK 66 (.slice (some ⟨g, (i + 1) * 4, none⟩) (n + 1 - (i + 1)) (c - (i + 1))) rfl (by rw [zbo (by omega)]) ?_
   refine zbD (α := EntD) (sz := 4) (enc := EE) (L := L) (by decide) uD (fun rest hl0 _ _ hcm hbg => ?_)
   refine g_mv rfl (zhX (tS := 22) (tR := 4) (sz := 4) rfl rfl rfl rfl rfl Tryz.func121 kR kR kR kR Tryz.underlying22 kR mE mE (by rw [hl0]; omega) ?_)
   have hsrc : flatF 4 EE (L.drop i) = ((flatF 4 EE L ++ rest).drop (i * 4)).take ((n - i) * 4) := by rw [e4, List.append_assoc, List.drop_left' lT, List.take_left' lD]
   (repeat' (first | (refine gH ?_; try intro _) | (refine gS ?_ ?_ <;> intro _) | fail))
   refine zas [] (Cut _ (fun _ : Unit => [(0, .slice (some ⟨g, 0, none⟩) (n + 1) c), (1, .int .i64 i), (2, .slice (some ⟨g0, 0, none⟩) 1 1)]) (fun _ => [blk g (lay (flatF 4 EE L ++ rest) ((i + 1) * 4) (flatF 4 EE (L.drop i))) 31]) (fun _ => [blk g0 [.int .u16 y.k.v, .int .u32 y.k.b, .int .u64 y.k.s, .int .u32 y.a] 31])) rfl rfl kR ?_ (zaD fun _ => ?_)
   ·skip
    refine gY hT 0 ?_
    refine gY hT 1 ?_
    refine gY hT 2 ?_
    refine gY hT 3 ?_
    refine zaz 4 rfl dK rfl rfl (zav hT (i + 1) rfl rfl rfl rfl (by push_cast; rfl) (by omega)) sF ?_
    try (refine zam 73 (.slice (some ⟨g, (i + 1) * 4, none⟩) (n + 1 - (i + 1)) (c - (i + 1))) rfl (by rw [zbo (by omega)]) ?_)
    refine gY hT 5 ?_
    refine gY hT 6 ?_
    refine zaz 7 rfl dK rfl rfl (zav hT i rfl rfl rfl rfl rfl (by omega)) sF ?_
    try (refine zam 76 (.slice (some ⟨g, i * 4, none⟩) (n + 1 - i) (c - i)) rfl (by rw [zbo (by omega)]) ?_)
    refine gP 8 ?_
    refine zcd rfl hT (flatF 4 EE (L.drop i)) rfl rfl rfl rfl rfl (by first | ((repeat (first | with_reducible exact Upd.here _ | with_reducible apply Upd.there)); done) | ((repeat (first | exact Upd.here _ | apply Upd.there)); done) | fail) (zcU mE _ hsrc) (by rw [lD]; show _ = min (n + 1 - i) (n + 1 - (i + 1)) * 4; congr 1; omega) (by rw [lD, hl0]; omega) (zbd 4 EE oneE _) ?_
    refine ⟨sF, ?_⟩
    refine zak dK ?_
    exact ⟨(), fS, sA, sS⟩
   ·(repeat (refine gG ?_; try intro _))
    refine g_yd rfl rfl (Ys.yd (zav hT i rfl rfl rfl rfl rfl (by omega))) ?_
    refine zaK 80 (.slice (some ⟨g, i * 4, none⟩) (n + 1 - i) (c - i)) rfl (by rw [zbo (by omega)]) ?_
    (repeat (refine gG ?_; try intro _))
    have hll : (lay (flatF 4 EE L ++ rest) ((i + 1) * 4) (flatF 4 EE (L.drop i))).length = c * 4 := by rw [zbR (by rw [lD, hl0]; omega), hl0]
    refine g_mv rfl (zcd rfl hT (flatF 4 EE [y]) rfl rfl rfl rfl rfl (by first | ((repeat (first | with_reducible exact Upd.here _ | with_reducible apply Upd.there)); done) | ((repeat (first | exact Upd.here _ | apply Upd.there)); done) | fail) (zcf (m := 4) mE _ rfl) (by rw [lY]; show _ = min 1 (n + 1 - i) * 4; rw [Nat.min_eq_left (by omega)]) (by rw [lY, hll]; omega) (zbd 4 EE oneE _) ?_)
    (repeat (refine gG ?_; try intro _))
    refine zbg (sz := 4) (enc := EE) (n := n + 1) (c := c) (base := base) (L.take i ++ [y] ++ L.drop i) (by decide) (by first | ((repeat (first | with_reducible exact Upd.here _ | with_reducible apply Upd.there)); done) | ((repeat (first | exact Upd.here _ | apply Upd.there)); done) | fail) (by rw [zbR (by rw [lY, hll]; omega), hll]) lR.symm hroom hcm hbg ?_ ?_
    ·rw [e4, List.append_assoc, zja _ _ _ (k := 4) (by rw [lT]; omega), zbl _ _ _ lT.symm, eR, lY]
     have lD4 : ((flatF 4 EE (L.drop i) ++ rest).take 4).length = 4 := by rw [List.length_take, List.length_append, lD]; omega
     have e5 : (lay (flatF 4 EE (L.drop i) ++ rest) 4 (flatF 4 EE (L.drop i))).drop 4 = flatF 4 EE (L.drop i) ++ (flatF 4 EE (L.drop i) ++ rest).drop (4 + (flatF 4 EE (L.drop i)).length) := by
      unfold lay
      rw [List.append_assoc, List.drop_left' lD4]
     rw [e5, ← List.append_assoc]
     exact List.take_left' (by rw [List.length_append, List.length_append, lT, lY, lD]; omega)
    ·refine zad hT rfl rfl (.tmp rfl .nil) (fun w' hk => ?_)
     obtain ⟨q1, q2⟩ := Kn.outG' (L := L.take i ++ [y] ++ L.drop i) (base := base) (e := 31) (sz := 4) (enc := EE) (v := .slice (some ⟨g, 0, none⟩) n c) hk mE
     exact ⟨_, rfl, q1, q2⟩
  ·(repeat' (first | (refine gH ?_; try intro _) | (refine gS ?_ ?_ <;> intro _) | fail))
   refine g_yd rfl rfl (Ys.yd (ziv hT rfl rfl rfl rfl rfl)) ?_
   (repeat' (first | (refine gH ?_; try intro _) | (refine gS ?_ ?_ <;> intro _) | fail))
   refine g_yd rfl rfl (Ys.yd (zaU hT i rfl rfl rfl rfl rfl (by omega))) ?_
   refine zaK 34 (.slice (some ⟨g, 0, none⟩) i c) rfl (by rw [zgQ]) ?_
   (repeat' (first | (refine gH ?_; try intro _) | (refine gS ?_ ?_ <;> intro _) | fail))
   refine zbD (α := EntD) (sz := 4) (enc := EE) (L := L) (by decide) uD (fun rest hl0 _ _ hcm hbg => ?_)
   refine g_mv rfl (ziZ (kn := .i64) (bytes := 24) (j := n + 1 - i) rfl rfl rfl rfl rfl zb7 Tryz.underlying3 mE (by omega) (by omega) (by omega) (by rw [hl0]; omega) (by unfold maxLen; omega) (by omega) (fun g' cap zs hg' hcap hcm' hz => ?_))
   rw [show (flatF 4 EE L ++ rest).take (i * 4) = flatF 4 EE (L.take i) by rw [e4, List.append_assoc]; exact List.take_left' lT]
   have hsrc : flatF 4 EE (L.drop i) = ((flatF 4 EE L ++ rest).drop (i * 4)).take ((n - i) * 4) := by rw [e4, List.append_assoc, List.drop_left' lT, List.take_left' lD]
   have eN : i + (n + 1 - i) = n + 1 := by omega
   refine zaK 40 (.slice (some ⟨g', 0, none⟩) (n + 1) cap) rfl (by rw [eN]) ?_
   (repeat' (first | (refine gH ?_; try intro _) | (refine gS ?_ ?_ <;> intro _) | fail))
   refine g_yd rfl rfl (Ys.yd (zav hT i rfl rfl rfl rfl rfl (by omega))) ?_
   refine zaK 43 (.slice (some ⟨g', i * 4, none⟩) (n + 1 - i) (cap - i)) rfl (by rw [zbo (by omega)]) ?_
   (repeat' (first | (refine gH ?_; try intro _) | (refine gS ?_ ?_ <;> intro _) | fail))
   refine g_mv rfl (zcd rfl hT (flatF 4 EE [y]) rfl rfl rfl rfl rfl (by first | ((repeat (first | with_reducible exact Upd.here _ | with_reducible apply Upd.there)); done) | ((repeat (first | exact Upd.here _ | apply Upd.there)); done) | fail) (zcf (m := 4) mE _ rfl) (by rw [lY]; show _ = min 1 (n + 1 - i) * 4; rw [Nat.min_eq_left (by omega)]) (by rw [lY, List.length_append, lT, hz]; omega) (zbd 4 EE oneE _) ?_)
   rw [zbl _ _ _ lT.symm, lY]
   have lZ : (flatF 4 EE (L.take i) ++ flatF 4 EE [y] ++ zs.drop 4).length = cap * 4 := by rw [List.length_append, List.length_append, List.length_drop, lT, lY, hz]; omega
   (repeat' (first | (refine gH ?_; try intro _) | (refine gS ?_ ?_ <;> intro _) | fail))
   refine zas [] (Cut _ (fun _ : Unit => [(9, .slice (some ⟨g', 0, none⟩) (n + 1) cap)]) (fun _ => [blk g' (lay (flatF 4 EE (L.take i) ++ flatF 4 EE [y] ++ zs.drop 4) ((i + 1) * 4) (flatF 4 EE (L.drop i))) 31]) (fun _ => [])) rfl rfl kR ?_ (zaD fun _ => ?_)
   ·skip
    refine gY hT 0 ?_
    refine gY hT 1 ?_
    refine gY hT 2 ?_
    refine gY hT 3 ?_
    refine zaz 4 rfl dK rfl rfl (zav hT (i + 1) rfl rfl rfl rfl (by push_cast; rfl) (by omega)) sF ?_
    try (refine zam 50 (.slice (some ⟨g', (i + 1) * 4, none⟩) (n + 1 - (i + 1)) (cap - (i + 1))) rfl (by rw [zbo (by omega)]) ?_)
    refine gY hT 5 ?_
    refine gY hT 6 ?_
    refine zaz 7 rfl dK rfl rfl (zav hT i rfl rfl rfl rfl rfl (by omega)) sF ?_
    try (refine zam 53 (.slice (some ⟨g, i * 4, none⟩) (n - i) (c - i)) rfl (by rw [zbo (by omega)]) ?_)
    refine gP 8 ?_
    refine zcd rfl hT (flatF 4 EE (L.drop i)) rfl rfl rfl rfl rfl (by first | ((repeat (first | with_reducible exact Upd.here _ | with_reducible apply Upd.there)); done) | ((repeat (first | exact Upd.here _ | apply Upd.there)); done) | fail) (zcU mE _ hsrc) (by rw [lD]; show _ = min (n - i) (n + 1 - (i + 1)) * 4; congr 1; omega) (by rw [lD, lZ]; omega) (zbd 4 EE oneE _) ?_
    refine ⟨sF, ?_⟩
    refine zak dK ?_
    exact ⟨(), fS, sA, sS⟩
   ·(repeat (refine gG ?_; try intro _))
    rw [zbl _ _ _ (by rw [List.length_append, lT, lY]; omega)]
    refine zbg (sz := 4) (enc := EE) (n := n + 1) (c := cap) (base := base) (L.take i ++ [y] ++ L.drop i) (by decide) (by first | ((repeat (first | with_reducible exact Upd.here _ | with_reducible apply Upd.there)); done) | ((repeat (first | exact Upd.here _ | apply Upd.there)); done) | fail) ?_ lR.symm (by omega) hcm' (Nat.le_trans hb hg') ?_ ?_
    ·rw [List.length_append, List.length_append, List.length_append, List.length_drop, List.length_drop, lT, lY, lD, hz]; omega
    ·rw [eR]
     exact List.take_left' (by rw [List.length_append, List.length_append, lT, lY, lD]; omega)
    ·refine zad hT rfl rfl (.tmp rfl .nil) (fun w' hk => ?_)
     obtain ⟨q1, q2⟩ := Kn.outG' (L := L.take i ++ [y] ++ L.drop i) (base := base) (e := 31) (sz := 4) (enc := EE) (v := .slice (some ⟨g, 0, none⟩) n c) hk mE
     exact ⟨_, rfl, q1, q2⟩
end Go.Proofs.YtaghmffgoomebaaGreat.Nd
namespace Go.Proofs.YtaghmffgoomebaaGreat.Nd
open Go.RowKit Mem Gx
set_option maxRecDepth 100000
set_option maxHeartbeats 4000000
theorem zero_E : ∃ u, (∀ w, (zeroValue 31).run Tryz.prog w = .ok u w) ∧ u.cells.size = 4 ∧ ∀ v ∈ u.cells, v.oneCell' = true := by
 have h : (Tryz.prog.info? 31).map (fun i => i.zero) = some (some (.agg #[.int .u16 0, .int .u32 0, .int .u64 0, .int .u32 0])) := by kernel_rfl
 refine ⟨.agg #[.int .u16 0, .int .u32 0, .int .u64 0, .int .u32 0], fun w => ?_, rfl, ?_⟩
 ·cases hi : Tryz.prog.info? 31 with
  | none => rw [hi] at h; cases h
  | some i =>
    rw [hi] at h
    have hz : i.zero = some (.agg #[.int .u16 0, .int .u32 0, .int .u64 0, .int .u32 0]) := by simpa using h
    simp [zeroValue, typeInfo, hi, hz]
 ·intro v hv
  simp [Value.cells] at hv
  rcases hv with h | h | h | h <;> (subst h; rfl)
theorem zd5 (base g n c : Nat) (L : List EntD) (i : Nat) (w : World) (h : OwnL w base 31 4 (.slice (some ⟨g, 0, none⟩) n c) EE L) (h9 : L.length ≤ 100000) (hi : i < L.length) :
 Calls Tryz.prog 98 [.slice (some ⟨g, 0, none⟩) n c, .int .i64 i, .int .i64 ((i : Int) + 1)].toArray w fun e w' => ∃ v', e = .returned v' ∧ OwnL w' base 31 4 v' EE (L.take i ++ L.drop (i + 1)) ∧ Grew w w' (.slice (some ⟨g, 0, none⟩) n c) v' := by
 have hnl : n = L.length ∧ n ≤ c := by
  obtain ⟨A', c', hv, _, h1, _⟩ := OwnL.sl h
  injection hv with e1 e2 e3
  exact ⟨e2, by omega⟩
 obtain ⟨hn, hnc⟩ := hnl
 refine zab T (ownE (.slice (some ⟨g, 0, none⟩) n c)) [own base 31 4 (.slice (some ⟨g, 0, none⟩) n c) EE L] [] Tryz.func98 rfl Tryz.ntmps98 rfl (Kn.startG h) ?_
 have e4 : flatF 4 EE L = flatF 4 EE (L.take i) ++ flatF 4 EE (L.drop i) := by rw [← zao, List.take_append_drop]
 have lT : (flatF 4 EE (L.take i)).length = i * 4 := by rw [zaq, List.length_take, Nat.min_eq_left (by omega)]
 have lD : (flatF 4 EE (L.drop (i + 1))).length = (n - (i + 1)) * 4 := by rw [zaq, List.length_drop, hn]
 have eN : i + (n - (i + 1)) = n - 1 := by omega
 (repeat (refine gG ?_; try intro _))
 refine g_yd rfl rfl (Ys.yd (zgI hT i (i + 1) n rfl rfl rfl rfl rfl rfl rfl (by push_cast; rfl) rfl (by omega) (by omega) hnc)) ?_
 (repeat' (first | (refine gH ?_; try intro _) | (refine gS ?_ ?_ <;> intro _) | fail))
 refine zkb (α := EntD) (sz := 4) (enc := EE) (L := L) (by decide) uD (fun rest hl0 _ _ hcm hbg => ?_)
 obtain ⟨o', ho', ho2⟩ := zkG (g := g) (l := i + 1) (m := c) (s := 4)
 have hsrc : flatF 4 EE (L.drop (i + 1)) = ((flatF 4 EE L ++ rest).drop ((i + 1) * 4)).take ((n - (i + 1)) * 4) := by
  rw [List.drop_append_of_le_length (by rw [zaq]; omega), zfC 4 EE L (i + 1) (by omega), List.take_left' lD]
 refine zas [] (Cut _ (fun _ : Unit => [(0, .slice (some ⟨g, 0, none⟩) (n - 1) c), (7, .int .i64 n)]) (fun _ => [blk g (lay (flatF 4 EE L ++ rest) (i * 4) (flatF 4 EE (L.drop (i + 1)))) 31]) (fun _ => [])) rfl rfl kR ?_ (zaD fun _ => ?_)
 ·skip
  refine gY hT 0 ?_
  refine gY hT 1 ?_
  refine zaz 2 rfl dK rfl rfl (zaU hT i rfl rfl rfl rfl rfl (by omega)) sF ?_
  try (refine zam 22 (.slice (some ⟨g, 0, none⟩) i c) rfl (by rw [zgQ]) ?_)
  refine gY hT 3 ?_
  refine gY hT 4 ?_
  refine zaz 5 rfl dK rfl rfl (zav hT (i + 1) rfl rfl rfl rfl (by push_cast; rfl) (by omega)) sF ?_
  try (refine zam 25 (.slice (some ⟨g, o', none⟩) (n - (i + 1)) (c - (i + 1))) rfl (by rw [ho']) ?_)
  refine gP 6 ?_
  refine zli rfl (flatF 4 EE (L.drop (i + 1))) rfl rfl rfl rfl zb7 (by first | ((repeat (first | with_reducible exact Upd.here _ | with_reducible apply Upd.there)); done) | ((repeat (first | exact Upd.here _ | apply Upd.there)); done) | fail) (by
   by_cases hc1 : c = i + 1
   ·rw [show L.drop (i + 1) = [] from List.drop_of_length_le (by omega)]; exact zm9
   ·rw [ho2 hc1]; exact zcU mE _ hsrc) lD (by omega) (by rw [lD, hl0]; omega) (zbd 4 EE oneE _) ?_
  refine ⟨sF, ?_⟩
  try (refine zam 26 (.slice (some ⟨g, 0, none⟩) (n - 1) c) rfl (by rw [eN]) ?_)
  refine gY hT 7 ?_
  refine zak dK ?_
  exact ⟨(), fS, sA, sS⟩
 ·(repeat (refine gG ?_; try intro _))
  refine g_yd rfl rfl (Ys.yd (zet hT (n - 1) n rfl rfl rfl rfl rfl rfl rfl (by omega) hnc)) ?_
  refine zaK 31 (.slice (some ⟨g, (n - 1) * 4, none⟩) (n - (n - 1)) (c - (n - 1))) rfl (by rw [zbo (by omega)]) ?_
  (repeat (refine gG ?_; try intro _))
  have hll : (lay (flatF 4 EE L ++ rest) (i * 4) (flatF 4 EE (L.drop (i + 1)))).length = c * 4 := by rw [zbR (by rw [lD, hl0]; omega), hl0]
  refine g_mv rfl (zgc rfl hT rfl rfl rfl rfl rfl zero_E uD (by rw [hll]; omega) (fun vs hvs => ?_))
  (repeat (refine gG ?_; try intro _))
  refine zbg (sz := 4) (enc := EE) (n := n - 1) (c := c) (base := base) (L.take i ++ L.drop (i + 1)) (by decide) (by first | ((repeat (first | with_reducible exact Upd.here _ | with_reducible apply Upd.there)); done) | ((repeat (first | exact Upd.here _ | apply Upd.there)); done) | fail) (by rw [zbR (by rw [hvs, hll]; omega), hll]) (by rw [List.length_append, List.length_take, List.length_drop]; omega) (by omega) hcm hbg ?_ ?_
  ·rw [e4, List.append_assoc, zbl _ _ _ lT.symm, zbl _ _ _ (by rw [List.length_append, lT, lD]; omega), zao, List.append_assoc (flatF 4 EE (L.take i) ++ flatF 4 EE (L.drop (i + 1)))]
   exact List.take_left' (by rw [List.length_append, lT, lD]; omega)
  ·refine zad hT rfl rfl (.tmp rfl .nil) (fun w' hk => ?_)
   obtain ⟨q1, q2⟩ := Kn.outG' (L := L.take i ++ L.drop (i + 1)) (base := base) (e := 31) (sz := 4) (enc := EE) (v := .slice (some ⟨g, 0, none⟩) n c) hk mE
   exact ⟨_, rfl, q1, q2⟩
end Go.Proofs.YtaghmffgoomebaaGreat.Nd
namespace Go.Proofs.YtaghmffgoomebaaGreat.Nd
open Go.RowKit Mem Gx
set_option maxRecDepth 100000
set_option maxHeartbeats 2000000
theorem elt_Pn : Elt Tryz.prog 107 53 1 8 := zij
theorem zoh (A : Option Addr) (n c : Nat) (L : List Nat) (w : World) (hn : n = L.length) (hb : n ≤ 100000000) (hs : Sl w A 1 PE L) :
 Calls Tryz.prog 63 [.slice A n c].toArray w (Ret (fun s : SlV => s.Ok L.length) SlV.v (fun s => [sl s.A 1 PE L]) w) := by
 rcases A with _ | a
 ·have hL : L = [] := by
   rcases Nat.eq_zero_or_pos L.length with h | h
   ·exact List.length_eq_zero_iff.1 h
   ·obtain ⟨b, off, e, _⟩ := hs h; cases e
  subst hL
  refine zab T [] [] [] Tryz.func63 rfl Tryz.ntmps63 rfl (Kn.start _) ?_
  (repeat (refine gG ?_; try intro _))
  refine zba none 1 PE ?_
  refine zad hT rfl rfl (.tmp rfl .nil) (fun w' hk => ?_)
  exact Ret.mk ⟨none, 0, 0⟩ ⟨rfl, Nat.le_refl _, Nat.zero_le _, fun _ => rfl⟩ rfl hk sA
 ·refine zab T [] [] [sl (some a) 1 PE L] Tryz.func63 rfl Tryz.ntmps63 rfl ((Kn.start w).argR hs (by decide) (fun _ h => by cases h)) ?_
  (repeat (refine gG1 ?_; try intro _))
  refine g_mv rfl (zcZ 1 PE rfl hT rfl rfl rfl rfl rfl (fun g => ?_))
  (repeat (refine gG1 ?_; try intro _))
  refine g_mv rfl (zac (L := []) rfl L rfl rfl rfl rfl elt_Pn uD (zcG mE) hn (by intro x j; rfl) (by simp [maxLen]; omega) (by simp; omega) (Nat.zero_le _) (fun v => ?_))
  (repeat (refine gG1 ?_; try intro _))
  refine zaW _ uD (fun A2 c2 hA2 hA21 hA22 hA23 => ?_); subst hA2
  refine zad hT rfl rfl (.tmp rfl .nil) (fun w' hk => ?_)
  exact Ret.mk ⟨A2, _, c2⟩ ⟨by simp, hA21, hA22, hA23⟩ rfl hk sA
end Go.Proofs.YtaghmffgoomebaaGreat.Nd
