/- A disk: Read. Calls of chains and stores: page.Put, page.Of, bytes.Equal, rows of uint32, a place's blocks. maps.Keys, and what is made of it (uint32). refs.Table: Count, Hold, Drop, Len, Sum. -/
import Derived.Test.YtaghmffgoomebaaGreatDk7
import Derived.Test.YtaghmffgoomebaaGreatPage7
import Derived.Test.YtaghmffgoomebaaGreatGxY
import Derived.Test.YtaghmffgoomebaaGreatGxP
import Derived.Orders
set_option linter.unusedVariables false
set_option linter.unusedSimpArgs false
namespace Go.Proofs.YtaghmffgoomebaaGreat.Dk
open Go.RowKit Mem Gx Bytes
set_option maxRecDepth 100000
set_option maxHeartbeats 1000000
theorem zfw (a : Nat) (V : List Wr) : ∀ W : List Wr, lateOf a (W ++ V) = match lateOf a V with | some l => some l | none => lateOf a W
 | [] => by show lateOf a V = _; cases lateOf a V <;> rfl
 | x :: W => by
   show (match lateOf a (W ++ V) with | some l => some l | none => if x.1 = a then some x.2 else none) = _
   rw [zfw a V W]
   cases lateOf a V with
   | some l => rfl
   | none => rfl
theorem zeQ (a : Nat) : ∀ W : List Wr, (∀ x ∈ W, x.1 ≠ a) → lateOf a W = none
 | [], _ => rfl
 | x :: W, h => by
   show (match lateOf a W with | some l => some l | none => if x.1 = a then some x.2 else none) = _
   rw [zeQ a W fun y hy => h y (.tail _ hy)]
   exact if_neg (h x (.head _))
theorem zly {a i : Nat} {W : List WrD} {x : WrD} (hx : W[i]? = some x) (hxa : x.a = a) (hno : ∀ j y, i < j → W[j]? = some y → y.a ≠ a) : lateOf a (W.map WrD.c) = some x.d.L := by
 obtain ⟨h1, h2⟩ := List.getElem?_eq_some_iff.1 hx
 have e : W = W.take (i + 1) ++ W.drop (i + 1) := (List.take_append_drop _ _).symm
 have hd : lateOf a ((W.drop (i + 1)).map WrD.c) = none := zeQ a _ fun y hy => by
  obtain ⟨z, hz, rfl⟩ := List.mem_map.1 hy
  obtain ⟨j, hj⟩ := List.getElem?_of_mem hz
  rw [List.getElem?_drop] at hj
  exact hno (i + 1 + j) z (by omega) hj
 rw [e, List.map_append, zfw, hd, List.take_succ_eq_append_getElem h1, h2, List.map_append]
 show lateOf a ((W.take i).map WrD.c ++ [x.c]) = _
 rw [zeP, if_pos hxa]
theorem zh2 {a : Nat} {W : List WrD} (hno : ∀ (j : Nat) (y : WrD), W[j]? = some y → y.a ≠ a) : lateOf a (W.map WrD.c) = none := zeQ a _ fun y hy => by
 obtain ⟨z, hz, rfl⟩ := List.mem_map.1 hy
 obtain ⟨j, hj⟩ := List.getElem?_of_mem hz
 exact hno j z hj
theorem zmI {W : List WrD} {q : Nat} {p : Nat × WrD} (h : (backs W)[q]? = some p) : q + p.1 + 1 = W.length ∧ W[p.1]? = some p.2 := by
 have hq := (List.getElem?_eq_some_iff.1 h).1
 rw [zfb] at hq
 obtain ⟨x, hx⟩ : ∃ x, W[W.length - 1 - q]? = some x := ⟨W[W.length - 1 - q], List.getElem?_eq_getElem (by omega)⟩
 have h2 := zjF (q := q) (i := W.length - 1 - q) (by omega) hx
 rw [h] at h2
 obtain rfl := Option.some.inj h2
 exact ⟨by show q + (W.length - 1 - q) + 1 = _; omega, hx⟩
theorem zmm (g : Nat) (sv lv : Value) (S : List SecD) (W : List WrD) (a : Nat) (w : World) (ho : DkOk S W) (hl : W.length ≤ 100000) (ha : a < S.length) (h : Rd1 w (dkF g ⟨sv, lv, S, W⟩)) :
 Calls Tryz.prog 77 [.pointer (some ⟨g, 0, none⟩), .int .i64 (a : Nat)].toArray w (Ret (fun s : SlV => s.Ok (dread (S.map SecD.L) (W.map WrD.c) a).length) (fun s => .tuple #[.slice s.A s.n s.c, .int .i64 0]) (fun s => [sl s.A 1 (IE .u8) (dread (S.map SecD.L) (W.map WrD.c) a)]) w) := by
 obtain ⟨uA, uc, rfl, _, _, _, hsu⟩ := zcw (α := SecD) (Rd1.unpack h (φ := own 0 23 1 sv SE S) (.tail _ (.head _)))
 obtain ⟨lA, lc, rfl, _, _, _, hsl⟩ := zcw (α := WrD) (Rd1.unpack h (φ := own 0 119 2 lv WE W) (.tail _ (.tail _ (.head _))))
 have hn := ho.n
 refine zab T [] [] [blk g [.slice uA S.length uc, .slice lA W.length lc, .bool false, .int .i64 0] 114, sl uA 1 SE S, sl lA 2 WE W, allF S secF, allF W wrF] Tryz.func77 rfl Tryz.ntmps77 rfl (Rds.cons (Rd1.unpack h (.head _)) (.cons hsu (.cons hsl (.cons (Rd1.unpack h (.tail _ (.tail _ (.tail _ (.head _))))) (.cons (Rd1.unpack h (.tail _ (.tail _ (.tail _ (.tail _ (.head _)))))) .nil))))).kn ?_
 refine za9 (g := g) mE ?_
 (repeat (refine gG ?_; try intro _))
 rename_i g3 g4 g5
 refine zas [2, 3] (Cut _ (fun _ : Unit => [(0, .pointer (some ⟨g, 0, none⟩)), (3, .pointer (some ⟨g3, 0, none⟩)), (4, .pointer (some ⟨g4, 0, none⟩)), (5, .pointer (some ⟨g5, 0, none⟩)), (18, .bool false)]) (fun _ => [blk g3 [.int .i64 (a : Nat)] 3, blk g4 [.slice none 0 0] 23, blk g5 [.int .i64 0] 39]) (fun _ => [row g 0 [.slice uA S.length uc, .slice lA W.length lc, .bool false, .int .i64 0], blk g [.slice uA S.length uc, .slice lA W.length lc, .bool false, .int .i64 0] 114, sl uA 1 SE S, sl lA 2 WE W, allF S secF, allF W wrF])) rfl rfl kR ?_ (zaD fun _ => ?_)
 ·skip
  refine gW hT 0 ?_
  refine gY hT 1 ?_
  try (refine zam 9 (.bool false) rfl (congrArg Value.bool (zaj (by omega))) ?_)
  refine gY hT 2 ?_
  first | refine gW hT 3 ?_ | refine gZ 3 ?_
  first | refine gY hT 4 ?_ | refine gZ 4 ?_
  first | refine gY hT 5 ?_ | refine gZ 5 ?_
  first | refine gY hT 6 ?_ | refine gZ 6 ?_
  first | refine gW hT 7 ?_ | refine gZ 7 ?_
  first | refine gY hT 8 ?_ | refine gZ 8 ?_
  first | refine gY hT 9 ?_ | refine gZ 9 ?_
  try (refine zam 17 (.bool false) rfl (congrArg Value.bool (zaj (by omega))) ?_)
  refine gY hT 10 ?_
  refine zak dK ?_
  exact ⟨(), fS, sA, sS⟩
 ·(repeat (refine gG ?_; try intro _))
  refine cR (fun w hk => zol lA W.length lc w) (fun bt _ => ?_)
  refine zbw (φ := blk bt [.slice lA W.length lc] 112) sE ?_
  (repeat (refine gG ?_; try intro _))
  refine zgn (σ := Unit) (σx := SlV) (α := Nat × WrD) (enc := fun p : Nat × WrD => [.int .i64 (p.1 : Nat), p.2.val]) (xs := backs W) (RA := [blk bt [.slice lA W.length lc] 112, sl lA 2 WE W]) (pl := [24, 25]) (gf := 126) (caps := [.pointer (some ⟨bt, 0, none⟩)]) (fun q _ => ∀ j y, W.length ≤ j + q → W[j]? = some y → y.a ≠ a) (fun _ => [blk g3 [.int .i64 (a : Nat)] 3, blk g4 [.slice none 0 0] 23, blk g5 [.int .i64 0] 39]) (fun c y => c = .ret ∧ y.Ok (dread (S.map SecD.L) (W.map WrD.c) a).length) (fun _ y => [blk g3 [.int .i64 (a : Nat)] 3, blk g4 [.slice y.A y.n y.c] 23, blk g5 [.int .i64 0] 39, sl y.A 1 (IE .u8) (dread (S.map SecD.L) (W.map WrD.c) a)]) () [] rfl rfl kR rfl (fun _ => rfl) (fun w hk => zmJ W lA W.length lc bt w rfl hl (.cons (hk.rR mE) (.cons (hk.rR mE) .nil))) sS (fun j y hj hy => absurd (List.getElem?_eq_some_iff.1 hy).1 (by omega)) sA (fun L q x s w hX hRc hI hOO hOut hOX hx hi hup => ?_) (fun D s hi => ?_) (fun D c y hy => ?_)
  ·obtain ⟨X', l, D, rc, Inv', OO', Out', OX'⟩ := L
   dsimp only at hX hI hOO hOut hOX
   subst hX hI hOO hOut hOX
   obtain ⟨i, xa, ⟨⟨xA, xn, xc⟩, XL⟩⟩ := x
   obtain ⟨hqi, hxi⟩ := zmI hx
   dsimp only at hqi hxi
   have hxm := List.mem_of_getElem? hxi
   have hxo := (ho.w _ hxm).1
   have hxn : xn = XL.length := hxo.s.n
   have hx8 : XL.length = 128 := hxo.k.1
   change GK _ _ _ [recF l (rc .ready none), dfr D, blk g3 [.int .i64 (a : Nat)] 3, blk g4 [.slice none 0 0] 23, blk g5 [.int .i64 0] 39] _
   refine zbs 25 (.agg #[.int .i64 (xa : Nat), .slice xA xn xc]) rfl rfl ?_
   (repeat (refine gG ?_; try intro _))
   refine zgr rfl sE (hRc.st _ _) (fun bF hbF => ?_)
   by_cases hxa : xa = a
   ·have hlt : dread (S.map SecD.L) (W.map WrD.c) a = XL := by
     unfold dread
     rw [zly hxi hxa (fun j y hj hy => hi j y (by omega) hy)]
     rfl
    subst hlt
    (repeat' (first | (refine gH ?_; try intro _) | (refine gS ?_ ?_ <;> intro _) | fail))
    refine cR (fun w hk => zgA xA xn xc (dread (S.map SecD.L) (W.map WrD.c) a) w hxn (by omega) (hk.pR (allF W wrF) mE _ hxm)) (fun s hs => ?_)
    obtain ⟨cA, cn, cc⟩ := s
    refine zaK 32 (.slice cA cn cc) rfl rfl ?_
    (repeat (refine gG ?_; try intro _))
    refine zgp hRc ⟨cA, cn, cc⟩ rfl ⟨rfl, hs⟩ [blk g3 [.int .i64 (a : Nat)] 3, blk g4 [.slice cA cn cc] 23, blk g5 [.int .i64 0] 39, sl cA 1 (IE .u8) (dread (S.map SecD.L) (W.map WrD.c) a)] rfl hbF sA
   ·(repeat' (first | (refine gH ?_; try intro _) | (refine gS ?_ ?_ <;> intro _) | fail))
    refine zgl hRc () rfl (fun j y hj hy => ?_) [blk g3 [.int .i64 (a : Nat)] 3, blk g4 [.slice none 0 0] 23, blk g5 [.int .i64 0] 39] rfl hbF sA
    by_cases hji : j = i
    ·subst hji
     rw [hxi] at hy
     obtain rfl := Option.some.inj hy
     exact hxa
    ·exact hi j y (by omega) hy
  ·have hdd : dread (S.map SecD.L) (W.map WrD.c) a = (S[a]'ha).L := by
    unfold dread
    rw [zh2 (fun j y hy => hi j y (by rw [zfb]; omega) hy)]
    show ((S.map SecD.L)[a]?).getD [] = _
    rw [List.getElem?_map, List.getElem?_eq_getElem ha]
    rfl
   change GK _ _ _ [dfr D, blk g3 [.int .i64 (a : Nat)] 3, blk g4 [.slice none 0 0] 23, blk g5 [.int .i64 0] 39] _
   obtain ⟨d0, hd0⟩ : ∃ d, S[a]? = some d := ⟨S[a], List.getElem?_eq_getElem ha⟩
   have hd0m := List.mem_of_getElem? hd0
   have hd0o := ho.s _ hd0m
   have hd0L : (S[a]'ha).L = d0.L := by rw [(List.getElem?_eq_some_iff.1 hd0).2]
   rw [hd0L] at hdd
   obtain ⟨⟨xA, xn, xc⟩, XL⟩ := d0
   dsimp only at hdd
   have hxn : xn = XL.length := hd0o.s.n
   have hx8 : XL.length = 128 := hd0o.k.1
   subst hdd
   refine zar (enc := SE) (L := S) a mE (by omega) (by decide) (fun b2 o2 y2 eA2 hy2 => ?_)
   subst eA2
   rw [hd0] at hy2
   obtain rfl := Option.some.inj hy2
   refine zas [1, 4, 6] (Cut _ (fun _ : {s : SlV // s.Ok (dread (S.map SecD.L) (W.map WrD.c) a).length} => [(4, .pointer (some ⟨g4, 0, none⟩)), (5, .pointer (some ⟨g5, 0, none⟩))]) (fun s => [dfr D, blk g4 [.slice s.1.A s.1.n s.1.c] 23, blk g5 [.int .i64 0] 39, sl s.1.A 1 (IE .u8) (dread (S.map SecD.L) (W.map WrD.c) a)]) (fun _ => [])) rfl rfl kR ?_ (zaD fun s => ?_)
   ·skip
    refine gY hT 0 ?_
    refine gY hT 1 ?_
    refine gY hT 2 ?_
    refine gW hT 3 ?_
    refine gW hT 4 ?_
    refine gY hT 5 ?_
    refine gW hT 6 ?_
    refine gP 7 ?_
    refine za3 (fun w hk => zgA xA xn xc (dread (S.map SecD.L) (W.map WrD.c) a) w hxn (by omega) (hk.pR (allF S secF) mE _ hd0m)) rfl rfl rfl rfl rfl kR (fun _ => rfl) (fun ⟨cA, cn, cc⟩ hs => ?_)
    refine ⟨sF, ?_⟩
    try (refine zam 40 (.slice cA cn cc) rfl rfl ?_)
    first | refine gO 8 ?_ | (refine gX 8 ?_; intro _)
    first | refine gO 9 ?_ | (refine gX 9 ?_; intro _)
    refine zak dK ?_
    exact ⟨⟨⟨cA, cn, cc⟩, hs⟩, fS, sA, sS⟩
   ·obtain ⟨s, hs⟩ := s
    dsimp only
    refine zgm hT (.cons sE .nil) rfl rfl (.cell rfl mE rfl rfl (.cell rfl mE rfl rfl .nil)) (fun w' hk => ?_)
    exact Ret.mk s hs rfl hk sA
  ·obtain ⟨rfl, hyo⟩ := hy
   change GK _ _ _ [dfr D, blk g3 [.int .i64 (a : Nat)] 3, blk g4 [.slice y.A y.n y.c] 23, blk g5 [.int .i64 0] 39, sl y.A 1 (IE .u8) (dread (S.map SecD.L) (W.map WrD.c) a)] _
   refine zgm hT (.cons sE .nil) rfl rfl (.cell rfl mE rfl rfl (.cell rfl mE rfl rfl .nil)) (fun w' hk => ?_)
   exact Ret.mk y hyo rfl hk sA
end Go.Proofs.YtaghmffgoomebaaGreat.Dk
namespace Go.Proofs.YtaghmffgoomebaaGreat.Ch
open Go.RowKit Mem Gx Bytes Dk
set_option maxRecDepth 100000
set_option maxHeartbeats 2000000
theorem zdV {α : Type} [Inhabited α] {F : Value → Value} {sz : Nat} {enc : α → Nat → Value} {L : List α} {P : Program} {fid : FuncId} {args : Array Value} {w : World} {e' : TypeId} (hsz : 0 < sz) (h : Calls P fid args w fun e w' => ∃ v, e = .returned (F v) ∧ OwnL w' w.heap.size e' sz v enc L ∧ Below w.heap.size w w') :
 Calls P fid args w (Ret (fun s : SlV => s.Ok L.length) (fun s => F s.v) (fun s => [sl s.A sz enc L]) w) :=
 h.mono fun e w' ⟨v, h1, h2, h3⟩ => by
  obtain ⟨A, c, rfl, k1, k2, k3, k4, k5⟩ := OwnL.sl h2
  refine ⟨⟨A, _, c⟩, ⟨rfl, k2, k3, k4⟩, h1, ⟨h3, fun φ hφ => ?_, List.pairwise_singleton _ _⟩⟩
  obtain rfl := m1 hφ
  refine ⟨k1, fun b hb => ?_⟩
  obtain ⟨_, a, ha, hab⟩ := hb
  rw [← hab]
  exact k5 a ha
abbrev RetB (F : Value → Value) (L : List Int) (w : World) : Ending → World → Prop := Ret (fun s : SlV => s.Ok L.length) (fun s => F s.v) (fun s => [sl s.A 1 (IE .u8) L]) w
theorem zf5 (k : Int) (s : SlV) (L : List Int) (w : World) (h1 : 1 ≤ k) (h2 : k ≤ 6) (hs : s.Ok L.length) (hL : L.length ≤ 120) (h : Sl w s.A 1 (IE .u8) L) (hB : IsB L) :
 Calls Tryz.prog 102 [.int .i64 k, s.v].toArray w (RetB (fun v => .tuple #[v, .int .i64 0]) (Page.page k L) w) :=
 zdV (by decide) (Page.zoB k s.A s.n s.c L w h1 h2 hs.n (by rw [hs.n]; exact hL) h hB)
theorem zoF {E : List Nat} {w0 w : World} {O R : List Fact} {α : Type} [Inhabited α] {base e sz n c : Nat} {A : Option Addr} {enc : α → Nat → Value} {L : List α} (hk : Kn E w0 w O R) (h : own base e sz (.slice A n c) enc L ∈ O) : Sl w A sz enc L := by
 obtain ⟨A', c', hv, hs, _⟩ := hk.ownSl h
 injection hv with h1 h2 h3
 subst h1
 exact hs
theorem zaO : Elt Tryz.prog 43 26 1 4 := Elt.mk' (z := .int .u32 0) Tryz.underlying43 kR rfl (by decide)
theorem zih (A A' : Option Addr) (n c n' c' : Nat) (L L' : List Int) (w : World) (hn : n = L.length) (hn' : n' = L'.length) (h9 : n ≤ 9223372036854775807) (hs : Sl w A 1 (IE .u32) L) (hs' : Sl w A' 1 (IE .u32) L') :
 Calls Tryz.prog 12 [.slice A n c, .slice A' n' c'].toArray w fun e w' => e = .returned (.bool (tB (L = L'))) ∧ Below w.heap.size w w' := by
 by_cases hne : n = n'
 ·subst hne
  refine zab T [] [] [sl A' 1 (IE .u32) L', sl A 1 (IE .u32) L] Tryz.func12 rfl Tryz.ntmps12 rfl (((Kn.start w).argR hs (by decide) (fun _ h => by cases h)).argR hs' (by decide) (fun _ h => by cases h)) ?_
  (repeat' (first | (refine gH ?_; try intro _) | (refine gS ?_ ?_ <;> intro _) | fail))
  refine zlT (fun k : Nat => k ≤ n ∧ ∀ i, i < k → L[i]? = L'[i]?) (fun k => [(0, .slice A n c), (1, .slice A' n c'), (12, .int .i64 n), (13, .int .i64 k)]) (fun _ => []) (fun _ => [sl A' 1 (IE .u32) L', sl A 1 (IE .u32) L]) (fun k => n - k) 0 rfl ⟨Nat.zero_le _, fun i hi => absurd hi (Nat.not_lt_zero _)⟩ ⟨rfl, rfl, rfl, rfl, trivial⟩ sL sS ?_
  rintro k ⟨hk, hp⟩
  (repeat (refine gG ?_; try intro _))
  refine zaJ rfl rfl (zaH _) (fun h1 => ?_) (fun h1 => ?_)
  ·have hkn : k < n := by omega
   refine zar (enc := (IE .u32)) (L := L) k mE (by omega) (by decide) (fun b off y eA hy => ?_)
   refine zar (enc := (IE .u32)) (L := L') k mE (by omega) (by decide) (fun b' off' y' eA' hy' => ?_)
   subst eA
   subst eA'
   (repeat (refine gG ?_; try intro _))
   refine zaP [0, 1] rfl rfl kR ?_
   (repeat (first | refine zbC dK ?_ | refine zae dK rfl rfl (zcc (nw := true) hT rfl sI) sF ?_ | refine za5 dK rfl rfl sF ?_ | refine zae dK rfl rfl (zbp hT rfl rfl mE rfl rfl) sF ?_ | refine zae dK rfl rfl (zbn hT rfl rfl mE rfl rfl) sF ?_ | refine zae dK rfl rfl (za1 hT rfl rfl mE rfl rfl) sF ?_ | (refine zcm dK rfl ?_; (first | (refine zaT rfl rfl rfl rfl ?_; intro _) | (refine zay rfl hT rfl rfl ?_; intro _) | refine zat hT rfl rfl rfl rfl rfl rfl sO rfl ?_ | (refine zaa rfl hT rfl rfl rfl rfl rfl rfl rfl rfl ?_; intro _)); refine ⟨sF, ?_⟩) | refine zae dK rfl rfl (zby rfl rfl rfl rfl rfl kR) sF ?_ | refine zae dK rfl rfl (za8 rfl rfl rfl rfl rfl kR) sF ?_))
   (repeat (refine gG ?_; try intro _))
   refine zaJ rfl rfl (zaH _) (fun h2 => ?_) (fun h2 => ?_)
   ·(repeat (refine gG ?_; try intro _))
    refine zad hT rfl rfl (.tmp rfl .nil) (fun w' hk => ?_)
    refine ⟨?_, hk.toBelow⟩
    rw [zaj (zpu hy hy' (fun e => h2 (by subst e; exact rfl)))]
    rfl
   ·(repeat (refine gG ?_; try intro _))
    refine znS rfl (k + 1) ⟨by omega, fun i hi => ?_⟩ (by omega) ⟨rfl, rfl, rfl, rfl, trivial⟩ sL sS
    by_cases e : i = k
    ·subst e
     rw [hy, hy', show y = y' from id (Classical.byContradiction h2)]
    ·exact hp i (by omega)
  ·(repeat (refine gG ?_; try intro _))
   refine zad hT rfl rfl (.tmp rfl .nil) (fun w' hk => ?_)
   refine ⟨?_, hk.toBelow⟩
   rw [zan (zpv (by omega) (fun i hi => hp i (by omega)))]
   rfl
 ·refine zab T [] [] [] Tryz.func12 rfl Tryz.ntmps12 rfl (Kn.start _) ?_
  (repeat' (first | (refine gH ?_; try intro _) | (refine gS ?_ ?_ <;> intro _) | fail))
  refine zad hT rfl rfl (.tmp rfl .nil) (fun w' hk => ?_)
  refine ⟨?_, hk.toBelow⟩
  rw [zaj (fun e => hne (by rw [hn, hn', e]))]
  rfl
theorem oneU : ∀ (x : Int) (j : Nat), (IE .u32 x j).oneCell' = true := fun x j => rfl
def posU : List Int → Int → Int
 | [], _ => -1
 | y :: r, x => if y = x then 0 else if posU r x = -1 then -1 else posU r x + 1
theorem zk1 : ∀ {L : List Int} {k : Nat} {x : Int}, L[k]? = some x → (∀ i, i < k → L[i]? ≠ some x) → posU L x = (k : Int)
 | [], k, x, h, _ => by simp at h
 | y :: r, 0, x, h, _ => by
   rw [List.getElem?_cons_zero] at h
   unfold posU
   rw [if_pos (Option.some.inj h)]
   rfl
 | y :: r, k + 1, x, h, hn => by
   have h0 := hn 0 (Nat.succ_pos _)
   rw [List.getElem?_cons_zero] at h0
   rw [List.getElem?_cons_succ] at h
   have ih := zk1 h (fun i hi => by have := hn (i + 1) (Nat.succ_lt_succ hi); rwa [List.getElem?_cons_succ] at this)
   unfold posU
   rw [if_neg (fun e => h0 (congrArg some e)), ih, if_neg (by omega)]
   omega
theorem zkZ : ∀ {L : List Int} {x : Int}, (∀ i, i < L.length → L[i]? ≠ some x) → posU L x = -1
 | [], x, _ => rfl
 | y :: r, x, hn => by
   have h0 := hn 0 (Nat.succ_pos _)
   rw [List.getElem?_cons_zero] at h0
   have ih := zkZ (L := r) (x := x) (fun i hi => by have := hn (i + 1) (Nat.succ_lt_succ hi); rwa [List.getElem?_cons_succ] at this)
   unfold posU
   rw [if_neg (fun e => h0 (congrArg some e)), if_pos ih]
theorem zk0 : ∀ (L : List Int) (x : Int), -1 ≤ posU L x
 | [], x => Int.le_refl _
 | y :: r, x => by
   have := zk0 r x
   unfold posU
   split
   ·omega
   ·split <;> omega
theorem ziR : ∀ {L : List Int} {x : Int}, 0 ≤ posU L x ↔ x ∈ L
 | [], x => ⟨fun h => absurd h (by unfold posU; decide), fun h => by cases h⟩
 | y :: r, x => by
   have ih := ziR (L := r) (x := x)
   have hg := zk0 r x
   rw [List.mem_cons, ← ih, show posU (y :: r) x = if y = x then 0 else if posU r x = -1 then -1 else posU r x + 1 from rfl]
   by_cases e : y = x
   ·rw [if_pos e]; exact ⟨fun _ => .inl e.symm, fun _ => Int.le_refl _⟩
   ·rw [if_neg e]
    by_cases e2 : posU r x = -1
    ·rw [if_pos e2, e2]; exact ⟨fun h => absurd h (by decide), fun h => by rcases h with h | h; exact absurd h.symm e; exact absurd h (by decide)⟩
    ·rw [if_neg e2]; exact ⟨fun _ => .inr (by omega), fun _ => by omega⟩
theorem zpG (A : Option Addr) (n c : Nat) (L : List Int) (id : Int) (w : World) (hn : n = L.length) (h9 : n ≤ maxLen) (hs : Rd1 w (sl A 1 (IE .u32) L)) :
 Calls Tryz.prog 43 [.slice A n c, .int .u32 id].toArray w fun e w' => e = .returned (.int .i64 (posU L id)) ∧ Below w.heap.size w w' := by
 unfold maxLen at h9
 refine zab T [] [] [sl A 1 (IE .u32) L] Tryz.func43 rfl Tryz.ntmps43 rfl (Rds.cons hs .nil).kn ?_
 (repeat (refine gG ?_; try intro _))
 refine gL2 (fun (k : Nat) (u : Nat) => (k ≤ n ∧ ∀ i, i < k → L[i]? ≠ some id)) (fun k u => [(0, .slice A n c), (1, .int .u32 id), (7, .int .i64 n), (8, .int .i64 k)]) (fun k u => []) (fun k u => [sl A 1 (IE .u32) L]) (fun k u => n - k) 0 0 ⟨Nat.zero_le _, fun i hi => absurd hi (Nat.not_lt_zero _)⟩ ?_
 rintro k u hI
 obtain ⟨hk1, hp⟩ := hI
 by_cases hlt : k < n
 ·obtain ⟨x, hx⟩ : ∃ x, L[k]? = some x := ⟨L[k], List.getElem?_eq_getElem (by omega)⟩
  refine zar (enc := IE .u32) (L := L) k mE (by omega) (by decide) (fun b o y eA hy => ?_)
  subst eA
  obtain rfl : x = y := by rw [hx] at hy; exact Option.some.inj hy
  (repeat (refine gG ?_; try intro _))
  refine zaJ rfl rfl (zaH _) (fun _ => ?_) (fun h => absurd (by omega) h)
  (repeat (refine gG ?_; try intro _))
  refine zaJ rfl rfl (zaH _) (fun he => ?_) (fun he => ?_)
  ·(repeat (refine gG ?_; try intro _))
   refine zad hT rfl rfl (.tmp rfl .nil) (fun w' hk => ?_)
   refine ⟨?_, hk.toBelow⟩
   have : posU L id = (k : Int) := zk1 (by rw [hx]; exact congrArg some he.symm) hp
   rw [this]
   rfl
  ·(repeat (refine gG ?_; try intro _))
   refine zag rfl (k + 1, u) ⟨by omega, fun i hi => by
    by_cases e : i = k
    ·subst e; rw [hx]; exact fun h => he (Option.some.inj h).symm
    ·exact hp i (by omega)⟩ (by dsimp only; omega) fS sA sS
 ·(repeat' (first | (refine gH ?_; try intro _) | (refine gS ?_ ?_ <;> intro _) | fail))
  refine zad hT rfl rfl (.tmp rfl .nil) (fun w' hk => ?_)
  refine ⟨?_, hk.toBelow⟩
  have : posU L id = -1 := zkZ fun i hi => hp i (by omega)
  rw [this]
  rfl
theorem zjB (A : Option Addr) (n c : Nat) (L : List Int) (id : Int) (w : World) (hn : n = L.length) (h9 : n ≤ maxLen) (hs : Rd1 w (sl A 1 (IE .u32) L)) :
 Calls Tryz.prog 19 [.slice A n c, .int .u32 id].toArray w fun e w' => e = .returned (.bool (tB (id ∈ L))) ∧ Below w.heap.size w w' := by
 refine zab T [] [] [sl A 1 (IE .u32) L] Tryz.func19 rfl Tryz.ntmps19 rfl (Rds.cons hs .nil).kn ?_
 (repeat' (first | (refine gH ?_; try intro _) | (refine g_mv rfl ?_; refine cb (fun w hk => zpG A n c L id w hn h9 (hk.rR mE)) ?_) | (refine gS ?_ ?_ <;> intro _) | fail))
 refine zad hT rfl rfl (.tmp rfl .nil) (fun w' hk => ?_)
 exact ⟨by rw [← zbU (ziR (L := L) (x := id))]; rfl, hk.toBelow⟩
theorem zft (a lg : Nat) (ha : 1 ≤ a) (ha9 : a ≤ 4294967295) (hl : lg ≤ 100000) (w : World) : Calls Tryz.prog 27 [.int .u32 (a : Nat), .int .i64 (lg : Nat)].toArray w fun e w' => e = .returned (.int .i64 ((a + lg + 1 : Nat) : Int)) ∧ Below w.heap.size w w' := by
 refine zab T [] [] [] Tryz.func27 rfl Tryz.ntmps27 rfl (Kn.start _) ?_
 (repeat' (first | (refine gH ?_; try intro _) | (refine gS ?_ ?_ <;> intro _) | fail))
 refine zad hT rfl rfl (.tmp rfl .nil) (fun w' hk => ?_)
 exact ⟨congrArg (fun q => Ending.returned (.int .i64 q)) (by omega), hk.toBelow⟩
theorem zg3 (g lg : Nat) (sv lv : Value) (S : List SecD) (W : List WrD) (a : Nat) (w : World) (ho : DkOk S W) (hl : W.length ≤ 100000) (ha : 1 ≤ a) (ha9 : a ≤ 4294967295) (hlg : lg ≤ 100000) (hS : a + lg + 1 < S.length) (h : Rd1 w (dkF g ⟨sv, lv, S, W⟩)) :
 Calls Tryz.prog 50 [.agg #[.pointer (some ⟨g, 0, none⟩), .int .i64 (lg : Nat)], .int .u32 (a : Nat)].toArray w (Ret (fun s : SlV => s.Ok (dread (S.map SecD.L) (W.map WrD.c) (a + lg + 1)).length) (fun s => .tuple #[.slice s.A s.n s.c, .int .i64 0]) (fun s => [sl s.A 1 (IE .u8) (dread (S.map SecD.L) (W.map WrD.c) (a + lg + 1))]) w) := by
 refine zab T [] [] [dkF g ⟨sv, lv, S, W⟩] Tryz.func50 rfl Tryz.ntmps50 rfl (Rds.cons h .nil).kn ?_
 (repeat' (first | (refine gH ?_; try intro _) | (refine gS ?_ ?_ <;> intro _) | fail))
 rename_i g2
 refine zas [0, 1] (Cut _ (fun u : {s : SlV // s.Ok (dread (S.map SecD.L) (W.map WrD.c) (a + lg + 1)).length} => [(4, .slice u.1.A u.1.n u.1.c), (5, .int .i64 0)]) (fun u => [sl u.1.A 1 (IE .u8) (dread (S.map SecD.L) (W.map WrD.c) (a + lg + 1))]) (fun _ => [])) rfl rfl kR ?_ (zaD fun u => ?_)
 ·skip
  refine gY hT 0 ?_
  refine gW hT 1 ?_
  refine gY hT 2 ?_
  refine gY hT 3 ?_
  refine gW hT 4 ?_
  refine gP 5 ?_
  refine zau (fun w hk => zft a lg ha ha9 hlg w) rfl rfl rfl rfl rfl kR ?_
  refine ⟨sF, ?_⟩
  refine gP 6 ?_
  refine zhY (fun w hk => zmm g sv lv S W (a + lg + 1) w ho hl hS (hk.rR (φ := dkF g ⟨sv, lv, S, W⟩) mE)) rfl rfl rfl rfl rfl kR (fun u hu => ?_)
  refine ⟨sF, ?_⟩
  refine gY hT 7 ?_
  refine gY hT 8 ?_
  refine gY hT 9 ?_
  refine gY hT 10 ?_
  refine zak dK ?_
  exact ⟨⟨u, hu⟩, fS, sA, sS⟩
 ·obtain ⟨u, hu⟩ := u
  (repeat (refine gG ?_; try intro _))
  refine zad hT rfl rfl (.tmp rfl (.tmp rfl .nil)) (fun w' hk => ?_)
  exact Ret.mk u hu rfl hk sA
theorem zfu (g lg : Nat) (sv lv : Value) (S : List SecD) (W : List WrD) (a : Nat) (bA : Option Addr) (bn bc : Nat) (B : List Int) (w : World) (ho : DkOk S W) (hl : W.length ≤ 100000) (ha : 1 ≤ a) (ha9 : a ≤ 4294967295) (hlg : lg ≤ 100000) (hS : a + lg + 1 < S.length) (hbn : bn = B.length) (hB : SecOk B) (h : Rd1 w (dkF g ⟨sv, lv, S, W⟩)) (hb : Rd1 w (sl bA 1 (IE .u8) B)) (hbd : ∀ b, (dkF g ⟨sv, lv, S, W⟩).S b → ¬ (sl bA 1 (IE .u8) B).S b) :
 Calls Tryz.prog 9 [.agg #[.pointer (some ⟨g, 0, none⟩), .int .i64 (lg : Nat)], .int .u32 (a : Nat), .slice bA bn bc].toArray w (RetM (dkF g ⟨sv, lv, S, W⟩) (fun q : Value × SecD => q.2.Ok ∧ q.2.L = B) (fun _ => .int .i64 0) (fun q => dkF g ⟨sv, q.1, S, W ++ [(⟨a + lg + 1, q.2⟩ : WrD)]⟩) w) := by
 refine zab T (finE (dkF g ⟨sv, lv, S, W⟩) w) [dkF g ⟨sv, lv, S, W⟩] [sl bA 1 (IE .u8) B] Tryz.func9 rfl Tryz.ntmps9 rfl (Kn.startM h (fun b hb => (zaB h.2 b).2 hb) (fun ψ hψ => by obtain rfl := m1 hψ; exact ⟨hb, hbd⟩)) ?_
 (repeat' (first | (refine gH ?_; try intro _) | (refine gS ?_ ?_ <;> intro _) | fail))
 rename_i g2
 refine zas [0, 2] (Cut _ (fun q : {q : Value × SecD // q.2.Ok ∧ q.2.L = B} => [(6, .int .i64 0)]) (fun q => [dkF g ⟨sv, q.1.1, S, W ++ [(⟨a + lg + 1, q.1.2⟩ : WrD)]⟩]) (fun _ => [])) rfl rfl kR ?_ (zaD fun q => ?_)
 ·skip
  refine gY hT 0 ?_
  refine gW hT 1 ?_
  refine gY hT 2 ?_
  refine gY hT 3 ?_
  refine gW hT 4 ?_
  refine gY hT 6 ?_
  refine gP 5 ?_
  refine zau (fun w hk => zft a lg ha ha9 hlg w) rfl rfl rfl rfl rfl kR ?_
  refine ⟨sF, ?_⟩
  refine gP 7 ?_
  refine zax (φ := dkF g ⟨sv, lv, S, W⟩) (ψ := fun q : Value × SecD => dkF g ⟨sv, q.1, S, W ++ [(⟨a + lg + 1, q.2⟩ : WrD)]⟩) (fun w1 hk => by exact zkg g sv lv S W (a + lg + 1) bA bn bc B w1 ho hl hS hbn hB (hk.rO (φ := dkF g ⟨sv, lv, S, W⟩) mE) (hk.rR (φ := sl bA 1 (IE .u8) B) mE) (fun b hb => hk.disR (dkF g ⟨sv, lv, S, W⟩) mE (sl bA 1 (IE .u8) B) mE b hb)) rfl rfl rfl rfl rfl kR uD (fun q hq => ?_)
  refine ⟨sF, ?_⟩
  refine gY hT 8 ?_
  refine zak dK ?_
  exact ⟨⟨q, hq⟩, fS, sA, sS⟩
 ·obtain ⟨q, hq⟩ := q
  (repeat (refine gG ?_; try intro _))
  refine zad hT rfl rfl (.tmp rfl .nil) (fun w' hk => ?_)
  exact RetM.mk (ψ := fun q : Value × SecD => dkF g ⟨sv, q.1, S, W ++ [(⟨a + lg + 1, q.2⟩ : WrD)]⟩) q hq rfl hk (fun b hb => (zaB h.2 b).1 hb) mE
end Go.Proofs.YtaghmffgoomebaaGreat.Ch
namespace Go.Proofs.YtaghmffgoomebaaGreat.KyU
open Go.RowKit Mem Gx
set_option maxRecDepth 100000
set_option maxHeartbeats 1000000
theorem za6 : Elt Tryz.prog 43 26 1 4 := Elt.mk' (z := .int .u32 0) Tryz.underlying43 kR rfl (by decide)
structure GoodK (M : List (Int × Value)) (q : List Nat × List (Int)) : Prop where
 nd : q.1.Nodup
 lt : ∀ i, i ∈ q.1 → i < M.length
 pm : q.2.Perm (q.1.filterMap fun i => (M[i]?).map (·.1))
theorem GoodK.step {M : List (Int × Value)} {Q : List Nat} {ys : List (Int)} {i : Nat} {x : Int} {v : Value} (g : GoodK M (Q, ys)) (hi : M[i]? = some (x, v)) (hq : i ∉ Q) : GoodK M (i :: Q, ys ++ [x]) :=
 ⟨List.nodup_cons.2 ⟨hq, g.nd⟩, fun j hj => by
  rcases List.mem_cons.1 hj with rfl | hj
  ·exact (List.getElem?_eq_some_iff.1 hi).1
  ·exact g.lt j hj, by
  have e : (i :: Q).filterMap (fun i => (M[i]?).map (·.1)) = x :: Q.filterMap (fun i => (M[i]?).map (·.1)) := by rw [List.filterMap_cons, hi]; rfl
  show (ys ++ [x]).Perm ((i :: Q).filterMap fun i => (M[i]?).map (·.1))
  rw [e]
  exact (List.perm_append_singleton x ys).trans (g.pm.cons x)⟩
theorem zjS (M : List (Int × Value)) (k : Nat) (hk : k ≤ M.length) : (List.range k).filterMap (fun i => (M[i]?).map (·.1)) = (M.take k).map (·.1) := by
 induction k with
 | zero => rfl
 | succ k ih =>
   have e : M[k]? = some M[k] := List.getElem?_eq_getElem (by omega)
   rw [List.range_succ, List.filterMap_append, ih (by omega), List.take_succ_eq_append_getElem (by omega), List.map_append, List.filterMap_cons, e]
   rfl
theorem GoodK.fin {M : List (Int × Value)} {q : List Nat × List (Int)} (g : GoodK M q) (h : ∀ i, i < M.length → i ∈ q.1) : q.2.Perm (M.map (·.1)) := by
 have h1 : q.1.Perm (List.range M.length) := (List.perm_ext_iff_of_nodup g.nd List.nodup_range).2 fun i => by
  rw [List.mem_range]
  exact ⟨g.lt i, h i⟩
 have h2 := zjS M M.length (Nat.le_refl _)
 rw [List.take_length] at h2
 rw [← h2]
 exact g.pm.trans (h1.filterMap _)
theorem zg2 {w : World} : ∀ {l : List Fact}, (∀ φ, φ ∈ l → Rd1 w φ) → Rds w l
 | [], _ => .nil
 | _ :: _, h => .cons (h _ (.head _)) (zg2 fun φ hφ => h φ (.tail _ hφ))
theorem Kn.rds {E : List Nat} {w0 w : World} {O R l : List Fact} (h : Kn E w0 w O R) (hl : l ⊆ R) : Rds w l := zg2 fun φ hφ => h.rR (hl hφ)
end Go.Proofs.YtaghmffgoomebaaGreat.KyU
namespace Go.Proofs.YtaghmffgoomebaaGreat.Rf
open Go.RowKit Mem Gx
set_option maxRecDepth 100000
set_option maxHeartbeats 1000000
theorem zfl : KOk Tryz.prog 26 (Value.int .u32) := zpB Tryz.underlying26
theorem zfn : ∀ w, (zeroValue 3).run Tryz.prog w = .ok (.int .i64 0) w := fun w => rfl
def vals (M : List (Int × Int)) : List (Int × Value) := M.map fun p => (p.1, .int .i64 p.2)
structure TabS where
 r : Option Nat
 M : List (Int × Value)
 sum : Int
def tbL (t : Nat) (T : TabS) : List Fact := match T.r with
 | none => [blk t [.map none, .int .i64 T.sum] 98]
 | some r => [blk t [.map (some r), .int .i64 T.sum] 98, mpk r (Value.int .u32) T.M]
abbrev tbF (t : Nat) (T : TabS) : Fact := packF (tbL t T)
def cntV (l : List Int) (k : Int) : Option Value := if l.count k = 0 then none else some (.int .i64 (l.count k : Int))
structure RfI (T : TabS) (l : List Int) : Prop where
 nil : T.r = none → l = []
 sum : T.sum = l.length
 map : MapIs T.M (cntV l)
 len : l.length ≤ 1000
theorem RfI.look {T : TabS} {l : List Int} (h : RfI T l) (k : Int) : ((lkG k T.M 0).map (·.2)).getD (.int .i64 0) = .int .i64 (l.count k : Int) := by
 have h1 : mg k T.M = cntV l k := h.map.get k
 unfold mg at h1
 rw [h1]
 unfold cntV
 split
 ·rename_i h0; rw [h0]; rfl
 ·rfl
theorem RfI.fin (t : Nat) (T : TabS) : ∃ E : List Nat, ∀ b, (tbF t T).S b ↔ b ∈ E := by
 obtain ⟨r, M, s⟩ := T
 cases r with
 | none => exact ⟨[t], fun b => ⟨fun ⟨φ, hφ, hb⟩ => by obtain rfl := m1 hφ; exact List.mem_singleton.2 hb, fun hb => ⟨_, .head _, m1 hb⟩⟩⟩
 | some r => exact ⟨[t, r], fun b => ⟨fun ⟨φ, hφ, hb⟩ => by
  rcases List.mem_cons.1 hφ with rfl | hφ
  ·have : b = t := hb
   rw [this]; exact .head _
  ·obtain rfl := m1 hφ
   have : b = r := hb
   rw [this]; exact .tail _ (.head _), fun hb => by
  rcases List.mem_cons.1 hb with rfl | hb
  ·exact ⟨_, .head _, rfl⟩
  ·obtain rfl := m1 hb
   exact ⟨_, .tail _ (.head _), rfl⟩⟩⟩
theorem zog (l : List Int) (b k : Int) : (l ++ [b]).count k = l.count k + if k = b then 1 else 0 := by
 rw [List.count_append, List.count_singleton]
 by_cases h : k = b
 ·subst h; simp
 ·rw [if_neg h, if_neg (by simpa using fun e => h e.symm)]
end Go.Proofs.YtaghmffgoomebaaGreat.Rf
