/- Trees as data: nodes that were made, as trees; facts on trees from others; Set as a change of the tree. The reference's rows (layer 31): Find, Get, Floor, Ceil, Without, Set. A stack of steps of a tree: New, Push, Pop, Len. -/
import Derived.Test.YtaghmffgoomebaaGreatGxP
import Derived.Test.YtaghmffgoomebaaGreatNdO
import Derived.Test.YtaghmffgoomebaaGreatGxL
set_option linter.unusedVariables false
set_option linter.unusedSimpArgs false
namespace Go.Proofs.YtaghmffgoomebaaGreat.Tr
open Go.RowKit Mem Nd Gx
theorem zp4 {α β : Type} (f : α → β) (L : List α) : cutN (L.map f) = (cutN L).map (List.map f) := by
 unfold cutN
 rw [List.length_map]
 split
 ·rfl
 ·split
  ·rfl
  ·rw [← List.map_take, ← List.map_drop]; rfl
theorem zgH {α β : Type} {P : β → NodeD → Prop} (g : List α → β) : ∀ {Ls : List (List α)} {ds : List NodeD}, All2 P (Ls.map g) ds → ∃ ts : List (NodeD × List α), ts.map (fun s => s.1) = ds ∧ ts.map (fun s => s.2) = Ls ∧ ∀ s ∈ ts, P (g s.2) s.1
 | [], ds, H => by
   cases H
   exact ⟨[], rfl, rfl, fun s h => by cases h⟩
 | x :: r, ds, H => by
   cases H with
   | cons h t =>
     obtain ⟨ts, e1, e2, e3⟩ := zgH g t
     rename_i b m
     refine ⟨(b, x) :: ts, by rw [List.map_cons, e1], by rw [List.map_cons, e2], fun s hs => ?_⟩
     rcases List.mem_cons.1 hs with rfl | hs
     ·exact h
     ·exact e3 s hs
theorem zd6 {h : Nat} {L : List (T h)} {ds : List NodeD} (H : All2 IsInner (cutN (L.map (nd h))) ds) : ∃ ts : List (T (h + 1)), ts.map (nd (h + 1)) = ds ∧ ts.map (fun s => s.2) = cutN L ∧ ∀ s ∈ ts, IsInner (s.2.map (nd h)) s.1 := by
 rw [zp4] at H
 exact zgH (List.map (nd h)) H
theorem zfe {L : List EntD} {ds : List NodeD} (H : All2 IsLeaf (cutN L) ds) : ∃ ts : List (T 0), ts.map (nd 0) = ds ∧ ts.map (fun s => s.2) = cutN L ∧ ∀ s ∈ ts, IsLeaf s.2 s.1 := by
 have H' : All2 IsLeaf ((cutN L).map id) ds := by rw [List.map_id]; exact H
 exact zgH id H'
theorem zdO {h : Nat} (t : T h) : Der [treeF h t] (nodeF (nd h t)) := ⟨fun w hw => zfM (hw _ (.head _)), fun b hb => ⟨_, .head _, zfN hb⟩⟩
theorem zju {h : Nat} (t : T (h + 1)) : Der [treeF (h + 1) t] (allF t.2 (treeF h)) :=
 ⟨fun w hw => hw _ (.head _) (allF t.2 (treeF h)) (.tail _ (.head _)), fun b hb => ⟨_, .head _, allF t.2 (treeF h), .tail _ (.head _), hb⟩⟩
theorem zcB {h : Nat} {t : T (h + 1)} {c : T h} (hc : c ∈ t.2) : Der [treeF (h + 1) t] (treeF h c) := (zju t).elem hc
theorem zjt {h : Nat} {d : NodeD} {ks : List (T h)} {l : List Fact} (h1 : Der l (nodeF d)) (h2 : Der l (allF ks (treeF h))) : Der l (treeF (h + 1) ((d, ks) : NodeD × List (T h))) := by
 refine Der.all fun φ hφ => ?_
 rcases List.mem_cons.1 hφ with e | hφ
 ·rw [e]; exact h1
 ·obtain rfl := m1 hφ
  exact h2
theorem zd3 {H : Nat} {t : T H} {k : KeyD} {h : Nat} {s : T h} {l : List (Nat × Nat)} {A C : List EntD} (p : Pth t k h s l A C) : Der [treeF H t] (treeF h s) := by
 induction p with
 | root => exact Der.mem (.head _)
 | down q hp hq hc ih =>
   refine (zcB (List.mem_of_getElem? hc)).trans fun ψ hψ => ?_
   obtain rfl := m1 hψ
   exact ih
theorem zcP {h : Nat} {ts : List (T (h + 1))} {L : List (T h)} (e : ts.map (fun s => s.2) = cutN L) : Der [allF (ts.map (nd (h + 1))) nodeF, allF L (treeF h)] (allF ts (treeF (h + 1))) := by
 refine Der.all fun s hs => ?_
 obtain ⟨d, ks⟩ := s
 refine zjt ?_ (Der.all fun k hk => ?_)
 ·exact Der.elem (L := ts.map (nd (h + 1))) (F := nodeF) (Der.mem (.head _)) (List.mem_map.2 ⟨(d, ks), hs, rfl⟩)
 ·exact Der.elem (L := L) (F := treeF h) (Der.mem (.tail _ (.head _))) ((zb3 e hs).2 k hk)
theorem zco {ts : List (T 0)} : Der [allF (ts.map (nd 0)) nodeF] (allF ts (treeF 0)) := by
 refine Der.all fun s hs => ?_
 exact Der.elem (L := ts.map (nd 0)) (F := nodeF) (Der.mem (.head _)) (List.mem_map.2 ⟨s, hs, rfl⟩)
theorem zd4 {h : Nat} (ks : List (T h)) : Der [allF ks (treeF h)] (allF (ks.map (nd h)) nodeF) := by
 refine Der.all fun d hd => ?_
 obtain ⟨k, hk, rfl⟩ := List.mem_map.1 hd
 refine (zdO k).trans fun ψ hψ => ?_
 obtain rfl := m1 hψ
 exact Der.elem (Der.mem (.head _)) hk
theorem zc3 {h : Nat} (s : T (h + 1)) (us : List (T h)) (i j : Nat) : Der [treeF (h + 1) s, allF us (treeF h)] (allF (s.2.take i ++ us ++ s.2.drop j) (treeF h)) := by
 have h1 : Der [treeF (h + 1) s, allF us (treeF h)] (allF s.2 (treeF h)) := (zju s).trans fun ψ hψ => by
  obtain rfl := m1 hψ
  exact Der.mem (.head _)
 refine Der.all fun x hx => ?_
 rcases List.mem_append.1 hx with hx | hx
 ·rcases List.mem_append.1 hx with hx | hx
  ·exact h1.elem (List.mem_of_mem_take hx)
  ·exact Der.elem (L := us) (Der.mem (.tail _ (.head _))) hx
 ·exact h1.elem (List.mem_of_mem_drop hx)
theorem za2 {L : List KeyD} {t : KeyD} {p q : Nat} (hp : PosK L t p) (hq : PosK L t q) : p = q := by
 rcases Nat.lt_trichotomy p q with h | h | h
 ·exact absurd (hq.lo p h) (hp.hi p (Nat.le_refl _) (Nat.lt_of_lt_of_le h hq.le))
 ·exact h
 ·exact absurd (hp.lo q h) (hq.hi q (Nat.le_refl _) (Nat.lt_of_lt_of_le h hp.le))
def SetS {H : Nat} (t : T H) (e : EntD) (a : AT) : Prop :=
 ∃ ts, SetR H t e ts ∧ ((∃ s, ts = [s] ∧ a = ⟨H, s⟩) ∨ ∃ x y d, ts = [x, y] ∧ IsInner [nd H x, nd H y] d ∧ a = ⟨H + 1, ((d, [x, y]) : NodeD × List (T H))⟩)
theorem SetS.has {H : Nat} {t : T H} {e : EntD} {a : AT} {L : List EntD} (hs : SetS t e a) (hh : Has H t L) : ∃ p, PosK (keysOf L) e.k p ∧ Has a.h a.t (setAt L e p) := by
 obtain ⟨ts, h1, ⟨s, e1, e2⟩ | ⟨x, y, d, e1, hd, e2⟩⟩ := hs
 ·subst e1 e2; exact zkI hh h1
 ·subst e1 e2; exact zkH hh h1 hd
theorem zkq {H : Nat} {t : T H} {k : KeyD} {lf : T 0} {l : List (Nat × Nat)} {A C L : List EntD} {p : Nat} (hP : Pth t k 0 lf l A C) (hh : Has H t L) (hp : PosK (keysOf lf.2) k p) :
 L = A ++ lf.2 ++ C ∧ PosK (keysOf L) k (A.length + p) ∧ ((keysOf L)[A.length + p]? = some k ↔ (keysOf lf.2)[p]? = some k) ∧ ∀ x, lf.2[p]? = some x → L[A.length + p]? = some x := by
 have ha : AscK (keysOf (ents H t)) := by rw [hh.row]; exact hh.asc
 obtain ⟨h1, h2, h3, h4, h5⟩ := zkt H t k lf A C hh.ok ha hP.leaf
 rw [hh.row] at h1
 have h1' : L = A ++ lf.2 ++ C := h1
 have hl : p ≤ (keysOf lf.2).length := hp.le
 have e1 : keysOf L = keysOf A ++ keysOf lf.2 ++ keysOf C := by rw [h1', zaw, zaw]
 have e2 : (keysOf A).length = A.length := List.length_map ..
 refine ⟨h1', ?_, ?_, fun x hx => ?_⟩
 ·rw [e1, ← e2]; exact zkY h2 h3 hp
 ·rw [e1, ← e2]; exact zdL h3 hl
 ·have hlt := (List.getElem?_eq_some_iff.1 hx).1
  rw [h1', zpL hlt]; exact hx
end Go.Proofs.YtaghmffgoomebaaGreat.Tr
namespace Go.Proofs.YtaghmffgoomebaaGreat.Tw
open Go.RowKit Mem Nd Gx
open Tr hiding T row
set_option maxRecDepth 100000
set_option maxHeartbeats 4000000
theorem ziP {L : List KeyD} {k : KeyD} {i : Nat} (ha : AscK L) (hi : i ≤ L.length) (hlo : ∀ m, m < i → klt (L.getD m default) k) (hs : i < L.length → ¬ klt (L.getD i default) k) : PosK L k i :=
 ⟨hi, hlo, fun m h1 h2 h3 => by
  rcases Nat.lt_or_ge i m with h | h
  ·exact hs (by omega) (zbr (ha i m h h2) h3)
  ·have : m = i := by omega
   subst this
   exact hs h2 h3⟩
theorem zeB (A : Option Addr) (n c : Nat) (L : List EntD) (k : KeyD) (w : World) (hn : n = L.length) (h9 : n ≤ 100000) (ha : AscK (keysOf L)) (hL : Rd1 w (sl A 4 EE L)) :
 Calls Tryz.prog 67 [.slice A n c, k.val].toArray w (Ret (PosK (keysOf L) k) (fun p => .int .i64 (p : Int)) (fun _ => []) w) := by
 refine zab T [] [] [sl A 4 EE L] Tryz.func67 rfl Tryz.ntmps67 rfl (Rds.cons hL .nil).kn ?_
 (repeat (refine gG ?_; try intro _))
 rename_i g3
 refine zap (fun (i : Nat) => (i ≤ L.length ∧ ∀ m, m < i → klt ((keysOf L).getD m default) k)) (fun i => [(0, .slice A n c), (3, .pointer (some ⟨g3, 0, none⟩)), (5, .int .i64 i)]) (fun i => [blk g3 [.int .u16 k.v, .int .u32 k.b, .int .u64 k.s] 29]) (fun i => [sl A 4 EE L]) (fun i => L.length - i) 0 rfl ⟨Nat.zero_le _, fun m h => absurd h (by omega)⟩ fS sA sS ?_
 rintro i hI
 obtain ⟨hi, hlo⟩ := hI
 have hkl : (keysOf L).length = L.length := List.length_map ..
 by_cases hlt : i < L.length
 ·obtain ⟨y, hy⟩ : ∃ y, L[i]? = some y := ⟨L[i], List.getElem?_eq_getElem hlt⟩
  have hky : (keysOf L).getD i default = y.k := getD_at (by rw [List.getElem?_map, hy]; rfl)
  refine zar (enc := EE) (L := L) i mE hlt (by decide) (fun b1 o1 y1 eA hy1 => ?_)
  subst eA
  obtain rfl : y = y1 := by rw [hy] at hy1; exact Option.some.inj hy1
  refine zas [0, 1] (Cut _ (fun _ : Unit => [(0, .slice (some ⟨b1, o1, none⟩) n c), (3, .pointer (some ⟨g3, 0, none⟩)), (5, .int .i64 i), (18, .bool (tB (klt y.k k)))]) (fun _ => [blk g3 [.int .u16 k.v, .int .u32 k.b, .int .u64 k.s] 29]) (fun _ => [sl (some ⟨b1, o1, none⟩) 4 EE L])) rfl rfl kR ?_ (zaD fun _ => ?_)
  ·skip
   refine gY hT 0 ?_
   refine gY hT 1 ?_
   refine gY hT 2 ?_
   refine gY hT 3 ?_
   try (refine zam 9 (.bool true) rfl (congrArg Value.bool (zan (by omega))) ?_)
   refine gY hT 4 ?_
   first | refine gY hT 5 ?_ | refine gZ 5 ?_
   first | refine gY hT 6 ?_ | refine gZ 6 ?_
   first | refine gY hT 7 ?_ | refine gZ 7 ?_
   first | refine gY hT 8 ?_ | refine gZ 8 ?_
   first | refine gW hT 9 ?_ | refine gZ 9 ?_
   first | refine gW hT 10 ?_ | refine gZ 10 ?_
   first | refine gZ 11 ?_ | (refine gP 11 ?_; (refine zau (fun w hk => zkO y.k k w) rfl rfl rfl rfl rfl kR ?_); refine ⟨sF, ?_⟩)
   refine gY hT 12 ?_
   refine zak dK ?_
   exact ⟨(), fS, sA, sS⟩
  ·refine zaJ rfl rfl (zaH _) (fun hx => ?_) (fun hx => ?_)
   ·(repeat (refine gG ?_; try intro _))
    refine zag rfl (i + 1) ⟨by omega, fun m hm => ?_⟩ (by omega) fS sA sS
    rcases Nat.lt_or_ge m i with h | h
    ·exact hlo m h
    ·have : m = i := by omega
     subst this
     rw [hky]; exact hx
   ·(repeat (refine gG ?_; try intro _))
    refine zad hT rfl rfl (.tmp rfl .nil) (fun w' hk => ?_)
    exact Ret.mk i (ziP ha (by omega) hlo (fun _ => by rw [hky]; exact hx)) rfl hk sA
 ·refine zas [] (Cut _ (fun _ : Unit => [(5, .int .i64 i), (18, .bool false)]) (fun _ => []) (fun _ => [])) rfl rfl kR ?_ (zaD fun _ => ?_)
  ·skip
   refine gY hT 0 ?_
   refine gY hT 1 ?_
   refine gY hT 2 ?_
   refine gY hT 3 ?_
   try (refine zam 9 (.bool false) rfl (congrArg Value.bool (zaj (by omega))) ?_)
   refine gY hT 4 ?_
   first | refine gY hT 5 ?_ | refine gZ 5 ?_
   first | refine gY hT 6 ?_ | refine gZ 6 ?_
   first | refine gY hT 7 ?_ | refine gZ 7 ?_
   first | refine gY hT 8 ?_ | refine gZ 8 ?_
   first | refine gW hT 9 ?_ | refine gZ 9 ?_
   first | refine gW hT 10 ?_ | refine gZ 10 ?_
   first | refine gZ 11 ?_ | (refine gP 11 ?_; (skip); refine ⟨sF, ?_⟩)
   refine gY hT 12 ?_
   refine zak dK ?_
   exact ⟨(), fS, sA, sS⟩
  ·(repeat (refine gG ?_; try intro _))
   refine zad hT rfl rfl (.tmp rfl .nil) (fun w' hk => ?_)
   exact Ret.mk i (ziP ha (by omega) hlo (fun h => absurd h (by omega))) rfl hk sA
end Go.Proofs.YtaghmffgoomebaaGreat.Tw
namespace Go.Proofs.YtaghmffgoomebaaGreat.Sk
open Go.RowKit Mem Gx
set_option maxRecDepth 100000
set_option maxHeartbeats 4000000
def OE : Option (Nat × Nat) → Nat → Value
 | some x, 0 => .pointer (some ⟨x.1, 0, none⟩)
 | some x, _ + 1 => .int .i64 x.2
 | none, 0 => .pointer none
 | none, _ + 1 => .int .i64 0
def padS (l : List (Nat × Nat)) : List (Option (Nat × Nat)) := l.map some ++ List.replicate (16 - l.length) none
def stC (l : List (Nat × Nat)) : List Value := flatF 2 OE (padS l) ++ [.int .i64 l.length, .int .i64 16]
abbrev stepV (x : Nat × Nat) : Value := .agg #[.pointer (some ⟨x.1, 0, none⟩), .int .i64 x.2]
section
variable {l : List (Nat × Nat)} {x : Nat × Nat}
theorem zeE (h : l.length ≤ 16) : (padS l).length = 16 := by
 unfold padS; rw [List.length_append, List.length_map, List.length_replicate]; omega
theorem zbF (h : l.length ≤ 16) : (flatF 2 OE (padS l)).length = 32 := by rw [zaq, zeE h]
theorem zfS (h : l.length ≤ 16) : (stC l).length = 34 := by unfold stC; rw [List.length_append, zbF h]; rfl
theorem zfi (h : l.length ≤ 16) : ∀ i v, [Value.int .i64 l.length][i]? = some v → (stC l)[32 + i]? = some v := by
 intro i v hv
 unfold stC
 rw [List.getElem?_append_right (by rw [zbF h]; omega), zbF h]
 match i, hv with
 | 0, hv => exact hv
theorem ziF (h : l.length ≤ 16) : ∀ i v, [Value.int .i64 16][i]? = some v → (stC l)[33 + i]? = some v := by
 intro i v hv
 unfold stC
 rw [List.getElem?_append_right (by rw [zbF h]; omega), zbF h]
 match i, hv with
 | 0, hv => exact hv
theorem ziE (h : (l ++ [x]).length ≤ 16) : ∀ i v, [Value.pointer (some ⟨x.1, 0, none⟩), .int .i64 x.2][i]? = some v → (stC (l ++ [x]))[l.length * 2 + i]? = some v := by
 intro i v hv
 have hl : l.length < 16 := by rw [List.length_append] at h; simp at h; omega
 have hp : (padS (l ++ [x]))[l.length]? = some (some x) := by
  unfold padS
  rw [List.getElem?_append_left (by simp), List.getElem?_map]
  simp
 have hi : i < 2 := by
  match i, hv with
  | 0, _ => omega
  | 1, _ => omega
 unfold stC
 rw [List.getElem?_append_left (by rw [zbF h]; omega), zbe 2 OE _ l.length i (some x) hp hi]
 match i, hv with
 | 0, hv => exact hv
 | 1, hv => exact hv
theorem zel {α : Type} (sz : Nat) (enc : α → Nat → Value) (hsz : 0 < sz) (M : List α) (rest : List Value) (k : Nat) (y : α) (hk : k < M.length) :
 lay (flatF sz enc M ++ rest) (k * sz) (encF enc y 0 sz) = flatF sz enc (M.set k y) ++ rest := by
 have e1 : flatF sz enc M = flatF sz enc (M.take k) ++ (flatF sz enc [M[k]] ++ flatF sz enc (M.drop (k + 1))) := by
  rw [← zao, ← zao, List.singleton_append]
  congr 1
  rw [← List.drop_eq_getElem_cons hk, List.take_append_drop]
 have lT : (flatF sz enc (M.take k)).length = k * sz := by rw [zaq, List.length_take, Nat.min_eq_left (by omega)]
 have lY : (flatF sz enc [M[k]]).length = sz := by rw [zaq]; simp
 have e2 : M.set k y = M.take k ++ ([y] ++ M.drop (k + 1)) := by
  rw [List.set_eq_take_append_cons_drop, if_pos hk]; rfl
 have e3 : flatF sz enc [y] = encF enc y 0 sz := by unfold flatF flatF; simp
 rw [e1, List.append_assoc, zbl _ _ _ lT.symm, zcA, List.append_assoc (flatF sz enc [M[k]]), List.drop_left' lY, e2, zao, zao, e3]
 simp only [List.append_assoc]
theorem lay_n (h : l.length ≤ 16) (m : Nat) : lay (stC l) 32 [.int .i64 m] = flatF 2 OE (padS l) ++ [.int .i64 m, .int .i64 16] := by
 unfold stC
 rw [zbl _ _ _ (zbF h).symm, List.append_assoc]
 rfl
theorem ziT (h : l.length < 16) : (padS l).set l.length (some x) = padS (l ++ [x]) := by
 unfold padS
 rw [List.set_append_right _ _ (by rw [List.length_map]; omega), List.length_map, Nat.sub_self, List.length_append, List.map_append, List.append_assoc]
 congr 1
 obtain ⟨m, hm⟩ : ∃ m, 16 - l.length = m + 1 := ⟨15 - l.length, by omega⟩
 rw [hm, List.replicate_succ, List.set_cons_zero]
 simp only [List.length_cons, List.length_nil, List.map_cons, List.map_nil, List.singleton_append]
 congr 2
 omega
theorem zk4 (h : l.length < 16) : (padS (l ++ [x])).set l.length none = padS l := by
 unfold padS
 rw [List.map_append, List.append_assoc, List.set_append_right _ _ (by rw [List.length_map]; omega), List.length_map, Nat.sub_self, List.length_append]
 congr 1
 obtain ⟨m, hm⟩ : ∃ m, 16 - l.length = m + 1 := ⟨15 - l.length, by omega⟩
 rw [hm, List.replicate_succ]
 simp only [List.length_cons, List.length_nil, List.map_cons, List.map_nil, List.singleton_append, List.set_cons_zero]
 congr 2
 omega
end
theorem zcs (w : World) : Calls Tryz.prog 86 [.int .i64 16].toArray w (Ret (fun _ : Nat => True) (fun g => .pointer (some ⟨g, 0, none⟩)) (fun g => [blk g (stC []) 180]) w) := by
 refine zab T [] [] [] Tryz.func86 rfl Tryz.ntmps86 rfl (Kn.start _) ?_
 (repeat (refine gG ?_; try intro _))
 refine g_yd rfl rfl (Ys.yd (zfo 16 rfl rfl rfl (by decide))) ?_
 refine g_yd rfl rfl (Ys.yd (zgJ 16 rfl rfl rfl (by decide))) ?_
 (repeat (refine gG ?_; try intro _))
 rename_i g
 refine zad hT rfl rfl (.tmp rfl .nil) (fun w' hk => ?_)
 exact Ret.mk g trivial rfl hk sA
theorem zcH (g : Nat) (l : List (Nat × Nat)) (x : Nat × Nat) (w : World) (hl : l.length < 16) (h : w.heap[g]? = some (.cells (stC l).toArray 180 (0, 0))) :
 Calls Tryz.prog 88 [.pointer (some ⟨g, 0, none⟩), stepV x].toArray w (RetW g 180 [] (fun _ : Unit => True) (fun _ => .bool true) (fun _ => stC (l ++ [x])) (fun _ => []) (fun _ => []) w) := by
 refine zab T [g] [blk g (stC l) 180] [] Tryz.func88 rfl Tryz.ntmps88 rfl (Kn.startW h) ?_
 (repeat (refine gG ?_; try intro _))
 rename_i g3
 refine zaP [1] rfl rfl kR ?_
 (repeat (first | refine zbC dK ?_ | refine zae dK rfl rfl (zcc (nw := true) hT rfl sI) sF ?_ | refine za5 dK rfl rfl sF ?_ | refine zae dK rfl rfl (zbp hT rfl rfl mE rfl rfl) sF ?_ | refine zae dK rfl rfl (zbn hT rfl rfl mE rfl rfl) sF ?_ | refine zae dK rfl rfl (za1 hT rfl rfl mE rfl rfl) sF ?_ | (refine zcm dK rfl ?_; (first | (refine zaT rfl rfl rfl rfl ?_; intro _) | (refine zay rfl hT rfl rfl ?_; intro _) | refine zat hT rfl rfl rfl rfl rfl rfl sO rfl ?_ | (refine zaa rfl hT rfl rfl rfl rfl rfl rfl rfl rfl ?_; intro _)); refine ⟨sF, ?_⟩) | refine zae dK rfl rfl (zby rfl rfl rfl rfl rfl kR) sF ?_ | refine zae dK rfl rfl (za8 rfl rfl rfl rfl rfl kR) sF ?_))
 refine zae dK rfl rfl (zaA hT [.int .i64 l.length] rfl rfl mE (zfi (by omega)) rfl rfl) sF ?_
 (repeat (first | refine zbC dK ?_ | refine zae dK rfl rfl (zcc (nw := true) hT rfl sI) sF ?_ | refine za5 dK rfl rfl sF ?_ | refine zae dK rfl rfl (zbp hT rfl rfl mE rfl rfl) sF ?_ | refine zae dK rfl rfl (zbn hT rfl rfl mE rfl rfl) sF ?_ | refine zae dK rfl rfl (za1 hT rfl rfl mE rfl rfl) sF ?_ | (refine zcm dK rfl ?_; (first | (refine zaT rfl rfl rfl rfl ?_; intro _) | (refine zay rfl hT rfl rfl ?_; intro _) | refine zat hT rfl rfl rfl rfl rfl rfl sO rfl ?_ | (refine zaa rfl hT rfl rfl rfl rfl rfl rfl rfl rfl ?_; intro _)); refine ⟨sF, ?_⟩) | refine zae dK rfl rfl (zby rfl rfl rfl rfl rfl kR) sF ?_ | refine zae dK rfl rfl (za8 rfl rfl rfl rfl rfl kR) sF ?_))
 refine zae dK rfl rfl (zaA hT [.int .i64 16] rfl rfl mE (ziF (by omega)) rfl rfl) sF ?_
 (repeat (first | refine zbC dK ?_ | refine zae dK rfl rfl (zcc (nw := true) hT rfl sI) sF ?_ | refine za5 dK rfl rfl sF ?_ | refine zae dK rfl rfl (zbp hT rfl rfl mE rfl rfl) sF ?_ | refine zae dK rfl rfl (zbn hT rfl rfl mE rfl rfl) sF ?_ | refine zae dK rfl rfl (za1 hT rfl rfl mE rfl rfl) sF ?_ | (refine zcm dK rfl ?_; (first | (refine zaT rfl rfl rfl rfl ?_; intro _) | (refine zay rfl hT rfl rfl ?_; intro _) | refine zat hT rfl rfl rfl rfl rfl rfl sO rfl ?_ | (refine zaa rfl hT rfl rfl rfl rfl rfl rfl rfl rfl ?_; intro _)); refine ⟨sF, ?_⟩) | refine zae dK rfl rfl (zby rfl rfl rfl rfl rfl kR) sF ?_ | refine zae dK rfl rfl (za8 rfl rfl rfl rfl rfl kR) sF ?_))
 refine zdH rfl rfl (by omega) ?_
 (repeat (refine gG ?_; try intro _))
 refine zas [0] (Cut _ (fun _ : Unit => [(0, .pointer (some ⟨g, 0, none⟩))]) (fun _ => [blk g (lay (stC l) (l.length * 2) [.pointer (some ⟨x.1, 0, none⟩), .int .i64 x.2]) 180]) (fun _ => [])) rfl rfl kR ?_ (zaD fun _ => ?_)
 ·skip
  refine gY hT 0 ?_
  refine gY hT 1 ?_
  refine gY hT 2 ?_
  refine gY hT 3 ?_
  refine gW hT 5 ?_
  refine gY hT 6 ?_
  refine gY hT 7 ?_
  refine gP 4 ?_
  refine zaC rfl ((zaA (S := [blk g (stC l) 180]) hT [.int .i64 l.length] rfl rfl mE (zfi (by omega)) rfl rfl).ydS sF) ?_
  refine ⟨sF, ?_⟩
  refine gY hT 8 ?_
  try (refine zam 22 (.pointer (some ⟨g, l.length * 2, none⟩)) rfl (by congr 3; omega) ?_)
  refine gP 9 ?_
  refine zbq hT rfl rfl rfl rfl rfl rfl (by first | ((repeat (first | with_reducible exact Upd.here _ | with_reducible apply Upd.there)); done) | ((repeat (first | exact Upd.here _ | apply Upd.there)); done) | fail) (by rw [zfS (by omega)]; show l.length * 2 + 2 ≤ 34; omega) rfl ?_
  refine ⟨sF, ?_⟩
  refine zak dK ?_
  exact ⟨(), fS, sA, sS⟩
 ·have e1 : lay (stC l) (l.length * 2) [.pointer (some ⟨x.1, 0, none⟩), .int .i64 x.2] = flatF 2 OE (padS (l ++ [x])) ++ [.int .i64 l.length, .int .i64 16] := by
   unfold stC
   exact (zel 2 OE (by decide) (padS l) _ l.length (some x) (by rw [zeE (by omega)]; omega)).trans (by rw [ziT hl])
  rw [e1]
  have l32 : (flatF 2 OE (padS (l ++ [x]))).length = 32 := zbF (by rw [List.length_append]; exact hl)
  (repeat (refine gG ?_; try intro _))
  refine g_yd rfl rfl ((zaA (S := [blk g (flatF 2 OE (padS (l ++ [x])) ++ [.int .i64 l.length, .int .i64 16]) 180]) hT [.int .i64 l.length] rfl rfl mE (fun i v hv => ?_) rfl rfl).ydS sF) ?_
  ·rw [List.getElem?_append_right (by rw [l32]; omega), l32]
   match i, hv with
   | 0, hv => exact hv
  (repeat (refine gG ?_; try intro _))
  refine g_mv rfl (zbq hT rfl rfl rfl rfl rfl rfl (by first | ((repeat (first | with_reducible exact Upd.here _ | with_reducible apply Upd.there)); done) | ((repeat (first | exact Upd.here _ | apply Upd.there)); done) | fail) (by rw [List.length_append, l32]; show 0 + 32 + 1 ≤ 32 + 2; decide) rfl ?_)
  (repeat (refine gG ?_; try intro _))
  refine zad hT rfl rfl (.tmp rfl .nil) (fun w' hk => ?_)
  refine RetW.mk () trivial rfl hk (by
   show SelAll (blk g (stC (l ++ [x])) 180 :: []) _
   have e2 : lay (flatF 2 OE (padS (l ++ [x])) ++ [Value.int .i64 l.length, .int .i64 16]) 32 [Value.int .i64 ((l.length : Int) + 1)] = stC (l ++ [x]) := by
    unfold stC
    rw [zbl _ _ _ l32.symm, List.append_assoc, List.length_append]
    rfl
   rw [← e2]
   exact sA) (fun φ h => by cases h)
theorem zfU (g : Nat) (w : World) (h : Rd1 w (blk g (stC []) 180)) :
 Calls Tryz.prog 60 [.pointer (some ⟨g, 0, none⟩)].toArray w fun e w' => e = .returned (.tuple #[.agg #[.pointer none, .int .i64 0], .bool false]) ∧ Below w.heap.size w w' := by
 refine zab T [] [] [blk g (stC []) 180] Tryz.func60 rfl Tryz.ntmps60 rfl (Rds.cons h .nil).kn ?_
 (repeat (refine gG ?_; try intro _))
 rename_i g2 g4
 refine g_yd rfl rfl ((zaA (S := [blk g (stC []) 180]) hT [.int .i64 0] rfl rfl mE (zfi (l := []) (by decide)) rfl rfl).ydS sF) ?_
 (repeat (refine gG ?_; try intro _))
 refine zhr rfl rfl rfl ?_
 (repeat (refine gG ?_; try intro _))
 refine zad hT rfl rfl (.cell rfl mE rfl rfl (.tmp rfl .nil)) (fun w' hk => ?_)
 exact ⟨rfl, hk.toBelow⟩
theorem zfT (g : Nat) (l : List (Nat × Nat)) (x : Nat × Nat) (w : World) (hl : l.length < 16) (h : w.heap[g]? = some (.cells (stC (l ++ [x])).toArray 180 (0, 0))) :
 Calls Tryz.prog 60 [.pointer (some ⟨g, 0, none⟩)].toArray w (RetW g 180 [] (fun _ : Unit => True) (fun _ => .tuple #[stepV x, .bool true]) (fun _ => stC l) (fun _ => []) (fun _ => []) w) := by
 have hl1 : (l ++ [x]).length = l.length + 1 := by rw [List.length_append]; rfl
 have hl2 : (l ++ [x]).length ≤ 16 := by omega
 have l32 : (flatF 2 OE (padS (l ++ [x]))).length = 32 := zbF hl2
 have cn : ∀ i v, [Value.int .i64 l.length][i]? = some v → (flatF 2 OE (padS (l ++ [x])) ++ [Value.int .i64 l.length, .int .i64 16])[32 + i]? = some v := fun i v hv => by
  rw [List.getElem?_append_right (by rw [l32]; omega), l32]
  match i, hv with
  | 0, hv => exact hv
 have cx : ∀ i v, [Value.pointer (some ⟨x.1, 0, none⟩), .int .i64 x.2][i]? = some v → (flatF 2 OE (padS (l ++ [x])) ++ [Value.int .i64 l.length, .int .i64 16])[l.length * 2 + i]? = some v := fun i v hv => by
  have hi : i < 2 := by
   match i, hv with
   | 0, _ => omega
   | 1, _ => omega
  have := ziE hl2 i v hv
  unfold stC at this
  rw [List.getElem?_append_left (by rw [l32]; omega)] at this ⊢
  exact this
 refine zab T [g] [blk g (stC (l ++ [x])) 180] [] Tryz.func60 rfl Tryz.ntmps60 rfl (Kn.startW h) ?_
 (repeat (refine gG ?_; try intro _))
 rename_i g2 g4
 refine g_yd rfl rfl ((zaA (S := [blk g (stC (l ++ [x])) 180]) hT [.int .i64 (l ++ [x]).length] rfl rfl mE (zfi hl2) rfl rfl).ydS sF) ?_
 (repeat (refine gG ?_; try intro _))
 refine zdH rfl rfl (by omega) ?_
 (repeat (refine gG ?_; try intro _))
 refine g_yd rfl rfl ((zaA (S := [blk g (stC (l ++ [x])) 180]) hT [.int .i64 (l ++ [x]).length] rfl rfl mE (zfi hl2) rfl rfl).ydS sF) ?_
 (repeat (refine gG ?_; try intro _))
 refine g_mv rfl (zbq hT rfl rfl rfl rfl rfl rfl (by first | ((repeat (first | with_reducible exact Upd.here _ | with_reducible apply Upd.there)); done) | ((repeat (first | exact Upd.here _ | apply Upd.there)); done) | fail) (by rw [zfS hl2]; show 0 + 32 + 1 ≤ 34; decide) rfl ?_)
 have e1 : lay (stC (l ++ [x])) (0 + 32) [.int .i64 (((l ++ [x]).length : Int) - 1)] = flatF 2 OE (padS (l ++ [x])) ++ [Value.int .i64 l.length, .int .i64 16] := by
  have := lay_n hl2 l.length
  rw [← this]
  congr 3
  omega
 rw [e1]
 (repeat (refine gG ?_; try intro _))
 refine zas [0, 1, 2] (Cut _ (fun g5 : Nat => [(0, .pointer (some ⟨g, 0, none⟩)), (2, .pointer (some ⟨g2, 0, none⟩)), (4, .pointer (some ⟨g4, 0, none⟩)), (5, .pointer (some ⟨g5, 0, none⟩))]) (fun g5 => [blk g5 [.pointer (some ⟨x.1, 0, none⟩), .int .i64 x.2] 138, blk g4 [.pointer none, .int .i64 0] 138, blk g2 [.pointer none, .int .i64 0] 138, blk g (flatF 2 OE (padS (l ++ [x])) ++ [.int .i64 l.length, .int .i64 16]) 180]) (fun _ => [])) rfl rfl kR ?_ (zaD fun g5 => ?_)
 ·skip
  refine gY hT 0 ?_
  refine gY hT 1 ?_
  refine gY hT 2 ?_
  refine gY hT 3 ?_
  refine zaz 4 rfl dK rfl rfl (zaA hT [.int .i64 l.length] rfl rfl mE cn rfl rfl) sF ?_
  refine gY hT 5 ?_
  refine gY hT 6 ?_
  refine gY hT 7 ?_
  try (refine zam 26 (.pointer (some ⟨g, l.length * 2, none⟩)) rfl (by congr 3; omega) ?_)
  refine zaz 8 rfl dK rfl rfl (zaA hT [.pointer (some ⟨x.1, 0, none⟩), .int .i64 x.2] rfl rfl mE cx rfl rfl) sF ?_
  first | refine gO 9 ?_ | (refine gX 9 ?_; intro _)
  first | refine gO 10 ?_ | (refine gX 10 ?_; intro _)
  refine zak dK ?_
  exact ⟨_, fS, sA, sS⟩
 ·skip
  refine zas [0, 1, 2] (Cut _ (fun _ : Unit => [(0, .pointer (some ⟨g, 0, none⟩)), (2, .pointer (some ⟨g2, 0, none⟩)), (5, .pointer (some ⟨g5, 0, none⟩))]) (fun _ => [blk g5 [.pointer (some ⟨x.1, 0, none⟩), .int .i64 x.2] 138, blk g2 [.pointer none, .int .i64 0] 138, blk g (lay (flatF 2 OE (padS (l ++ [x])) ++ [.int .i64 l.length, .int .i64 16]) (l.length * 2) [.pointer none, .int .i64 0]) 180]) (fun _ => [])) rfl rfl kR ?_ (zaD fun _ => ?_)
  ·skip
   refine gY hT 0 ?_
   refine gY hT 1 ?_
   refine gY hT 2 ?_
   refine gY hT 3 ?_
   refine gW hT 5 ?_
   refine gY hT 6 ?_
   refine gY hT 7 ?_
   refine gP 4 ?_
   refine zaC rfl ((zaA (S := [blk g (flatF 2 OE (padS (l ++ [x])) ++ [.int .i64 l.length, .int .i64 16]) 180]) hT [.int .i64 l.length] rfl rfl mE cn rfl rfl).ydS sF) ?_
   refine ⟨sF, ?_⟩
   refine gY hT 8 ?_
   try (refine zam 36 (.pointer (some ⟨g, l.length * 2, none⟩)) rfl (by congr 3; omega) ?_)
   refine gP 9 ?_
   refine zbq hT rfl rfl rfl rfl rfl rfl (by first | ((repeat (first | with_reducible exact Upd.here _ | with_reducible apply Upd.there)); done) | ((repeat (first | exact Upd.here _ | apply Upd.there)); done) | fail) (by rw [List.length_append, l32]; show l.length * 2 + 2 ≤ 32 + 2; omega) rfl ?_
   refine ⟨sF, ?_⟩
   refine zak dK ?_
   exact ⟨(), fS, sA, sS⟩
  ·have e2 : lay (flatF 2 OE (padS (l ++ [x])) ++ [Value.int .i64 l.length, .int .i64 16]) (l.length * 2) [.pointer none, .int .i64 0] = stC l :=
    (zel 2 OE (by decide) (padS (l ++ [x])) _ l.length none (by rw [zeE hl2]; omega)).trans (by rw [zk4 hl]; rfl)
   rw [e2]
   (repeat (refine gG ?_; try intro _))
   refine zad hT rfl rfl (.cell rfl mE rfl rfl (.tmp rfl .nil)) (fun w' hk => ?_)
   exact RetW.mk () trivial rfl hk sA (fun φ h => by cases h)
def pA (xs : List (Nat × Nat)) : Value := match xs.getLast? with | none => .pointer none | some x => .pointer (some ⟨x.1, 0, none⟩)
def pI (xs : List (Nat × Nat)) : Value := match xs.getLast? with | none => .int .i64 0 | some x => .int .i64 x.2
theorem zeG (l : List (Nat × Nat)) (x : Nat × Nat) : pA (l ++ [x]) = .pointer (some ⟨x.1, 0, none⟩) := by unfold pA; rw [List.getLast?_concat]
theorem zeF (l : List (Nat × Nat)) (x : Nat × Nat) : pI (l ++ [x]) = .int .i64 x.2 := by unfold pI; rw [List.getLast?_concat]
theorem zhP (xs : List (Nat × Nat)) : [pA xs, pI xs].all oneB = true := by
 unfold pA pI
 cases xs.getLast? <;> rfl
theorem zec {g : Nat} {T : TypeId} {cs : List Value} {w w' : World} (hb : Below w.heap.size w w') (h : w.heap[g]? = some (.cells cs.toArray T (0, 0))) : FreshW g T cs w w' [] := by
 have k0 : Kn [g] w w [blk g cs T] [] := Kn.startW h
 exact (k0.below hb).outW sA
theorem zcr (g : Nat) (xs : List (Nat × Nat)) (w : World) (hl : xs.length ≤ 16) (h : w.heap[g]? = some (.cells (stC xs).toArray 180 (0, 0))) :
 Calls Tryz.prog 60 [.pointer (some ⟨g, 0, none⟩)].toArray w (RetW g 180 [] (fun _ : Unit => True) (fun _ => .tuple #[.agg #[pA xs, pI xs], .bool (!xs.isEmpty)]) (fun _ => stC xs.dropLast) (fun _ => []) (fun _ => []) w) := by
 rcases List.eq_nil_or_concat xs with rfl | ⟨l, x, rfl⟩
 ·refine (zfU g w ⟨h, fun b hb => ?_⟩).mono ?_
  ·have : b = g := hb
   subst this
   rcases Nat.lt_or_ge b w.heap.size with h' | h'
   ·exact h'
   ·rw [Array.getElem?_eq_none h'] at h; cases h
  ·rintro e w' ⟨e1, hb⟩
   exact ⟨(), trivial, e1, zec hb h, fun φ h => by cases h⟩
 ·rw [List.concat_eq_append] at h hl ⊢
  rw [zeG, zeF, List.dropLast_concat, show (!(l ++ [x]).isEmpty) = true by simp]
  exact zfT g l x w (by rw [List.length_append] at hl; simp at hl; omega) h
end Go.Proofs.YtaghmffgoomebaaGreat.Sk
