/- Join. node.Find, Kid, With, Without. The law NodeLeaves: what a leaf's entries become, as lists. -/
import Derived.Test.YtaghmffgoomebaaGreatNdS
import Derived.Test.YtaghmffgoomebaaGreatNd3
import Derived.Test.YtaghmffgoomebaaGreatNdC
set_option linter.unusedVariables false
set_option linter.unusedSimpArgs false
namespace Go.Proofs.YtaghmffgoomebaaGreat.Nd
open Go.RowKit Mem Gx
set_option maxRecDepth 100000
set_option maxHeartbeats 4000000
section
variable {X : Cx} {f : Fr} {O R : List Fact} {ks k : List KI} {d : NodeD} {w w' : World}
theorem zdc {d : NodeD} {φ : Fact} (h : φ ∈ d.fs) : ∀ b, φ.S b → (nodeF d).S b := fun b hb => ⟨φ, h, hb⟩
theorem fs_b : d.b ∈ d.fs := by unfold NodeD.fs; exact .head _
theorem fs_K : sl d.K.A 3 KE d.Ks ∈ d.fs := by unfold NodeD.fs; simp
theorem fs_C : sl d.C.A 1 PE d.Cs ∈ d.fs := by unfold NodeD.fs; simp
theorem zjQ {g T : Nat} {cs : List Value} (h : (blk g cs T).p w) : (row g 0 cs).p w := by
 have hb : w.heap[g]? = some (.cells cs.toArray T (0, 0)) := h
 exact fun i v hv => by rw [Nat.zero_add, cell_of_row w g i cs.toArray T (0, 0) hb]; simpa using hv
theorem zeX (hm : nodeF d ∈ R) (hg : GK X ks f O (row d.g 0 [.bool d.leaf, d.K.v, d.V.v, d.C.v, .int .u32 d.a] :: R)) : GK X ks f O R :=
 zc1 _ (nodeF d) hm (fun w h => zjQ (h d.b fs_b)) (fun b hb => zdc (φ := d.b) fs_b b hb) hg
theorem zpJ (hm : nodeF d ∈ R) (hg : GK X ks f O (sl d.K.A 3 KE d.Ks :: R)) : GK X ks f O R := zc1 _ (nodeF d) hm (fun w h => h _ fs_K) (zdc fs_K) hg
theorem zlS (hm : nodeF d ∈ R) (hg : GK X ks f O (sl d.C.A 1 PE d.Cs :: R)) : GK X ks f O R := zc1 _ (nodeF d) hm (fun w h => h _ fs_C) (zdc fs_C) hg
end
theorem zhQ {E : List Nat} {w0 w : World} {O R : List Fact} {α : Type} [Inhabited α] {base e sz n c : Nat} {A : Option Addr} {enc : α → Nat → Value} {L : List α} (hk : Kn E w0 w O R) (h : own base e sz (.slice A n c) enc L ∈ O) : Sl w A sz enc L := by
 obtain ⟨A', c', hv, hs, _⟩ := hk.ownSl h
 injection hv with h1 h2 h3
 subst h1
 exact hs
theorem zph {α : Type} [Inhabited α] {w : World} {A : Option Addr} {sz : Nat} {enc : α → Nat → Value} {L : List α} (h : Sl w A sz enc L) (hsz : 0 < sz) : Rd1 w (sl A sz enc L) := by
 refine ⟨h, fun b hb => ?_⟩
 obtain ⟨hn, a, ha, hab⟩ := hb
 obtain ⟨b', off, e1, hc⟩ := h hn
 rw [e1] at ha
 injection ha with ha
 rw [← hab, ← ha]
 have := lt_of_cell (hc 0 hn 0 hsz)
 exact this
theorem leafRds {w : World} {L : List EntD} {d : NodeD} (h : Rd1 w (nodeF d)) (hd : IsLeafW L d) : Rds w [d.b, sl d.K.A 3 KE (L.map (·.k)), sl d.V.A 1 (IE .u32) (L.map (·.a))] := by
 have h1 := zkS h
 have h2 := rd_nV h
 rw [hd.Ks] at h1
 rw [hd.Vs] at h2
 exact .cons (zbQ h) (.cons h1 (.cons h2 .nil))
theorem zaZ (d : NodeD) (L : List EntD) (w : World) (hd : IsLeafW L d) (h9 : L.length ≤ 10000) (h : Rd1 w (nodeF d)) :
 Calls Tryz.prog 45 [.pointer (some ⟨d.g, 0, none⟩)].toArray w (Ret (fun _ : Value => True) (fun v => v) (fun v => [own 0 31 4 v EE L]) w) :=
 zii d.g d.leaf d.K d.V d.C d.a L w (by rw [hd.ok.K.n, hd.Ks, List.length_map]) (by rw [hd.ok.V.n, hd.Vs, List.length_map]) h9 (leafRds h hd)
theorem zlF (a b : NodeD) (L M : List EntD) (w : World) (ha : IsLeafW L a) (hb : IsLeafW M b) (h9 : L.length + M.length ≤ 1000) (hA : Rd1 w (nodeF a)) (hB : Rd1 w (nodeF b)) :
 Calls Tryz.prog 99 [.pointer (some ⟨a.g, 0, none⟩), .pointer (some ⟨b.g, 0, none⟩)].toArray w (RetN (All2 IsLeaf (cutN (L ++ M))) w) := by
 have hrow : Rd1 w (row a.g 0 [.bool true, a.K.v, a.V.v, a.C.v, .int .u32 a.a]) := by
  have := (zbQ hA).row
  rw [ha.leaf] at this
  exact this
 refine zab T [] [] [row a.g 0 [.bool true, a.K.v, a.V.v, a.C.v, .int .u32 a.a], nodeF a, nodeF b] Tryz.func99 rfl Tryz.ntmps99 rfl (Rds.cons hrow (.cons hA (.cons hB .nil))).kn ?_
 (repeat (refine gG ?_; try intro _))
 refine cR (fun w hk => zaZ a L w ha (by omega) (hk.rR mE)) (fun v1 _ => ?_)
 (repeat (refine gG ?_; try intro _))
 refine cR (fun w hk => zaZ b M w hb (by omega) (hk.rR mE)) (fun v2 _ => ?_)
 (repeat (refine gG ?_; try intro _))
 refine zbE _ uD (fun A2 c2 hA2 hA21 hA22 hA23 => ?_); subst hA2
 refine g_mv rfl (zac rfl M rfl rfl rfl rfl zb7 uD (src_O mE) rfl (by intro x j; rcases j with _ | _ | _ | j <;> rfl) (by unfold maxLen; omega) (by omega) (Nat.zero_le _) (fun v3 => ?_))
 (repeat (refine gG ?_; try intro _))
 refine zbE _ uD (fun A3 c3 hA3 hA31 hA32 hA33 => ?_); subst hA3
 refine g_mv rfl ?_; refine za4 (fun w hk => zck A3 (L ++ M).length c3 (L ++ M) w rfl hA31 (by rw [List.length_append]; omega) (hk.pO (sl A3 4 EE (L ++ M)) mE)) rfl rfl rfl rfl rfl kR sS (fun _ => rfl) (fun p hp hn => ?_)
 (repeat (refine gG ?_; try intro _))
 refine zad hT rfl rfl (.tmp rfl .nil) (fun w' hk => ?_)
 exact RetS.mk p hp rfl hk (.cons (.rd hk mE (hn _ mE)) (.cons (.rd hk mE (hn _ mE)) (.cons (.rd hk mE (hn _ mE)) .nil)))
theorem zj8 (a b : NodeD) (L M : List NodeD) (w : World) (ha : IsInnerW L a) (hb : IsInnerW M b) (h9 : L.length + M.length ≤ 1000) (hne : ∀ d ∈ L ++ M, 0 < d.Ks.length ∧ d.Ok) (hA : Rd1 w (nodeF a)) (hB : Rd1 w (nodeF b)) (hL : Rd1 w (allF (L ++ M) nodeF)) :
 Calls Tryz.prog 99 [.pointer (some ⟨a.g, 0, none⟩), .pointer (some ⟨b.g, 0, none⟩)].toArray w (RetN (All2 IsInner (cutN (L ++ M))) w) := by
 have hrow : Rd1 w (row a.g 0 [.bool false, a.K.v, a.V.v, a.C.v, .int .u32 a.a]) := by
  have := (zbQ hA).row
  rw [ha.leaf] at this
  exact this
 have hrow2 : Rd1 w (row b.g 0 [.bool b.leaf, b.K.v, b.V.v, b.C.v, .int .u32 b.a]) := (zbQ hB).row
 have hcA : Rd1 w (sl a.C.A 1 PE (L.map NodeD.g)) := by rw [← ha.Cs]; exact rd_nC hA
 have hcB : Rd1 w (sl b.C.A 1 PE (M.map NodeD.g)) := by rw [← hb.Cs]; exact rd_nC hB
 have hnA : a.C.n = (L.map NodeD.g).length := by rw [ha.ok.C.n, ha.Cs]
 have hnB : b.C.n = (M.map NodeD.g).length := by rw [hb.ok.C.n, hb.Cs]
 have hl : (L.map NodeD.g).length = L.length := List.length_map ..
 have hm : (M.map NodeD.g).length = M.length := List.length_map ..
 refine zab T [] [] [row a.g 0 [.bool false, a.K.v, a.V.v, a.C.v, .int .u32 a.a], row b.g 0 [.bool b.leaf, b.K.v, b.V.v, b.C.v, .int .u32 b.a], sl a.C.A 1 PE (L.map NodeD.g), sl b.C.A 1 PE (M.map NodeD.g), allF (L ++ M) nodeF] Tryz.func99 rfl Tryz.ntmps99 rfl (Rds.cons hrow (.cons hrow2 (.cons hcA (.cons hcB (.cons hL .nil))))).kn ?_
 (repeat (refine gG ?_; try intro _))
 refine zas [0, 1] (Cut _ (fun p : { p : NS // (p.s.Ok p.ds.length ∧ All2 IsInner (cutN (L ++ M)) p.ds) ∧ ∀ φ, φ ∈ [sl p.s.A 1 PE (p.ds.map NodeD.g), allF p.ds nodeF, headF p.s (p.ds.map NodeD.g)] → ∀ b, φ.S b → w.heap.size ≤ b ∨ ∃ ψ, ψ ∈ ([] : List Fact) ∧ ψ.S b } => [(4, p.1.s.v)]) (fun _ => []) (fun p => [sl p.1.s.A 1 PE (p.1.ds.map NodeD.g), allF p.1.ds nodeF, headF p.1.s (p.1.ds.map NodeD.g)])) rfl rfl kR ?_ (zaD fun p => ?_)
 ·skip
  refine gY hT 0 ?_
  refine gY hT 1 ?_
  refine gY hT 2 ?_
  refine gW hT 3 ?_
  refine gY hT 5 ?_
  refine gY hT 6 ?_
  refine gY hT 7 ?_
  refine gW hT 8 ?_
  refine gP 4 ?_
  refine za3 (fun w hk => zdk a.C.A a.C.n a.C.c (L.map NodeD.g) w hnA (by omega) (hk.pR (sl a.C.A 1 PE (L.map NodeD.g)) mE)) rfl rfl rfl rfl rfl kR (fun _ => rfl) (fun v1 _ => ?_)
  refine ⟨sF, ?_⟩
  refine gP 9 ?_
  refine zac rfl (M.map NodeD.g) rfl rfl rfl rfl zij uD (zcG mE) hnB (by intro x j; rfl) (by unfold maxLen; omega) (by omega) (Nat.zero_le _) (fun v2 => ?_)
  refine ⟨sF, ?_⟩
  (refine zai v2 mE (fun A2 c2 hv h1 h2 h3 => ?_); subst hv)
  refine gP 10 ?_
  refine za4 (fun w hk => zdX A2 (L.map NodeD.g ++ M.map NodeD.g).length c2 (L ++ M) w (by rw [← List.map_append, List.length_map]) h1 (by rw [List.length_append]; omega) hne (.cons (hk.rR mE) (.cons (zph (by rw [List.map_append]; exact zhQ hk mE) (by decide)) .nil))) rfl rfl rfl rfl rfl kR sS (fun _ => rfl) (fun p hp hn => ?_)
  refine ⟨sF, ?_⟩
  refine gY hT 11 ?_
  refine zak dK ?_
  exact ⟨⟨p, hp, hn⟩, fS, sA, sS⟩
 ·obtain ⟨p, hp, hn⟩ := p
  (repeat (refine gG ?_; try intro _))
  refine zad hT rfl rfl (.tmp rfl .nil) (fun w' hk => ?_)
  exact RetS.mk p hp rfl hk (.cons (.rd hk mE (hn _ mE)) (.cons (.rd hk mE (hn _ mE)) (.cons (.rd hk mE (hn _ mE)) .nil)))
end Go.Proofs.YtaghmffgoomebaaGreat.Nd
namespace Go.Proofs.YtaghmffgoomebaaGreat.Nd
open Go.RowKit Mem Gx
set_option maxRecDepth 100000
set_option maxHeartbeats 4000000
noncomputable def findV (L : List KeyD) (t : KeyD) (p : Nat) : Int := if tB (L[p]? = some t) = true then p else (p : Int) - 1
theorem znY {L : List KeyD} {t : KeyD} {p : Nat} (h : PosK L t p) (h9 : L.length ≤ 100000) : -1 ≤ findV L t p ∧ findV L t p ≤ 100000 := by
 have := h.le
 unfold findV
 split <;> omega
theorem znX (d : NodeD) (t : KeyD) (w : World) (hd : d.Ok) (h9 : d.Ks.length ≤ 100000) (ha : AscK d.Ks) (hD : Rd1 w (nodeF d)) :
 Calls Tryz.prog 116 [.pointer (some ⟨d.g, 0, none⟩), t.val].toArray w (Ret (PosK d.Ks t) (fun p => .int .i64 (findV d.Ks t p)) (fun _ => []) w) := by
 have hr : Rd1 w (row d.g 0 [.bool d.leaf, d.K.v, d.V.v, d.C.v, .int .u32 d.a]) := (zbQ hD).row
 refine zab T [] [] [row d.g 0 [.bool d.leaf, d.K.v, d.V.v, d.C.v, .int .u32 d.a], sl d.K.A 3 KE d.Ks] Tryz.func116 rfl Tryz.ntmps116 rfl (Rds.cons hr (.cons (zkS hD) .nil)).kn ?_
 (repeat (refine gG ?_; try intro _))
 rename_i g3
 refine zas [0, 1] (Cut _ (fun p : { p : Nat // PosK d.Ks t p } => [(5, .int .i64 (p.1 : Int)), (6, .bool (tB (d.Ks[p.1]? = some t)))]) (fun _ => []) (fun _ => [])) rfl rfl kR ?_ (zaD fun p => ?_)
 ·skip
  refine gY hT 0 ?_
  refine gY hT 1 ?_
  refine gY hT 2 ?_
  refine gW hT 3 ?_
  refine gW hT 4 ?_
  refine gP 5 ?_
  refine za3 (fun w hk => zdn d.K.A d.K.n d.K.c d.Ks t w hd.K.n (by rw [hd.K.n]; omega) ha (hk.pR (sl d.K.A 3 KE d.Ks) mE)) rfl rfl rfl rfl rfl kR (fun _ => rfl) (fun p hp => ?_)
  refine ⟨sF, ?_⟩
  refine gY hT 6 ?_
  refine gY hT 7 ?_
  refine gY hT 8 ?_
  refine gY hT 9 ?_
  refine gY hT 10 ?_
  refine zak dK ?_
  exact ⟨⟨p, hp⟩, fS, sA, sS⟩
 ·obtain ⟨p, hp⟩ := p
  dsimp only
  have hpl := hp.le
  (repeat (refine gG ?_; try intro _))
  obtain ⟨b, hb⟩ : ∃ b, tB (d.Ks[p]? = some t) = b := ⟨_, rfl⟩
  refine zbs 16 (.bool b) rfl (congrArg Value.bool hb) ?_
  cases b
  ·(repeat (refine gG ?_; try intro _))
   refine zad hT rfl rfl (.tmp rfl .nil) (fun w' hk => ?_)
   exact Ret.mk p hp (by unfold findV; rw [if_neg (by rw [hb]; decide)]; rfl) hk sA
  ·(repeat (refine gG ?_; try intro _))
   refine zad hT rfl rfl (.tmp rfl .nil) (fun w' hk => ?_)
   exact Ret.mk p hp (by unfold findV; rw [if_pos hb]; rfl) hk sA
theorem zlB (d : NodeD) (t : KeyD) (w : World) (hd : d.Ok) (h9 : d.Ks.length ≤ 100000) (ha : AscK d.Ks) (hD : Rd1 w (nodeF d)) :
 Calls Tryz.prog 87 [.pointer (some ⟨d.g, 0, none⟩), t.val].toArray w (Ret (PosK d.Ks t) (fun p => .int .i64 (max (findV d.Ks t p) 0)) (fun _ => []) w) := by
 refine zab T [] [] [nodeF d] Tryz.func87 rfl Tryz.ntmps87 rfl (Rds.cons hD .nil).kn ?_
 (repeat (refine gG ?_; try intro _))
 refine cR (fun w hk => znX d t w hd h9 ha (hk.rR mE)) (fun p hp => ?_)
 have hbd := znY hp h9
 refine g_yd rfl rfl (Ys.yd (zfo (max (findV d.Ks t p) 0) rfl rfl rfl (by split <;> omega))) ?_
 (repeat (refine gG ?_; try intro _))
 refine zad hT rfl rfl (.tmp rfl .nil) (fun w' hk => ?_)
 exact Ret.mk p hp rfl hk sA
structure WR where
 s : SlV
 M : List EntD
 was : Int
 had : Bool
structure WithI (L : List EntD) (e : EntD) (r : WR) : Prop where
 ok : r.s.Ok r.M.length
 p : ∃ p, PosK (L.map (·.k)) e.k p ∧ r.had = tB ((L.map (·.k))[p]? = some e.k) ∧ r.M = (if r.had = true then L.set p e else L.take p ++ [e] ++ L.drop p) ∧ r.was = (if r.had = true then (L.getD p default).a else 0)
structure WithoutI (L : List EntD) (t : KeyD) (r : WR) : Prop where
 ok : r.s.Ok r.M.length
 p : ∃ p, PosK (L.map (·.k)) t p ∧ r.had = tB ((L.map (·.k))[p]? = some t) ∧ r.M = (if r.had = true then L.take p ++ L.drop (p + 1) else L) ∧ r.was = (if r.had = true then (L.getD p default).a else 0)
abbrev RetWR (I : WR → Prop) (w : World) : Ending → World → Prop := Ret I (fun r => .tuple #[r.s.v, .int .u32 r.was, .bool r.had]) (fun r => [sl r.s.A 4 EE r.M]) w
theorem zhE (d : NodeD) (L : List EntD) (t : KeyD) (w : World) (hd : IsLeafW L d) (h9 : L.length ≤ 10000) (ha : AscK (L.map (·.k))) (hD : Rd1 w (nodeF d)) :
 Calls Tryz.prog 68 [.pointer (some ⟨d.g, 0, none⟩), t.val].toArray w (RetWR (WithoutI L t) w) := by
 have hr : Rd1 w (row d.g 0 [.bool d.leaf, d.K.v, d.V.v, d.C.v, .int .u32 d.a]) := (zbQ hD).row
 have hkl : d.K.n = (L.map (·.k)).length := by rw [hd.ok.K.n, hd.Ks]
 have hml : (L.map (·.k)).length = L.length := List.length_map ..
 have hK : Rd1 w (sl d.K.A 3 KE (L.map (·.k))) := by rw [← hd.Ks]; exact zkS hD
 refine zab T [] [] [row d.g 0 [.bool d.leaf, d.K.v, d.V.v, d.C.v, .int .u32 d.a], sl d.K.A 3 KE (L.map (·.k)), nodeF d] Tryz.func68 rfl Tryz.ntmps68 rfl (Rds.cons hr (.cons hK (.cons hD .nil))).kn ?_
 (repeat (refine gG ?_; try intro _))
 rename_i g3
 refine cR (fun w hk => zaZ d L w hd h9 (hk.rR mE)) (fun v _ => ?_)
 (repeat (refine gG ?_; try intro _))
 refine zas [1, 2] (Cut _ (fun p : { p : Nat // PosK (L.map (·.k)) t p } => [(7, v), (8, .int .i64 (p.1 : Int)), (9, .bool (tB ((L.map (·.k))[p.1]? = some t)))]) (fun _ => [own 0 31 4 v EE L]) (fun _ => [])) rfl rfl kR ?_ (zaD fun p => ?_)
 ·skip
  refine gY hT 0 ?_
  refine gY hT 1 ?_
  refine gY hT 2 ?_
  refine gW hT 3 ?_
  refine gW hT 4 ?_
  refine gP 5 ?_
  refine za3 (fun w hk => zdn d.K.A d.K.n d.K.c (L.map (fun x : EntD => x.k)) t w hkl (by omega) ha (hk.pR (sl d.K.A 3 KE (L.map (fun x : EntD => x.k))) mE)) rfl rfl rfl rfl rfl kR (fun _ => rfl) (fun p hp => ?_)
  refine ⟨sF, ?_⟩
  refine gY hT 6 ?_
  refine gY hT 7 ?_
  refine gY hT 8 ?_
  refine gY hT 9 ?_
  refine gY hT 10 ?_
  refine zak dK ?_
  exact ⟨⟨p, hp⟩, fS, sA, sS⟩
 ·obtain ⟨p, hp⟩ := p
  dsimp only
  have hpl := hp.le
  (repeat (refine gG ?_; try intro _))
  obtain ⟨b, hb⟩ : ∃ b, tB ((L.map (fun x : EntD => x.k))[p]? = some t) = b := ⟨_, rfl⟩
  refine zbs 23 (.bool (!b)) rfl (by rw [hb]) ?_
  cases b
  ·refine zaW _ uD (fun A c hA hA1 hA2 hA3 => ?_); subst hA
   (repeat (refine gG ?_; try intro _))
   refine zad hT rfl rfl (.tmp rfl (.tmp rfl (.tmp rfl .nil))) (fun w' hk => ?_)
   exact Ret.mk ⟨⟨A, L.length, c⟩, L, 0, false⟩ ⟨⟨rfl, hA1, hA2, hA3⟩, p, hp, hb.symm, rfl, rfl⟩ rfl hk sA
  ·have hy0 := zaQ.1 hb
   have hpL : p < L.length := by
    have := (List.getElem?_eq_some_iff.1 hy0).1
    omega
   obtain ⟨y, hy⟩ : ∃ y, L[p]? = some y := ⟨L[p], List.getElem?_eq_getElem hpL⟩
   refine zgo v mE (by omega) (fun g c hv h1 h2 => ?_)
   subst hv
   (repeat (refine gG ?_; try intro _))
   refine g_yd rfl rfl ((zaG (S := [own 0 31 4 (.slice (some ⟨g, 0, none⟩) L.length c) EE L]) (o0 := 0) (sz := 4) (enc := EE) (L := L) hT p y 3 rfl rfl rfl (by omega) hy (zb6 mE) rfl rfl).ydS sF) ?_
   (repeat (refine gG ?_; try intro _))
   refine g_mv rfl (zbZ (fun w hk => zd5 0 g L.length c L p w (hk.pO (own 0 31 4 (.slice (some ⟨g, 0, none⟩) L.length c) EE L) mE) (by omega) hpL) rfl rfl rfl rfl rfl kR uD (fun v1 => ?_))
   (repeat (refine gG ?_; try intro _))
   refine zaW _ uD (fun A1 c1 hA1 hA11 hA12 hA13 => ?_); subst hA1
   refine zad hT rfl rfl (.tmp rfl (.tmp rfl (.tmp rfl .nil))) (fun w' hk => ?_)
   refine Ret.mk ⟨⟨A1, (L.take p ++ L.drop (p + 1)).length, c1⟩, L.take p ++ L.drop (p + 1), y.a, true⟩ ⟨⟨rfl, hA11, hA12, hA13⟩, p, hp, hb.symm, rfl, ?_⟩ rfl hk sA
   rw [if_pos rfl, getD_at hy]
theorem zn5 {E : List Nat} {w0 w : World} {O R : List Fact} {φ ψ : Fact} (hk : Kn E w0 w (φ :: O) R) (hm : ψ ∈ O) : ∀ b, φ.S b → ¬ ψ.S b := List.rel_of_pairwise_cons hk.disO hm
theorem zmQ (d : NodeD) (L : List EntD) (e : EntD) (w : World) (hd : IsLeafW L d) (h9 : L.length ≤ 10000) (ha : AscK (L.map (·.k))) (hD : Rd1 w (nodeF d)) :
 Calls Tryz.prog 58 [.pointer (some ⟨d.g, 0, none⟩), e.val].toArray w (RetWR (WithI L e) w) := by
 have hr : Rd1 w (row d.g 0 [.bool d.leaf, d.K.v, d.V.v, d.C.v, .int .u32 d.a]) := (zbQ hD).row
 have hkl : d.K.n = (L.map (·.k)).length := by rw [hd.ok.K.n, hd.Ks]
 have hml : (L.map (·.k)).length = L.length := List.length_map ..
 have hK : Rd1 w (sl d.K.A 3 KE (L.map (·.k))) := by rw [← hd.Ks]; exact zkS hD
 refine zab T [] [] [row d.g 0 [.bool d.leaf, d.K.v, d.V.v, d.C.v, .int .u32 d.a], sl d.K.A 3 KE (L.map (·.k)), nodeF d] Tryz.func58 rfl Tryz.ntmps58 rfl (Rds.cons hr (.cons hK (.cons hD .nil))).kn ?_
 (repeat (refine gG ?_; try intro _))
 rename_i g3
 refine cR (fun w hk => zaZ d L w hd h9 (hk.rR mE)) (fun v _ => ?_)
 (repeat (refine gG ?_; try intro _))
 refine zas [1, 2] (Cut _ (fun p : { p : Nat // PosK (L.map (·.k)) e.k p } => [(3, .pointer (some ⟨g3, 0, none⟩)), (7, v), (8, .int .i64 (p.1 : Int)), (9, .bool (tB ((L.map (·.k))[p.1]? = some e.k)))]) (fun _ => [own 0 31 4 v EE L, blk g3 [.int .u16 e.k.v, .int .u32 e.k.b, .int .u64 e.k.s, .int .u32 e.a] 31]) (fun _ => [])) rfl rfl kR ?_ (zaD fun p => ?_)
 ·skip
  refine gY hT 0 ?_
  refine gY hT 1 ?_
  refine gY hT 2 ?_
  refine gW hT 3 ?_
  refine gY hT 4 ?_
  refine gW hT 5 ?_
  refine gP 6 ?_
  refine za3 (fun w hk => zdn d.K.A d.K.n d.K.c (L.map (fun x : EntD => x.k)) e.k w hkl (by omega) ha (hk.pR (sl d.K.A 3 KE (L.map (fun x : EntD => x.k))) mE)) rfl rfl rfl rfl rfl kR (fun _ => rfl) (fun p hp => ?_)
  refine ⟨sF, ?_⟩
  refine gY hT 7 ?_
  refine gY hT 8 ?_
  refine gY hT 9 ?_
  refine gY hT 10 ?_
  refine gY hT 11 ?_
  refine zak dK ?_
  exact ⟨⟨p, hp⟩, fS, sA, sS⟩
 ·obtain ⟨p, hp⟩ := p
  dsimp only
  have hpl := hp.le
  (repeat (refine gG ?_; try intro _))
  obtain ⟨b, hb⟩ : ∃ b, tB ((L.map (fun x : EntD => x.k))[p]? = some e.k) = b := ⟨_, rfl⟩
  refine zbs 23 (.bool b) rfl (by rw [hb]) ?_
  cases b
  ·(repeat (refine gG ?_; try intro _))
   rename_i g4
   refine zc5 v mE (fun A c hv h1 h2 h3 => ?_)
   subst hv
   refine g_mv rfl (zbZ (fun w hk => zka 0 A L.length c L p e g4 w (hk.pO (own 0 31 4 (.slice A L.length c) EE L) mE) (by omega) (by omega) (Nat.zero_le _) (hk.pO (blk g4 [.int .u16 e.k.v, .int .u32 e.k.b, .int .u64 e.k.s, .int .u32 e.a] 31) mE) (fun h => zn5 (ψ := own 0 31 4 (.slice A L.length c) EE L) hk mE g4 rfl h)) rfl rfl rfl rfl rfl kR uD (fun v1 => ?_))
   (repeat (refine gG ?_; try intro _))
   refine zaW _ uD (fun A1 c1 hA1 hA11 hA12 hA13 => ?_); subst hA1
   refine zad hT rfl rfl (.tmp rfl (.tmp rfl (.tmp rfl .nil))) (fun w' hk => ?_)
   exact Ret.mk ⟨⟨A1, (L.take p ++ [e] ++ L.drop p).length, c1⟩, L.take p ++ [e] ++ L.drop p, 0, false⟩ ⟨⟨rfl, hA11, hA12, hA13⟩, p, hp, hb.symm, rfl, rfl⟩ rfl hk sA
  ·have hy0 := zaQ.1 hb
   have hpL : p < L.length := by
    have := (List.getElem?_eq_some_iff.1 hy0).1
    omega
   obtain ⟨y, hy⟩ : ∃ y, L[p]? = some y := ⟨L[p], List.getElem?_eq_getElem hpL⟩
   refine zgo v mE (by omega) (fun g c hv h1 h2 => ?_)
   subst hv
   (repeat (refine gG ?_; try intro _))
   refine g_yd rfl rfl ((zaG (S := [own 0 31 4 (.slice (some ⟨g, 0, none⟩) L.length c) EE L]) (o0 := 0) (sz := 4) (enc := EE) (L := L) hT p y 3 rfl rfl rfl (by omega) hy (zb6 mE) rfl rfl).ydS sF) ?_
   (repeat (refine gG ?_; try intro _))
   refine zbD (α := EntD) (sz := 4) (enc := EE) (L := L) (by decide) uD (fun rest hl0 _ hnc hcm hbg => ?_)
   refine zaK 32 (.pointer (some ⟨g, p * 4, none⟩)) rfl (by congr 3; omega) ?_
   refine g_mv rfl (zbq hT rfl rfl rfl rfl rfl rfl (by first | ((repeat (first | with_reducible exact Upd.here _ | with_reducible apply Upd.there)); done) | ((repeat (first | exact Upd.here _ | apply Upd.there)); done) | fail) (by show p * 4 + 4 ≤ _; rw [hl0]; omega) rfl ?_)
   (repeat (refine gG ?_; try intro _))
   have e1 : flatF 4 EE L = flatF 4 EE (L.take p) ++ (flatF 4 EE [y] ++ flatF 4 EE (L.drop (p + 1))) := by
    rw [← zao, ← zao, List.singleton_append]
    congr 1
    rw [List.getElem?_eq_getElem hpL] at hy
    injection hy with hy
    rw [← hy, ← List.drop_eq_getElem_cons hpL, List.take_append_drop]
   have e2 : L.set p e = L.take p ++ ([e] ++ L.drop (p + 1)) := by
    rw [List.set_eq_take_append_cons_drop, if_pos hpL]; rfl
   have lT : (flatF 4 EE (L.take p)).length = p * 4 := by rw [zaq, List.length_take, Nat.min_eq_left (by omega)]
   have lY : (flatF 4 EE [y]).length = 4 := by rw [zaq]; rfl
   have lE : (flatF 4 EE [e]).length = 4 := by rw [zaq]; rfl
   have lD : (flatF 4 EE (L.drop (p + 1))).length = (L.length - (p + 1)) * 4 := by rw [zaq, List.length_drop]
   have hll : (lay (flatF 4 EE L ++ rest) (p * 4) (flatF 4 EE [e])).length = c * 4 := by rw [zbR (by rw [lE, hl0]; omega), hl0]
   refine zbg (sz := 4) (enc := EE) (n := L.length) (c := c) (base := 0) (L.set p e) (by decide) (by first | ((repeat (first | with_reducible exact Upd.here _ | with_reducible apply Upd.there)); done) | ((repeat (first | exact Upd.here _ | apply Upd.there)); done) | fail) hll (by rw [List.length_set]) hnc hcm hbg ?_ ?_
   ·show (lay (flatF 4 EE L ++ rest) (p * 4) (flatF 4 EE [e])).take (L.length * 4) = _
    rw [e1, List.append_assoc, zbl _ _ _ lT.symm, lE, List.append_assoc (flatF 4 EE [y]), List.drop_left' lY, e2, zao, zao, ← List.append_assoc, ← List.append_assoc]
    exact List.take_left' (by rw [List.length_append, List.length_append, lT, lE, lD]; omega)
   ·refine zaW _ uD (fun A1 c1 hA _ _ _ => ?_)
    injection hA with q1 q2 q3
    subst q1 q3
    refine zad hT rfl rfl (.tmp rfl (.tmp rfl (.tmp rfl .nil))) (fun w' hk => ?_)
    refine Ret.mk ⟨⟨some ⟨g, 0, none⟩, L.length, c⟩, L.set p e, y.a, true⟩ ⟨⟨by rw [List.length_set], hnc, hcm, fun h => by cases h⟩, p, hp, hb.symm, rfl, ?_⟩ rfl hk sA
    rw [if_pos rfl, getD_at hy]
end Go.Proofs.YtaghmffgoomebaaGreat.Nd
namespace Go.Proofs.YtaghmffgoomebaaGreat.Nd
open Go.RowKit Mem Gx
theorem pos_ex (L : List KeyD) (t : KeyD) (ha : AscK L) : ∃ p, PosK L t p := by
 have key : ∀ j, j ≤ L.length → ∃ p, p ≤ j ∧ (∀ m, m < p → klt (L.getD m default) t) ∧ (∀ m, p ≤ m → m < j → ¬ klt (L.getD m default) t) := by
  intro j
  induction j with
  | zero => intro _; exact ⟨0, Nat.le_refl _, fun m h => by omega, fun m h1 h2 => by omega⟩
  | succ j ih =>
    intro hj
    obtain ⟨p, h1, h2, h3⟩ := ih (by omega)
    by_cases hk : klt (L.getD j default) t
    ·refine ⟨j + 1, Nat.le_refl _, fun m hm => ?_, fun m h4 h5 => by omega⟩
     rcases Nat.lt_or_ge m j with h | h
     ·exact zbr (ha m j h (by omega)) hk
     ·obtain rfl : m = j := by omega
      exact hk
    ·refine ⟨p, by omega, h2, fun m h4 h5 => ?_⟩
     rcases Nat.lt_or_ge m j with h | h
     ·exact h3 m h4 h
     ·obtain rfl : m = j := by omega
      exact hk
 obtain ⟨p, h1, h2, h3⟩ := key L.length (Nat.le_refl _)
 exact ⟨p, h1, h2, h3⟩
theorem key_eq {x y : KeyD} (h1 : ¬ klt x y) (h2 : ¬ klt y x) : x = y := by
 unfold klt at h1 h2
 exact zeR (by omega) (by omega) (by omega)
theorem zge {x : KeyD} : ¬ klt x x := by unfold klt; omega
theorem zgf {x y : KeyD} (h : klt x y) : ¬ klt y x := by unfold klt at *; omega
def ins (W : List EntD) (p : Nat) (e : EntD) (i : Nat) : List EntD := if p < i then W.take p ++ [e] ++ (W.take i).drop p else W.take i
end Go.Proofs.YtaghmffgoomebaaGreat.Nd
