/- A tree's nodes: their headers, and what they hold; they lie apart (plain; no program). page.Of; the reference's Get and Of; the chapter's example. A page is read as it was. -/
import Derived.Test.YtaghmffgoomebaaGreatTrB
import Derived.Test.YtaghmffgoomebaaGreatPage3
import Derived.Laws.BytesArg
set_option linter.unusedVariables false
set_option linter.unusedSimpArgs false
namespace Go.Proofs.YtaghmffgoomebaaGreat.Tr
open Go.RowKit Mem Nd Gx Tw
def nds : (h : Nat) → T h → List NodeD
 | 0, t => [nd 0 t]
 | h + 1, t => nd (h + 1) t :: (t.2.map (nds h)).flatten
theorem zeT : ∀ (h : Nat) (t : T h), gs h t = (nds h t).map NodeD.g
 | 0, t => rfl
 | h + 1, t => by
   show (nd (h + 1) t).g :: (t.2.map (gs h)).flatten = (nd (h + 1) t).g :: ((t.2.map (nds h)).flatten).map NodeD.g
   rw [List.map_flatten, List.map_map]
   congr 2
   exact List.map_congr_left fun k _ => zeT h k
theorem zbt : ∀ (h : Nat) (t : T h), nd h t ∈ nds h t
 | 0, _ => .head _
 | _ + 1, _ => .head _
theorem zbG {h : Nat} {t : T (h + 1)} {k : T h} (hk : k ∈ t.2) {d : NodeD} (hd : d ∈ nds h k) : d ∈ nds (h + 1) t := List.mem_cons_of_mem _ (List.mem_flatten.2 ⟨_, List.mem_map.2 ⟨k, hk, rfl⟩, hd⟩)
theorem zb2 {h : Nat} {t : T (h + 1)} {d : NodeD} (hd : d ∈ nds (h + 1) t) : d = nd (h + 1) t ∨ ∃ k, k ∈ t.2 ∧ d ∈ nds h k := by
 rcases List.mem_cons.1 hd with e | hd
 ·exact .inl e
 ·obtain ⟨l, hl, hd⟩ := List.mem_flatten.1 hd
  obtain ⟨k, hk, rfl⟩ := List.mem_map.1 hl
  exact .inr ⟨k, hk, hd⟩
abbrev hdB (d : NodeD) : Fact := blk d.g [.bool d.leaf, d.K.v, d.V.v, d.C.v, .int .u32 d.a] 109
def slL (d : NodeD) : List Fact := [sl d.K.A 3 KE d.Ks, sl d.V.A 1 (IE .u32) d.Vs, sl d.C.A 1 PE d.Cs]
def slD (d : NodeD) : Fact := allF (slL d) id
def hdF (h : Nat) (t : T h) : Fact := allF (nds h t) hdB
def slF (h : Nat) (t : T h) : Fact := allF (nds h t) slD
theorem zn9 (d : NodeD) : Der [hdB d, slD d] (nodeF d) := Der.all fun φ hφ => by
 have e : d.fs = hdB d :: slL d := rfl
 rw [e] at hφ
 rcases List.mem_cons.1 hφ with rfl | hφ
 ·exact Der.mem (.head _)
 ·exact Der.elem (L := slL d) (F := id) (Der.mem (.tail _ (.head _))) hφ
theorem zn7 (d : NodeD) : Der [nodeF d] (hdB d) := Der.elem (L := d.fs) (F := id) (x := hdB d) (Der.mem (.head _)) (.head _)
theorem zn6 (d : NodeD) : Der [nodeF d] (slD d) := Der.all fun φ hφ => Der.elem (L := d.fs) (F := id) (Der.mem (.head _)) (show φ ∈ hdB d :: slL d from .tail _ hφ)
theorem zjs : ∀ (h : Nat) (t : T h) {d : NodeD}, d ∈ nds h t → Der [treeF h t] (nodeF d)
 | 0, t, d, hd => by
   obtain rfl := m1 hd
   exact zdO t
 | h + 1, t, d, hd => by
   rcases zb2 hd with rfl | ⟨k, hk, hd⟩
   ·exact zdO t
   ·exact (zjs h k hd).trans fun ψ hψ => by
     obtain rfl := m1 hψ
     exact zcB hk
theorem zoX (h : Nat) (t : T h) : Der [treeF h t] (hdF h t) := Der.all fun d hd => (zn7 d).trans fun ψ hψ => by
 obtain rfl := m1 hψ
 exact zjs h t hd
theorem zoW (h : Nat) (t : T h) : Der [treeF h t] (slF h t) := Der.all fun d hd => (zn6 d).trans fun ψ hψ => by
 obtain rfl := m1 hψ
 exact zjs h t hd
theorem zmp {h : Nat} {t : T h} {d : NodeD} (hd : d ∈ nds h t) : Der [hdF h t, slF h t] (nodeF d) := (zn9 d).trans fun ψ hψ => by
 rcases List.mem_cons.1 hψ with rfl | hψ
 ·exact Der.elem (L := nds h t) (F := hdB) (Der.mem (.head _)) hd
 ·obtain rfl := m1 hψ
  exact Der.elem (L := nds h t) (F := slD) (Der.mem (.tail _ (.head _))) hd
theorem zjv : ∀ (h : Nat) (t : T h), Der [hdF h t, slF h t] (treeF h t)
 | 0, t => zmp (zbt 0 t)
 | h + 1, (d, ks) => zjt (zmp (zbt (h + 1) (d, ks))) (Der.all fun k hk => (zjv h k).trans fun ψ hψ => by
  rcases List.mem_cons.1 hψ with rfl | hψ
  ·exact Der.all fun d' hd' => Der.elem (L := nds (h + 1) ((d, ks) : NodeD × List (T h))) (F := hdB) (Der.mem (.head _)) (zbG (t := ((d, ks) : NodeD × List (T h))) hk hd')
  ·obtain rfl := m1 hψ
   exact Der.all fun d' hd' => Der.elem (L := nds (h + 1) ((d, ks) : NodeD × List (T h))) (F := slD) (Der.mem (.tail _ (.head _))) (zbG (t := ((d, ks) : NodeD × List (T h))) hk hd'))
theorem zgk {w : World} {d : NodeD} (h : (hdB d).p w) (i : Nat) : w.cell? ⟨d.g, i, none⟩ = [Value.bool d.leaf, d.K.v, d.V.v, d.C.v, .int .u32 d.a][i]? := by
 have h1 : w.heap[d.g]? = some (.cells [Value.bool d.leaf, d.K.v, d.V.v, d.C.v, .int .u32 d.a].toArray 109 (0, 0)) := h
 rw [cell_of_row w d.g i _ _ (0, 0) h1]
 simp
theorem zoz {α : Type} [Inhabited α] {w : World} {A : Option Addr} {sz : Nat} {enc : α → Nat → Value} {L M : List α} (h1 : Sl w A sz enc L) (h2 : Sl w A sz enc M) (hl : L.length = M.length) (he : ∀ x y : α, (∀ j, j < sz → enc x j = enc y j) → x = y) : L = M := by
 refine List.ext_getElem hl fun i i1 i2 => ?_
 obtain ⟨b, off, e1, c1⟩ := h1 (by omega)
 obtain ⟨b', off', e2, c2⟩ := h2 (by omega)
 rw [e1] at e2
 injection e2 with e2
 injection e2 with eb eo
 subst eb eo
 refine he _ _ fun j hj => ?_
 have k1 := c1 i i1 j hj
 have k2 := c2 i i2 j hj
 rw [k1] at k2
 rw [zfg (List.getElem?_eq_getElem i1), zfg (List.getElem?_eq_getElem i2)] at k2
 exact Option.some.inj k2
theorem ke_inj (x y : KeyD) (h : ∀ j, j < 3 → KE x j = KE y j) : x = y := by
 obtain ⟨a, b, c⟩ := x
 obtain ⟨a', b', c'⟩ := y
 have h0 := h 0 (by decide)
 have h1 := h 1 (by decide)
 have h2 := h 2 (by decide)
 simp [KE] at h0 h1 h2
 subst h0 h1 h2
 rfl
theorem pe_inj (x y : Nat) (h : ∀ j, j < 1 → PE x j = PE y j) : x = y := by
 have h0 := h 0 (by decide)
 simp [PE] at h0
 exact h0
theorem zkD {s t : SlV} (h : s.v = t.v) : s = t := by
 obtain ⟨a, b, c⟩ := s
 obtain ⟨a', b', c'⟩ := t
 simp [SlV.v] at h
 obtain ⟨rfl, rfl, rfl⟩ := h
 rfl
theorem zeh {w : World} {d : NodeD} (h : (nodeF d).p w) : (hdB d).p w := h (hdB d) (.head _)
theorem zhT {w : World} {d : NodeD} (h : (nodeF d).p w) : Sl w d.K.A 3 KE d.Ks := h (sl d.K.A 3 KE d.Ks) (.tail _ (.head _))
theorem zpp {w : World} {d : NodeD} (h : (nodeF d).p w) : Sl w d.V.A 1 (IE .u32) d.Vs := h (sl d.V.A 1 (IE .u32) d.Vs) (.tail _ (.tail _ (.head _)))
theorem zhU {w : World} {d : NodeD} (h : (nodeF d).p w) : Sl w d.C.A 1 PE d.Cs := h (sl d.C.A 1 PE d.Cs) (.tail _ (.tail _ (.tail _ (.head _))))
theorem zh6 {w : World} {d d' : NodeD} (h : (nodeF d).p w) (h' : (nodeF d').p w) (ok : d.Ok) (ok' : d'.Ok) (e : d.g = d'.g) : d.leaf = d'.leaf ∧ d.Ks = d'.Ks ∧ d.Cs = d'.Cs := by
 have k := fun i => (zgk (zeh h) i).symm.trans (e ▸ zgk (zeh h') i)
 have k0 := k 0
 have k1 := k 1
 have k3 := k 3
 simp at k0 k1 k3
 have eK := zkD k1
 have eC := zkD k3
 refine ⟨k0, ?_, ?_⟩
 ·refine zoz (zhT h) (eK ▸ zhT h') ?_ ke_inj
  rw [← ok.K.n, ← ok'.K.n, eK]
 ·refine zoz (zhU h) (eC ▸ zhU h') ?_ pe_inj
  rw [← ok.C.n, ← ok'.C.n, eC]
theorem zf8 : ∀ {h : Nat} {t : T h}, Ok h t → ((nd h t).leaf = true ↔ h = 0)
 | 0, _, ok => ⟨fun _ => rfl, fun _ => ok.1.leaf⟩
 | h + 1, _, ok => ⟨fun e => absurd (e.symm.trans ok.1.leaf) (by decide), fun e => absurd e (Nat.succ_ne_zero h)⟩
theorem zg9 : ∀ {h : Nat} {t : T h}, Ok h t → (nd h t).Ok
 | 0, _, ok => ok.1.ok
 | _ + 1, _, ok => ok.1.ok
theorem zds {w : World} {h : Nat} {t : T h} (H : (treeF h t).p w) {d : NodeD} (hd : d ∈ nds h t) : (nodeF d).p w := (zjs h t hd).p w fun ψ hψ => by obtain rfl := m1 hψ; exact H
theorem zh4 {w : World} {h : Nat} {t : T (h + 1)} (H : (treeF (h + 1) t).p w) {k : T h} (hk : k ∈ t.2) : (treeF h k).p w := (zcB hk).p w fun ψ hψ => by obtain rfl := m1 hψ; exact H
theorem zhV {w : World} : ∀ {h h' : Nat} {t : T h} {t' : T h'}, Ok h t → Ok h' t' → (treeF h t).p w → (treeF h' t').p w → (nd h t).g = (nd h' t').g → h = h' ∧ (nd h t).Ks = (nd h' t').Ks
 | 0, h', t, t', ok, ok', H, H', e => by
   obtain ⟨e1, e2, _⟩ := zh6 (zds H (zbt _ _)) (zds H' (zbt _ _)) (zg9 ok) (zg9 ok') e
   exact ⟨((zf8 ok').1 (e1 ▸ (zf8 ok).2 rfl)).symm, e2⟩
 | h + 1, 0, t, t', ok, ok', H, H', e => by
   obtain ⟨e1, e2, _⟩ := zh6 (zds H (zbt _ _)) (zds H' (zbt _ _)) (zg9 ok) (zg9 ok') e
   exact absurd ((zf8 ok).1 (e1.trans ((zf8 ok').2 rfl))) (Nat.succ_ne_zero h)
 | h + 1, h' + 1, t, t', ok, ok', H, H', e => by
   obtain ⟨e1, e2, e3⟩ := zh6 (zds H (zbt _ _)) (zds H' (zbt _ _)) (zg9 ok) (zg9 ok') e
   refine ⟨?_, e2⟩
   have c1 : (nd (h + 1) t).Cs = (t.2.map (nd h)).map NodeD.g := ok.1.Cs
   have c2 : (nd (h' + 1) t').Cs = (t'.2.map (nd h')).map NodeD.g := ok'.1.Cs
   have n1 := ok.2.1
   have n2 := ok'.2.1
   rw [c1, c2] at e3
   obtain ⟨k, hk⟩ : ∃ k, t.2[0]? = some k := ⟨t.2[0], List.getElem?_eq_getElem n1⟩
   obtain ⟨k', hk'⟩ : ∃ k', t'.2[0]? = some k' := ⟨t'.2[0], List.getElem?_eq_getElem n2⟩
   have e4 := congrArg (·[0]?) e3
   simp only [List.getElem?_map, hk, hk', Option.map_some] at e4
   have m := List.mem_of_getElem? hk
   have m' := List.mem_of_getElem? hk'
   have := (zhV (ok.2.2 k m) (ok'.2.2 k' m') (zh4 H m) (zh4 H' m') (Option.some.inj e4)).1
   omega
theorem ziD {w : World} : ∀ {h : Nat} {t : T h}, Ok h t → (treeF h t).p w → ∀ {g : Nat}, g ∈ gs h t → ∃ (h' : Nat) (s : T h'), h' ≤ h ∧ Ok h' s ∧ (treeF h' s).p w ∧ (nd h' s).g = g ∧ fstK (ents h' s) ∈ keysOf (ents h t)
 | 0, t, ok, H, g, hg => by
   obtain rfl := m1 hg
   obtain ⟨y, r, e1, e2⟩ := zbm (zaM 0 t ok).1
   exact ⟨0, t, Nat.le_refl _, ok, H, rfl, by rw [e2, e1]; exact .head _⟩
 | h + 1, t, ok, H, g, hg => by
   rcases List.mem_cons.1 hg with rfl | hg
   ·obtain ⟨y, r, e1, e2⟩ := zbm (zaM (h + 1) t ok).1
    exact ⟨h + 1, t, Nat.le_refl _, ok, H, rfl, by rw [e2, e1]; exact .head _⟩
   ·obtain ⟨l, hl, hg⟩ := List.mem_flatten.1 hg
    obtain ⟨k, hk, rfl⟩ := List.mem_map.1 hl
    obtain ⟨h', s, a1, a2, a3, a4, a5⟩ := ziD (ok.2.2 k hk) (zh4 H hk) hg
    refine ⟨h', s, by omega, a2, a3, a4, ?_⟩
    obtain ⟨x, hx, e⟩ := List.mem_map.1 a5
    refine List.mem_map.2 ⟨x, ?_, e⟩
    show x ∈ (t.2.map (ents h)).flatten
    exact List.mem_flatten.2 ⟨_, List.mem_map.2 ⟨k, hk, rfl⟩, hx⟩
theorem zh3 {x : KeyD} (h : klt x x) : False := by unfold klt at h; omega
theorem zjP {Ls : List (List EntD)} (ha : AscK (keysOf Ls.flatten)) {i j : Nat} {A B : List EntD} (hA : Ls[i]? = some A) (hB : Ls[j]? = some B) (hij : i < j) {x : KeyD} (h1 : x ∈ keysOf A) (h2 : x ∈ keysOf B) : False := by
 have e := zbh Ls hA
 obtain ⟨a, ha1, ea⟩ := List.mem_map.1 h1
 obtain ⟨b, hb1, eb⟩ := List.mem_map.1 h2
 have hb2 : b ∈ (Ls.drop (i + 1)).flatten := by
  refine List.mem_flatten.2 ⟨B, ?_, hb1⟩
  refine List.mem_of_getElem? (i := j - (i + 1)) ?_
  rw [List.getElem?_drop, show i + 1 + (j - (i + 1)) = j by omega]
  exact hB
 obtain ⟨p, hp⟩ := List.getElem?_of_mem (List.mem_append_right (Ls.take i).flatten ha1)
 obtain ⟨q, hq⟩ := List.getElem?_of_mem hb2
 have hp1 := (List.getElem?_eq_some_iff.1 hp).1
 have hq1 := (List.getElem?_eq_some_iff.1 hq).1
 rw [e] at ha
 have k := ha p (((Ls.take i).flatten ++ A).length + q) (by omega) (by simp only [List.length_map, List.length_append] at hp1 ⊢; omega)
 rw [List.getD_eq_getElem?_getD, List.getD_eq_getElem?_getD, List.getElem?_map, List.getElem?_map, List.getElem?_append_left hp1, hp, List.getElem?_append_right (Nat.le_add_right _ _), Nat.add_sub_cancel_left, hq] at k
 have k' : klt a.k b.k := k
 rw [ea, eb] at k'
 exact zh3 k'
theorem zmK {h : Nat} {t : T (h + 1)} (ha : AscK (keysOf (ents (h + 1) t))) {k : T h} (hk : k ∈ t.2) : AscK (keysOf (ents h k)) := by
 obtain ⟨i, hi⟩ := List.getElem?_of_mem hk
 have e : ents (h + 1) t = ((t.2.map (ents h)).take i).flatten ++ ents h k ++ ((t.2.map (ents h)).drop (i + 1)).flatten := zbh (t.2.map (ents h)) (by rw [List.getElem?_map, hi]; rfl)
 intro p q hpq hq
 rw [List.length_map] at hq
 have k1 := ha (((t.2.map (ents h)).take i).flatten.length + p) (((t.2.map (ents h)).take i).flatten.length + q) (by omega) (by rw [e, List.length_map, List.length_append, List.length_append]; omega)
 have key : ∀ r, r < (ents h k).length → (keysOf (ents (h + 1) t)).getD (((t.2.map (ents h)).take i).flatten.length + r) default = (keysOf (ents h k)).getD r default := fun r hr => by
  rw [List.getD_eq_getElem?_getD, List.getD_eq_getElem?_getD, List.getElem?_map, List.getElem?_map, e, List.getElem?_append_left (by rw [List.length_append]; omega), List.getElem?_append_right (Nat.le_add_right _ _), Nat.add_sub_cancel_left]
 rw [key p (by omega), key q hq] at k1
 exact k1
theorem zjk {w : World} : ∀ {h : Nat} {t : T h}, Ok h t → AscK (keysOf (ents h t)) → (treeF h t).p w → (gs h t).Nodup
 | 0, t, ok, ha, H => by simp [gs]
 | h + 1, t, ok, ha, H => by
   refine List.nodup_cons.2 ⟨fun hg => ?_, ?_⟩
   ·obtain ⟨l, hl, hg⟩ := List.mem_flatten.1 hg
    obtain ⟨k, hk, rfl⟩ := List.mem_map.1 hl
    obtain ⟨h', s, a1, a2, a3, a4, a5⟩ := ziD (ok.2.2 k hk) (zh4 H hk) hg
    have := (zhV a2 ok a3 H a4).1
    omega
   ·refine List.pairwise_flatten.2 ⟨fun l hl => ?_, ?_⟩
    ·obtain ⟨k, hk, rfl⟩ := List.mem_map.1 hl
     exact zjk (ok.2.2 k hk) (zmK ha hk) (zh4 H hk)
    ·refine List.pairwise_iff_getElem.2 fun i j i1 j1 hij x hx y hy e => ?_
     subst e
     rw [List.length_map] at i1 j1
     rw [List.getElem_map] at hx hy
     have mi : t.2[i] ∈ t.2 := List.getElem_mem i1
     have mj : t.2[j] ∈ t.2 := List.getElem_mem j1
     obtain ⟨h1, s1, a1, a2, a3, a4, a5⟩ := ziD (ok.2.2 _ mi) (zh4 H mi) hx
     obtain ⟨h2, s2, b1, b2, b3, b4, b5⟩ := ziD (ok.2.2 _ mj) (zh4 H mj) hy
     have e2 := (zhV a2 b2 a3 b3 (a4.trans b4.symm)).2
     have f1 := (zaM h1 s1 a2).2
     have f2 := (zaM h2 s2 b2).2
     rw [e2, f2] at f1
     rw [f1] at b5
     exact zjP (Ls := t.2.map (ents h)) ha (by rw [List.getElem?_map, List.getElem?_eq_getElem i1]; rfl) (by rw [List.getElem?_map, List.getElem?_eq_getElem j1]; rfl) hij a5 b5
end Go.Proofs.YtaghmffgoomebaaGreat.Tr
namespace Go.Proofs.YtaghmffgoomebaaGreat.Page
open Go.RowKit Mem Bytes Fix Crc
theorem zkd {L : List Int} (h : L.length ≠ 128) : getS L = (0, [], 12) := by unfold getS; rw [if_pos h]
theorem znT (A : Option Addr) (m c : Nat) (L : List Int) (w : World) (hm : m = L.length) (hc : m ≤ c) (h : BS w A L) (hB : IsB L) :
 Calls Tryz.prog 78 #[.slice A m c] w fun e w' => GetRes w w' e (getS L) := by
 by_cases h1 : m = 128
 ·subst h1
  obtain ⟨b, off, rfl, _⟩ := zmG h 0 (by omega)
  exact zkc b off c L w hm.symm hc h hB
 ·rw [zkd (by omega)]
  exact (zlY A m c w h1).mono fun e w' => GetRes.nil
end Go.Proofs.YtaghmffgoomebaaGreat.Page
namespace Go.Proofs.YtaghmffgoomebaaGreat.Page
open Go.RowKit Mem Bytes Fix Crc
theorem ziS (k : Int) (L : List Int) (i : Nat) (hi : i < 4) : (pg k L).getD i 0 = ([157, 76, k, (L.length : Int)] : List Int).getD i 0 := by
 unfold pg
 rw [List.append_assoc, List.getD_eq_getElem?_getD, List.getElem?_append_left (by simpa using hi), ← List.getD_eq_getElem?_getD]
theorem zg7 (k : Int) (L : List Int) (hL : L.length ≤ 120) (i : Nat) (hi : i < 124) : (page k L).getD i 0 = (pg k L).getD i 0 := by
 unfold page
 rw [List.getD_eq_getElem?_getD, List.getElem?_append_left (by rw [zcg hL]; exact hi), ← List.getD_eq_getElem?_getD]
theorem zk3 (k : Int) (L : List Int) (hL : L.length ≤ 120) : body (page k L) L.length = L := by
 unfold body page pg
 rw [List.append_assoc, List.append_assoc, List.drop_left' (by rfl), List.take_left' rfl]
theorem zhs {k : Int} {L : List Int} (h1 : 1 ≤ k) (h2 : k ≤ 6) (hL : L.length ≤ 120) : getS (page k L) = (k, L, 0) := by
 have e2 : (page k L).getD 2 0 = k := by rw [zg7 k L hL 2 (by omega), ziS k L 2 (by omega)]; rfl
 have e3 : (page k L).getD 3 0 = (L.length : Int) := by rw [zg7 k L hL 3 (by omega), ziS k L 3 (by omega)]; rfl
 have hb : body (page k L) ((L.length : Int)).toNat = L := by rw [Int.toNat_natCast]; exact zk3 k L hL
 have ht : (page k L).take 124 = pg k L := by unfold page; exact List.take_left' (zcg hL)
 have := zlZ (zcv hL) e2 e3 h1 h2 (by omega) (by rw [ht, hb]) (by rw [hb])
 rw [this, hb]
end Go.Proofs.YtaghmffgoomebaaGreat.Page
