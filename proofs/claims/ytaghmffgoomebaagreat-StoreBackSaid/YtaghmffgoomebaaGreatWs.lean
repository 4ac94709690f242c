/- The leaves of a tree from a key on, in order; what is left to be gone through (plain). A stack of steps of a walk: New, Push, Pop. -/
import Derived.Test.YtaghmffgoomebaaGreatTrB
import Derived.Test.YtaghmffgoomebaaGreatNdO
import Derived.Test.YtaghmffgoomebaaGreatSk
set_option linter.unusedVariables false
set_option linter.unusedSimpArgs false
namespace Go.Proofs.YtaghmffgoomebaaGreat.Wk
open Go.RowKit Mem Nd Gx Tw
open Tr hiding T row
set_option maxRecDepth 100000
def lvs : (h : Nat) → Tr.T h → List (Tr.T 0)
 | 0, t => [t]
 | h + 1, t => (t.2.map (lvs h)).flatten
def rows (l : List (Tr.T 0)) : List EntD := (l.map Tr.row).flatten
theorem zc9 (l m : List (Tr.T 0)) : rows (l ++ m) = rows l ++ rows m := by unfold rows; rw [List.map_append, List.flatten_append]
theorem zkN {h : Nat} (ks : List (Tr.T h)) (ih : ∀ k ∈ ks, rows (lvs h k) = ents h k) : rows ((ks.map (lvs h)).flatten) = (ks.map (ents h)).flatten := by
 induction ks with
 | nil => rfl
 | cons k ks ihk =>
   show rows (lvs h k ++ (ks.map (lvs h)).flatten) = ents h k ++ (ks.map (ents h)).flatten
   rw [zc9, ih k (.head _), ihk fun k hk => ih k (.tail _ hk)]
theorem zi3 : ∀ (h : Nat) (t : Tr.T h), rows (lvs h t) = ents h t
 | 0, t => by
   show [Tr.row t].flatten = _
   rw [List.flatten_cons, List.flatten_nil, List.append_nil]
   rfl
 | h + 1, t => zkN t.2 fun k _ => zi3 h k
def lvA (a : AT) : List (Tr.T 0) := lvs a.h a.t
def rest : List (AT × Nat) → List (Tr.T 0)
 | [] => []
 | x :: l => ((x.1.kids.drop x.2).map lvA).flatten ++ rest l
theorem zpD {h : Nat} (t : Tr.T (h + 1)) (i : Nat) : (((⟨h + 1, t⟩ : AT).kids.drop i).map lvA) = (t.2.drop i).map (lvs h) := by
 show (((t.2.map fun k => (⟨h, k⟩ : AT)).drop i).map lvA) = _
 rw [← List.map_drop, List.map_map]
 rfl
theorem zb1 {h : Nat} (t : Tr.T (h + 1)) (i : Nat) (l : List (AT × Nat)) : rest ((⟨h + 1, t⟩, i) :: l) = ((t.2.drop i).map (lvs h)).flatten ++ rest l := by
 show ((((⟨h + 1, t⟩ : AT).kids.drop i).map lvA).flatten ++ rest l) = _
 rw [zpD]
theorem zeC {h : Nat} {t : Tr.T (h + 1)} {i : Nat} {c : Tr.T h} (l : List (AT × Nat)) (hc : t.2[i]? = some c) : rest ((⟨h + 1, t⟩, i) :: l) = lvs h c ++ rest ((⟨h + 1, t⟩, i + 1) :: l) := by
 obtain ⟨hi, he⟩ := List.getElem?_eq_some_iff.1 hc
 rw [zb1, zb1, List.drop_eq_getElem_cons hi, he]
 show (lvs h c ++ _) ++ _ = _
 rw [List.append_assoc]
theorem zkQ {h : Nat} {t : Tr.T (h + 1)} {i : Nat} (l : List (AT × Nat)) (hi : t.2.length ≤ i) : rest ((⟨h + 1, t⟩, i) :: l) = rest l := by
 rw [zb1, List.drop_of_length_le hi]
 rfl
def frV (x : AT × Nat) : Nat × Nat := ((Tr.nd x.1.h x.1.t).g, x.2)
def stk (l : List (AT × Nat)) : List (Nat × Nat) := (l.map frV).reverse
theorem zeg (x : AT × Nat) (l : List (AT × Nat)) : stk (x :: l) = stk l ++ [frV x] := by unfold stk; rw [List.map_cons, List.reverse_cons]
theorem zez (l : List (AT × Nat)) : (stk l).length = l.length := by unfold stk; rw [List.length_reverse, List.length_map]
def KsAsc : (h : Nat) → Tr.T h → Prop
 | 0, t => AscK (Tr.nd 0 t).Ks
 | h + 1, t => AscK (Tr.nd (h + 1) t).Ks ∧ ∀ c ∈ t.2, KsAsc h c
theorem KsAsc.nd : ∀ {h : Nat} {t : Tr.T h}, KsAsc h t → AscK (Tr.nd h t).Ks
 | 0, _, h => h
 | _ + 1, _, h => h.1
theorem zoT : ∀ (h : Nat) (t : Tr.T h), Tr.Ok h t → AscK (keysOf (ents h t)) → KsAsc h t
 | 0, t, ok, ha => zdR 0 t ok ha
 | h + 1, t, ok, ha => ⟨zdR (h + 1) t ok ha, fun c hc => zoT h c (ok.2.2 c hc) (by
   obtain ⟨j, hj⟩ := List.getElem?_of_mem hc
   exact zcY (Bs := t.2.map (ents h)) (i := j) ha (by rw [List.getElem?_map, hj]; rfl))⟩
structure InT (a0 a : AT) : Prop where
 ok : a.Ok
 rt : Root a.h a.t
 ks : KsAsc a.h a.t
 der : Der [stF (some a0)] (treeF a.h a.t)
theorem InT.kid {a0 : AT} {h : Nat} {t : Tr.T (h + 1)} {c : Tr.T h} (i : InT a0 ⟨h + 1, t⟩) (hc : c ∈ t.2) : InT a0 ⟨h, c⟩ where
 ok := i.ok.2.2 c hc
 rt := (i.rt.2.2 c hc).near.root
 ks := i.ks.2 c hc
 der := (zcB (t := t) hc).trans fun ψ hψ => by obtain rfl := m1 hψ; exact i.der
inductive StkOk (a0 : AT) : List (AT × Nat) → Nat → Prop
 | nil : StkOk a0 [] a0.h
 | cons {h : Nat} {t : Tr.T (h + 1)} {i : Nat} {l : List (AT × Nat)} (hs : StkOk a0 l (h + 1)) (hi : InT a0 ⟨h + 1, t⟩) : StkOk a0 ((⟨h + 1, t⟩, i) :: l) h
theorem StkOk.len {a0 : AT} {l : List (AT × Nat)} {h : Nat} (s : StkOk a0 l h) : l.length + h = a0.h := by
 induction s with
 | nil => exact Nat.zero_add _
 | cons hs hi ih => rw [List.length_cons]; omega
def LF : (h : Nat) → Tr.T h → KeyD → List (Tr.T 0) → Prop
 | 0, t, _, ys => ys = [t]
 | h + 1, t, k, ys => ∃ q c zs, PosK ((t.2.map (ents h)).map fstK) k q ∧ t.2[kidIx ((t.2.map (ents h)).map fstK) k q]? = some c ∧ LF h c k zs ∧ ys = zs ++ ((t.2.drop (kidIx ((t.2.map (ents h)).map fstK) k q + 1)).map (lvs h)).flatten
theorem zjc {x : KeyD} (h : x.Bd) : ¬ klt x ⟨0, 0, 0⟩ := by
 have h1 := h.v; have h2 := h.b; have h3 := h.s
 unfold klt
 dsimp only
 omega
theorem zlt : ∀ (h : Nat) (t : Tr.T h), Tr.Ok h t → KsAsc h t → (∀ e ∈ ents h t, e.k.Bd) → LF h t ⟨0, 0, 0⟩ (lvs h t)
 | 0, t, ok, ha, hb => rfl
 | h + 1, t, ok, ha, hb => by
   have hks : AscK ((t.2.map (ents h)).map fstK) := by
    have := ha.1
    rwa [keys_inner ok] at this
   obtain ⟨q, hq⟩ := pos_ex _ ⟨0, 0, 0⟩ hks
   have h0 : 0 < t.2.length := ok.2.1
   obtain ⟨c, hc⟩ : ∃ c, t.2[0]? = some c := ⟨t.2[0], List.getElem?_eq_getElem h0⟩
   have hcm := List.mem_of_getElem? hc
   have hq0 : q = 0 := by
    rcases Nat.eq_zero_or_pos q with h1 | h1
    ·exact h1
    ·exfalso
     have hf := zaM h c (ok.2.2 c hcm)
     obtain ⟨e, r, he, hk⟩ := zbm hf.1
     have h2 : ((t.2.map (ents h)).map fstK)[0]? = some e.k := by rw [List.getElem?_map, List.getElem?_map, hc]; show some (fstK (ents h c)) = _; rw [hk]
     refine zjc (x := e.k) (hb e ?_) (by have := hq.lo 0 h1; rwa [getD_at h2] at this)
     show e ∈ (t.2.map (ents h)).flatten
     exact List.mem_flatten.2 ⟨ents h c, List.mem_map.2 ⟨c, hcm, rfl⟩, by rw [he]; exact .head _⟩
   subst hq0
   have hi : kidIx ((t.2.map (ents h)).map fstK) ⟨0, 0, 0⟩ 0 = 0 := by
    unfold kidIx
    split <;> rfl
   refine ⟨0, c, lvs h c, hq, by rw [hi]; exact hc, zlt h c (ok.2.2 c hcm) (ha.2 c hcm) (fun e he => hb e ?_), ?_⟩
   ·show e ∈ (t.2.map (ents h)).flatten
    exact List.mem_flatten.2 ⟨ents h c, List.mem_map.2 ⟨c, hcm, rfl⟩, he⟩
   ·rw [hi]
    have := zeC (t := t) (i := 0) [] hc
    rw [zb1, zb1] at this
    simpa [rest, lvs] using this
theorem zoO {a0 : AT} : ∀ {h : Nat} {t : Tr.T h}, InT a0 ⟨h, t⟩ → ∀ y ∈ lvs h t, InT a0 ⟨0, y⟩
 | 0, t, i, y, hy => by
   have hy' : y ∈ [t] := hy
   obtain rfl := m1 hy'
   exact i
 | h + 1, t, i, y, hy => by
   obtain ⟨l, hl, hyl⟩ := List.mem_flatten.1 (show y ∈ (t.2.map (lvs h)).flatten from hy)
   obtain ⟨c, hc, rfl⟩ := List.mem_map.1 hl
   exact zoO (i.kid hc) y hyl
theorem zoQ : ∀ (h : Nat) (t : Tr.T h) (k : KeyD) (ys : List (Tr.T 0)), LF h t k ys → ∀ y ∈ ys, y ∈ lvs h t
 | 0, t, k, ys, hl, y, hy => by
   have hl' : ys = [t] := hl
   rw [hl'] at hy
   exact hy
 | h + 1, t, k, ys, ⟨q, c, zs, _, hc, hz, hys⟩, y, hy => by
   rw [hys] at hy
   show y ∈ (t.2.map (lvs h)).flatten
   rcases List.mem_append.1 hy with h1 | h1
   ·exact List.mem_flatten.2 ⟨lvs h c, List.mem_map.2 ⟨c, List.mem_of_getElem? hc, rfl⟩, zoQ h c k zs hz y h1⟩
   ·obtain ⟨l, hl, hyl⟩ := List.mem_flatten.1 h1
    obtain ⟨c', hc', rfl⟩ := List.mem_map.1 hl
    exact List.mem_flatten.2 ⟨_, List.mem_map.2 ⟨c', List.mem_of_mem_drop hc', rfl⟩, hyl⟩
noncomputable def inW (f t : KeyD) (e : EntD) : Bool := !tB (klt e.k f) && !tB (klt t e.k)
noncomputable def win (f t : KeyD) (l : List EntD) : List EntD := l.filter (inW f t)
theorem zev (f t : KeyD) (l m : List EntD) : win f t (l ++ m) = win f t l ++ win f t m := List.filter_append ..
def UpTo (t : KeyD) (Z : List EntD) : Prop := ∀ P e S, Z = P ++ e :: S → klt t e.k → ∀ x ∈ S, klt t x.k
theorem zkp {f t : KeyD} {e : EntD} (h1 : ¬ klt e.k f) (h2 : ¬ klt t e.k) : win f t [e] = [e] := by
 unfold win inW
 rw [List.filter_cons, if_pos (by rw [zaj h1, zaj h2]; rfl)]
 rfl
theorem zmS {f t : KeyD} {e : EntD} (h : klt e.k f ∨ klt t e.k) : win f t [e] = [] := by
 unfold win inW
 rw [List.filter_cons, if_neg]
 ·rfl
 ·rcases h with h | h
  ·rw [zan h]; simp
  ·rw [zan h]; simp
theorem zmT {f t : KeyD} {Z P S : List EntD} {e : EntD} (hZ : Z = P ++ e :: S) (h1 : ¬ klt e.k f) (h2 : ¬ klt t e.k) : (win f t Z)[(win f t P).length]? = some e := by
 rw [hZ, show P ++ e :: S = P ++ ([e] ++ S) from rfl, zev, zev, zkp h1 h2, List.getElem?_append_right (Nat.le_refl _), Nat.sub_self]
 rfl
theorem zmR {f t : KeyD} {Z P S : List EntD} {e : EntD} (hZ : Z = P ++ e :: S) (hu : UpTo t Z) (h2 : klt t e.k) : win f t Z = win f t P := by
 have h3 := hu P e S hZ h2
 rw [hZ, zev]
 have : win f t (e :: S) = [] := by
  unfold win
  rw [List.filter_eq_nil_iff]
  intro x hx
  have hk : klt t x.k := by
   rcases List.mem_cons.1 hx with rfl | hx
   ·exact h2
   ·exact h3 x hx
  unfold inW
  rw [zan hk]
  simp
 rw [this, List.append_nil]
theorem zmW {t : KeyD} {Z : List EntD} (ha : AscK (keysOf Z)) : UpTo t Z := by
 intro P e S hZ h1 x hx
 obtain ⟨j, hj⟩ := List.getElem?_of_mem hx
 have e1 : (keysOf Z)[P.length]? = some e.k := by
  show (Z.map EntD.k)[P.length]? = _
  rw [List.getElem?_map, hZ, List.getElem?_append_right (Nat.le_refl _), Nat.sub_self]
  rfl
 have e2 : (keysOf Z)[P.length + 1 + j]? = some x.k := by
  show (Z.map EntD.k)[P.length + 1 + j]? = _
  rw [List.getElem?_map, hZ, List.getElem?_append_right (by omega), show P.length + 1 + j - P.length = j + 1 by omega, List.getElem?_cons_succ, hj]
  rfl
 have e3 := ha P.length (P.length + 1 + j) (by omega) (List.getElem?_eq_some_iff.1 e2).1
 rw [getD_at e1, getD_at e2] at e3
 exact zbr h1 e3
theorem zgY {ys : List (Tr.T 0)} {q : Nat} {x : Tr.T 0} (hx : ys[q]? = some x) : rows (ys.take (q + 1)) = rows (ys.take q) ++ x.2 := by
 obtain ⟨h1, h2⟩ := List.getElem?_eq_some_iff.1 hx
 rw [List.take_succ_eq_append_getElem h1, h2, zc9]
 show _ ++ [Tr.row x].flatten = _
 rw [List.flatten_cons, List.flatten_nil, List.append_nil]
 rfl
theorem zpg {ys : List (Tr.T 0)} {q j : Nat} {x : Tr.T 0} {e : EntD} (hx : ys[q]? = some x) (he : x.2[j]? = some e) : ∃ S, rows ys = (rows (ys.take q) ++ x.2.take j) ++ e :: S := by
 obtain ⟨h1, h2⟩ := List.getElem?_eq_some_iff.1 he
 refine ⟨x.2.drop (j + 1) ++ rows (ys.drop (q + 1)), ?_⟩
 conv => lhs; rw [← List.take_append_drop (q + 1) ys, zc9, zgY hx]
 conv => lhs; rw [← List.take_append_drop j x.2, List.drop_eq_getElem_cons h1, h2]
 simp only [List.append_assoc, List.cons_append]
def LvO (a : Option AT) (k : KeyD) (ys : List (Tr.T 0)) : Prop :=
 match a with
 | none => ys = []
 | some a => InT a a ∧ a.h ≤ 12 ∧ LF a.h a.t k ys
theorem LvO.at {a : Option AT} {k : KeyD} {ys : List (Tr.T 0)} (h : LvO a k ys) {y : Tr.T 0} (hy : y ∈ ys) : ∃ b, a = some b ∧ InT b ⟨0, y⟩ := by
 cases a with
 | none =>
   obtain rfl : ys = [] := h
   cases hy
 | some b => exact ⟨b, rfl, zoO h.1 y (zoQ _ _ _ _ h.2.2 y hy)⟩
theorem zlL {a : AT} {L : List EntD} (h : HasO (some a) L) : InT a a := ⟨Has.ok h, Has.size h, zoT _ _ (Has.ok h) (by rw [Has.row h]; exact Has.asc h), zfr a⟩
def pO : Option (Tr.T 0) → Value
 | some t => .pointer (some ⟨(Tr.nd 0 t).g, 0, none⟩)
 | none => .pointer none
structure At (a0 : AT) (ys : List (Tr.T 0)) (cur : Option (Tr.T 0)) (l : List (AT × Nat)) (k : Nat) : Prop where
 le : k ≤ ys.length
 dr : ys.drop k = cur.toList ++ rest l
 st : ∀ t, cur = some t → StkOk a0 l 0 ∧ InT a0 ⟨0, t⟩
 no : cur = none → l = []
theorem At.next {a0 : AT} {ys : List (Tr.T 0)} {t : Tr.T 0} {l : List (AT × Nat)} {k : Nat} (h : At a0 ys (some t) l k) : ys[k]? = some t ∧ k + 1 ≤ ys.length ∧ ys.drop (k + 1) = rest l := by
 have h1 := h.dr
 have h2 : k < ys.length := by
  rcases Nat.lt_or_ge k ys.length with h3 | h3
  ·exact h3
  ·rw [List.drop_of_length_le h3] at h1; cases h1
 rw [List.drop_eq_getElem_cons h2] at h1
 have h3 : ys[k] :: ys.drop (k + 1) = t :: rest l := h1
 injection h3 with h4 h5
 exact ⟨by rw [List.getElem?_eq_getElem h2, h4], h2, h5⟩
theorem At.done {a0 : AT} {ys : List (Tr.T 0)} {l : List (AT × Nat)} {k : Nat} (h : At a0 ys none l k) : k = ys.length := by
 have h1 := h.dr
 rw [h.no rfl] at h1
 have h2 : ys.drop k = [] := h1
 have := h.le
 have := List.drop_eq_nil_iff.1 h2
 omega
end Go.Proofs.YtaghmffgoomebaaGreat.Wk
namespace Go.Proofs.YtaghmffgoomebaaGreat.Ws
open Go.RowKit Mem Gx Sk
set_option maxRecDepth 100000
set_option maxHeartbeats 4000000
theorem zcs (w : World) : Calls Tryz.prog 140 [.int .i64 16].toArray w (Ret (fun _ : Nat => True) (fun g => .pointer (some ⟨g, 0, none⟩)) (fun g => [blk g (stC []) 251]) w) := by
 refine zab T [] [] [] Tryz.func140 rfl Tryz.ntmps140 rfl (Kn.start _) ?_
 (repeat (refine gG ?_; try intro _))
 refine g_yd rfl rfl (Ys.yd (zfo 16 rfl rfl rfl (by decide))) ?_
 refine g_yd rfl rfl (Ys.yd (zgJ 16 rfl rfl rfl (by decide))) ?_
 (repeat (refine gG ?_; try intro _))
 rename_i g
 refine zad hT rfl rfl (.tmp rfl .nil) (fun w' hk => ?_)
 exact Ret.mk g trivial rfl hk sA
theorem zcH (g : Nat) (l : List (Nat × Nat)) (x : Nat × Nat) (w : World) (hl : l.length < 16) (h : w.heap[g]? = some (.cells (stC l).toArray 251 (0, 0))) :
 Calls Tryz.prog 141 [.pointer (some ⟨g, 0, none⟩), stepV x].toArray w (RetW g 251 [] (fun _ : Unit => True) (fun _ => .bool true) (fun _ => stC (l ++ [x])) (fun _ => []) (fun _ => []) w) := by
 refine zab T [g] [blk g (stC l) 251] [] Tryz.func141 rfl Tryz.ntmps141 rfl (Kn.startW h) ?_
 (repeat (refine gG ?_; try intro _))
 rename_i g3
 refine zaP [1] rfl rfl kR ?_
 (repeat (first | refine zbC dK ?_ | refine zae dK rfl rfl (zcc (nw := true) hT rfl sI) sF ?_ | refine za5 dK rfl rfl sF ?_ | refine zae dK rfl rfl (zbp hT rfl rfl mE rfl rfl) sF ?_ | refine zae dK rfl rfl (zbn hT rfl rfl mE rfl rfl) sF ?_ | refine zae dK rfl rfl (za1 hT rfl rfl mE rfl rfl) sF ?_ | (refine zcm dK rfl ?_; (first | (refine zaT rfl rfl rfl rfl ?_; intro _) | (refine zay rfl hT rfl rfl ?_; intro _) | refine zat hT rfl rfl rfl rfl rfl rfl sO rfl ?_ | (refine zaa rfl hT rfl rfl rfl rfl rfl rfl rfl rfl ?_; intro _)); refine ⟨sF, ?_⟩) | refine zae dK rfl rfl (zby rfl rfl rfl rfl rfl kR) sF ?_ | refine zae dK rfl rfl (za8 rfl rfl rfl rfl rfl kR) sF ?_))
 refine zae dK rfl rfl (zaA hT [.int .i64 l.length] rfl rfl mE (zfi (by omega)) rfl rfl) sF ?_
 (repeat (first | refine zbC dK ?_ | refine zae dK rfl rfl (zcc (nw := true) hT rfl sI) sF ?_ | refine za5 dK rfl rfl sF ?_ | refine zae dK rfl rfl (zbp hT rfl rfl mE rfl rfl) sF ?_ | refine zae dK rfl rfl (zbn hT rfl rfl mE rfl rfl) sF ?_ | refine zae dK rfl rfl (za1 hT rfl rfl mE rfl rfl) sF ?_ | (refine zcm dK rfl ?_; (first | (refine zaT rfl rfl rfl rfl ?_; intro _) | (refine zay rfl hT rfl rfl ?_; intro _) | refine zat hT rfl rfl rfl rfl rfl rfl sO rfl ?_ | (refine zaa rfl hT rfl rfl rfl rfl rfl rfl rfl rfl ?_; intro _)); refine ⟨sF, ?_⟩) | refine zae dK rfl rfl (zby rfl rfl rfl rfl rfl kR) sF ?_ | refine zae dK rfl rfl (za8 rfl rfl rfl rfl rfl kR) sF ?_))
 refine zae dK rfl rfl (zaA hT [.int .i64 16] rfl rfl mE (ziF (by omega)) rfl rfl) sF ?_
 (repeat (first | refine zbC dK ?_ | refine zae dK rfl rfl (zcc (nw := true) hT rfl sI) sF ?_ | refine za5 dK rfl rfl sF ?_ | refine zae dK rfl rfl (zbp hT rfl rfl mE rfl rfl) sF ?_ | refine zae dK rfl rfl (zbn hT rfl rfl mE rfl rfl) sF ?_ | refine zae dK rfl rfl (za1 hT rfl rfl mE rfl rfl) sF ?_ | (refine zcm dK rfl ?_; (first | (refine zaT rfl rfl rfl rfl ?_; intro _) | (refine zay rfl hT rfl rfl ?_; intro _) | refine zat hT rfl rfl rfl rfl rfl rfl sO rfl ?_ | (refine zaa rfl hT rfl rfl rfl rfl rfl rfl rfl rfl ?_; intro _)); refine ⟨sF, ?_⟩) | refine zae dK rfl rfl (zby rfl rfl rfl rfl rfl kR) sF ?_ | refine zae dK rfl rfl (za8 rfl rfl rfl rfl rfl kR) sF ?_))
 refine zdH rfl rfl (by omega) ?_
 (repeat (refine gG ?_; try intro _))
 refine zas [0] (Cut _ (fun _ : Unit => [(0, .pointer (some ⟨g, 0, none⟩))]) (fun _ => [blk g (lay (stC l) (l.length * 2) [.pointer (some ⟨x.1, 0, none⟩), .int .i64 x.2]) 251]) (fun _ => [])) rfl rfl kR ?_ (zaD fun _ => ?_)
 ·skip
  refine gY hT 0 ?_
  refine gY hT 1 ?_
  refine gY hT 2 ?_
  refine gY hT 3 ?_
  refine gW hT 5 ?_
  refine gY hT 6 ?_
  refine gY hT 7 ?_
  refine gP 4 ?_
  refine zaC rfl ((zaA (S := [blk g (stC l) 251]) hT [.int .i64 l.length] rfl rfl mE (zfi (by omega)) rfl rfl).ydS sF) ?_
  refine ⟨sF, ?_⟩
  refine gY hT 8 ?_
  try (refine zam 22 (.pointer (some ⟨g, l.length * 2, none⟩)) rfl (by congr 3; omega) ?_)
  refine gP 9 ?_
  refine zbq hT rfl rfl rfl rfl rfl rfl (by first | ((repeat (first | with_reducible exact Upd.here _ | with_reducible apply Upd.there)); done) | ((repeat (first | exact Upd.here _ | apply Upd.there)); done) | fail) (by rw [zfS (by omega)]; show l.length * 2 + 2 ≤ 34; omega) rfl ?_
  refine ⟨sF, ?_⟩
  refine zak dK ?_
  exact ⟨(), fS, sA, sS⟩
 ·have e1 : lay (stC l) (l.length * 2) [.pointer (some ⟨x.1, 0, none⟩), .int .i64 x.2] = flatF 2 OE (padS (l ++ [x])) ++ [.int .i64 l.length, .int .i64 16] := by
   unfold stC
   exact (zel 2 OE (by decide) (padS l) _ l.length (some x) (by rw [zeE (by omega)]; omega)).trans (by rw [ziT hl])
  rw [e1]
  have l32 : (flatF 2 OE (padS (l ++ [x]))).length = 32 := zbF (by rw [List.length_append]; exact hl)
  (repeat (refine gG ?_; try intro _))
  refine g_yd rfl rfl ((zaA (S := [blk g (flatF 2 OE (padS (l ++ [x])) ++ [.int .i64 l.length, .int .i64 16]) 251]) hT [.int .i64 l.length] rfl rfl mE (fun i v hv => ?_) rfl rfl).ydS sF) ?_
  ·rw [List.getElem?_append_right (by rw [l32]; omega), l32]
   match i, hv with
   | 0, hv => exact hv
  (repeat (refine gG ?_; try intro _))
  refine g_mv rfl (zbq hT rfl rfl rfl rfl rfl rfl (by first | ((repeat (first | with_reducible exact Upd.here _ | with_reducible apply Upd.there)); done) | ((repeat (first | exact Upd.here _ | apply Upd.there)); done) | fail) (by rw [List.length_append, l32]; show 0 + 32 + 1 ≤ 32 + 2; decide) rfl ?_)
  (repeat (refine gG ?_; try intro _))
  refine zad hT rfl rfl (.tmp rfl .nil) (fun w' hk => ?_)
  refine RetW.mk () trivial rfl hk (by
   show SelAll (blk g (stC (l ++ [x])) 251 :: []) _
   have e2 : lay (flatF 2 OE (padS (l ++ [x])) ++ [Value.int .i64 l.length, .int .i64 16]) 32 [Value.int .i64 ((l.length : Int) + 1)] = stC (l ++ [x]) := by
    unfold stC
    rw [zbl _ _ _ l32.symm, List.append_assoc, List.length_append]
    rfl
   rw [← e2]
   exact sA) (fun φ h => by cases h)
theorem zfU (g : Nat) (w : World) (h : Rd1 w (blk g (stC []) 251)) :
 Calls Tryz.prog 142 [.pointer (some ⟨g, 0, none⟩)].toArray w fun e w' => e = .returned (.tuple #[.agg #[.pointer none, .int .i64 0], .bool false]) ∧ Below w.heap.size w w' := by
 refine zab T [] [] [blk g (stC []) 251] Tryz.func142 rfl Tryz.ntmps142 rfl (Rds.cons h .nil).kn ?_
 (repeat (refine gG ?_; try intro _))
 rename_i g2 g4
 refine g_yd rfl rfl ((zaA (S := [blk g (stC []) 251]) hT [.int .i64 0] rfl rfl mE (zfi (l := []) (by decide)) rfl rfl).ydS sF) ?_
 (repeat (refine gG ?_; try intro _))
 refine zhr rfl rfl rfl ?_
 (repeat (refine gG ?_; try intro _))
 refine zad hT rfl rfl (.cell rfl mE rfl rfl (.tmp rfl .nil)) (fun w' hk => ?_)
 exact ⟨rfl, hk.toBelow⟩
theorem zfT (g : Nat) (l : List (Nat × Nat)) (x : Nat × Nat) (w : World) (hl : l.length < 16) (h : w.heap[g]? = some (.cells (stC (l ++ [x])).toArray 251 (0, 0))) :
 Calls Tryz.prog 142 [.pointer (some ⟨g, 0, none⟩)].toArray w (RetW g 251 [] (fun _ : Unit => True) (fun _ => .tuple #[stepV x, .bool true]) (fun _ => stC l) (fun _ => []) (fun _ => []) w) := by
 have hl1 : (l ++ [x]).length = l.length + 1 := by rw [List.length_append]; rfl
 have hl2 : (l ++ [x]).length ≤ 16 := by omega
 have l32 : (flatF 2 OE (padS (l ++ [x]))).length = 32 := zbF hl2
 have cn : ∀ i v, [Value.int .i64 l.length][i]? = some v → (flatF 2 OE (padS (l ++ [x])) ++ [Value.int .i64 l.length, .int .i64 16])[32 + i]? = some v := fun i v hv => by
  rw [List.getElem?_append_right (by rw [l32]; omega), l32]
  match i, hv with
  | 0, hv => exact hv
 have cx : ∀ i v, [Value.pointer (some ⟨x.1, 0, none⟩), .int .i64 x.2][i]? = some v → (flatF 2 OE (padS (l ++ [x])) ++ [Value.int .i64 l.length, .int .i64 16])[l.length * 2 + i]? = some v := fun i v hv => by
  have hi : i < 2 := by
   match i, hv with
   | 0, _ => omega
   | 1, _ => omega
  have := ziE hl2 i v hv
  unfold stC at this
  rw [List.getElem?_append_left (by rw [l32]; omega)] at this ⊢
  exact this
 refine zab T [g] [blk g (stC (l ++ [x])) 251] [] Tryz.func142 rfl Tryz.ntmps142 rfl (Kn.startW h) ?_
 (repeat (refine gG ?_; try intro _))
 rename_i g2 g4
 refine g_yd rfl rfl ((zaA (S := [blk g (stC (l ++ [x])) 251]) hT [.int .i64 (l ++ [x]).length] rfl rfl mE (zfi hl2) rfl rfl).ydS sF) ?_
 (repeat (refine gG ?_; try intro _))
 refine zdH rfl rfl (by omega) ?_
 (repeat (refine gG ?_; try intro _))
 refine g_yd rfl rfl ((zaA (S := [blk g (stC (l ++ [x])) 251]) hT [.int .i64 (l ++ [x]).length] rfl rfl mE (zfi hl2) rfl rfl).ydS sF) ?_
 (repeat (refine gG ?_; try intro _))
 refine g_mv rfl (zbq hT rfl rfl rfl rfl rfl rfl (by first | ((repeat (first | with_reducible exact Upd.here _ | with_reducible apply Upd.there)); done) | ((repeat (first | exact Upd.here _ | apply Upd.there)); done) | fail) (by rw [zfS hl2]; show 0 + 32 + 1 ≤ 34; decide) rfl ?_)
 have e1 : lay (stC (l ++ [x])) (0 + 32) [.int .i64 (((l ++ [x]).length : Int) - 1)] = flatF 2 OE (padS (l ++ [x])) ++ [Value.int .i64 l.length, .int .i64 16] := by
  have := lay_n hl2 l.length
  rw [← this]
  congr 3
  omega
 rw [e1]
 (repeat (refine gG ?_; try intro _))
 refine zas [0, 1, 2] (Cut _ (fun g5 : Nat => [(0, .pointer (some ⟨g, 0, none⟩)), (2, .pointer (some ⟨g2, 0, none⟩)), (4, .pointer (some ⟨g4, 0, none⟩)), (5, .pointer (some ⟨g5, 0, none⟩))]) (fun g5 => [blk g5 [.pointer (some ⟨x.1, 0, none⟩), .int .i64 x.2] 244, blk g4 [.pointer none, .int .i64 0] 244, blk g2 [.pointer none, .int .i64 0] 244, blk g (flatF 2 OE (padS (l ++ [x])) ++ [.int .i64 l.length, .int .i64 16]) 251]) (fun _ => [])) rfl rfl kR ?_ (zaD fun g5 => ?_)
 ·skip
  refine gY hT 0 ?_
  refine gY hT 1 ?_
  refine gY hT 2 ?_
  refine gY hT 3 ?_
  refine zaz 4 rfl dK rfl rfl (zaA hT [.int .i64 l.length] rfl rfl mE cn rfl rfl) sF ?_
  refine gY hT 5 ?_
  refine gY hT 6 ?_
  refine gY hT 7 ?_
  try (refine zam 26 (.pointer (some ⟨g, l.length * 2, none⟩)) rfl (by congr 3; omega) ?_)
  refine zaz 8 rfl dK rfl rfl (zaA hT [.pointer (some ⟨x.1, 0, none⟩), .int .i64 x.2] rfl rfl mE cx rfl rfl) sF ?_
  first | refine gO 9 ?_ | (refine gX 9 ?_; intro _)
  first | refine gO 10 ?_ | (refine gX 10 ?_; intro _)
  refine zak dK ?_
  exact ⟨_, fS, sA, sS⟩
 ·skip
  refine zas [0, 1, 2] (Cut _ (fun _ : Unit => [(0, .pointer (some ⟨g, 0, none⟩)), (2, .pointer (some ⟨g2, 0, none⟩)), (5, .pointer (some ⟨g5, 0, none⟩))]) (fun _ => [blk g5 [.pointer (some ⟨x.1, 0, none⟩), .int .i64 x.2] 244, blk g2 [.pointer none, .int .i64 0] 244, blk g (lay (flatF 2 OE (padS (l ++ [x])) ++ [.int .i64 l.length, .int .i64 16]) (l.length * 2) [.pointer none, .int .i64 0]) 251]) (fun _ => [])) rfl rfl kR ?_ (zaD fun _ => ?_)
  ·skip
   refine gY hT 0 ?_
   refine gY hT 1 ?_
   refine gY hT 2 ?_
   refine gY hT 3 ?_
   refine gW hT 5 ?_
   refine gY hT 6 ?_
   refine gY hT 7 ?_
   refine gP 4 ?_
   refine zaC rfl ((zaA (S := [blk g (flatF 2 OE (padS (l ++ [x])) ++ [.int .i64 l.length, .int .i64 16]) 251]) hT [.int .i64 l.length] rfl rfl mE cn rfl rfl).ydS sF) ?_
   refine ⟨sF, ?_⟩
   refine gY hT 8 ?_
   try (refine zam 36 (.pointer (some ⟨g, l.length * 2, none⟩)) rfl (by congr 3; omega) ?_)
   refine gP 9 ?_
   refine zbq hT rfl rfl rfl rfl rfl rfl (by first | ((repeat (first | with_reducible exact Upd.here _ | with_reducible apply Upd.there)); done) | ((repeat (first | exact Upd.here _ | apply Upd.there)); done) | fail) (by rw [List.length_append, l32]; show l.length * 2 + 2 ≤ 32 + 2; omega) rfl ?_
   refine ⟨sF, ?_⟩
   refine zak dK ?_
   exact ⟨(), fS, sA, sS⟩
  ·have e2 : lay (flatF 2 OE (padS (l ++ [x])) ++ [Value.int .i64 l.length, .int .i64 16]) (l.length * 2) [.pointer none, .int .i64 0] = stC l :=
    (zel 2 OE (by decide) (padS (l ++ [x])) _ l.length none (by rw [zeE hl2]; omega)).trans (by rw [zk4 hl]; rfl)
   rw [e2]
   (repeat (refine gG ?_; try intro _))
   refine zad hT rfl rfl (.cell rfl mE rfl rfl (.tmp rfl .nil)) (fun w' hk => ?_)
   exact RetW.mk () trivial rfl hk sA (fun φ h => by cases h)
theorem zcr (g : Nat) (xs : List (Nat × Nat)) (w : World) (hl : xs.length ≤ 16) (h : w.heap[g]? = some (.cells (stC xs).toArray 251 (0, 0))) :
 Calls Tryz.prog 142 [.pointer (some ⟨g, 0, none⟩)].toArray w (RetW g 251 [] (fun _ : Unit => True) (fun _ => .tuple #[.agg #[pA xs, pI xs], .bool (!xs.isEmpty)]) (fun _ => stC xs.dropLast) (fun _ => []) (fun _ => []) w) := by
 rcases List.eq_nil_or_concat xs with rfl | ⟨l, x, rfl⟩
 ·refine (zfU g w ⟨h, fun b hb => ?_⟩).mono ?_
  ·have : b = g := hb
   subst this
   rcases Nat.lt_or_ge b w.heap.size with h' | h'
   ·exact h'
   ·rw [Array.getElem?_eq_none h'] at h; cases h
  ·rintro e w' ⟨e1, hb⟩
   exact ⟨(), trivial, e1, zec hb h, fun φ h => by cases h⟩
 ·rw [List.concat_eq_append] at h hl ⊢
  rw [zeG, zeF, List.dropLast_concat, show (!(l ++ [x]).isEmpty) = true by simp]
  exact zfT g l x w (by rw [List.length_append] at hl; simp at hl; omega) h
end Go.Proofs.YtaghmffgoomebaaGreat.Ws
