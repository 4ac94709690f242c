/- The leaves of a tree from a key on, in order; what is left to be gone through (plain). -/
import Derived.Test.YtahfjkibononfaaTt
import Derived.Test.YtahfjkibononfaaNdO
namespace Go.Proofs.Ytahfjkibononfaa.Wk
open Go.RowKit Mem Nd Gx Tw
open Tr hiding T row
set_option linter.unusedVariables false
set_option linter.unusedSimpArgs false
set_option maxRecDepth 100000
/-- All leaves of a tree. -/
def lvs : (h : Nat) → Tr.T h → List (Tr.T 0)
  | 0, t => [t]
  | h + 1, t => (t.2.map (lvs h)).flatten
def rows (l : List (Tr.T 0)) : List EntD := (l.map Tr.row).flatten
theorem rows_append (l m : List (Tr.T 0)) : rows (l ++ m) = rows l ++ rows m := by unfold rows; rw [List.map_append, List.flatten_append]
theorem rows_flat {h : Nat} (ks : List (Tr.T h)) (ih : ∀ k ∈ ks, rows (lvs h k) = ents h k) : rows ((ks.map (lvs h)).flatten) = (ks.map (ents h)).flatten := by
  induction ks with
  | nil => rfl
  | cons k ks ihk =>
    show rows (lvs h k ++ (ks.map (lvs h)).flatten) = ents h k ++ (ks.map (ents h)).flatten
    rw [rows_append, ih k (.head _), ihk fun k hk => ih k (.tail _ hk)]
theorem lvs_rows : ∀ (h : Nat) (t : Tr.T h), rows (lvs h t) = ents h t
  | 0, t => by
    show [Tr.row t].flatten = _
    rw [List.flatten_cons, List.flatten_nil, List.append_nil]
    rfl
  | h + 1, t => rows_flat t.2 fun k _ => lvs_rows h k
def lvA (a : AT) : List (Tr.T 0) := lvs a.h a.t
/-- What the nodes on the way down have left, the lowest one first. -/
def rest : List (AT × Nat) → List (Tr.T 0)
  | [] => []
  | x :: l => ((x.1.kids.drop x.2).map lvA).flatten ++ rest l
theorem kids_lv {h : Nat} (t : Tr.T (h + 1)) (i : Nat) : (((⟨h + 1, t⟩ : AT).kids.drop i).map lvA) = (t.2.drop i).map (lvs h) := by
  show (((t.2.map fun k => (⟨h, k⟩ : AT)).drop i).map lvA) = _
  rw [← List.map_drop, List.map_map]
  rfl
theorem rest_cons {h : Nat} (t : Tr.T (h + 1)) (i : Nat) (l : List (AT × Nat)) : rest ((⟨h + 1, t⟩, i) :: l) = ((t.2.drop i).map (lvs h)).flatten ++ rest l := by
  show ((((⟨h + 1, t⟩ : AT).kids.drop i).map lvA).flatten ++ rest l) = _
  rw [kids_lv]
theorem rest_next {h : Nat} {t : Tr.T (h + 1)} {i : Nat} {c : Tr.T h} (l : List (AT × Nat)) (hc : t.2[i]? = some c) : rest ((⟨h + 1, t⟩, i) :: l) = lvs h c ++ rest ((⟨h + 1, t⟩, i + 1) :: l) := by
  obtain ⟨hi, he⟩ := List.getElem?_eq_some_iff.1 hc
  rw [rest_cons, rest_cons, List.drop_eq_getElem_cons hi, he]
  show (lvs h c ++ _) ++ _ = _
  rw [List.append_assoc]
theorem rest_over {h : Nat} {t : Tr.T (h + 1)} {i : Nat} (l : List (AT × Nat)) (hi : t.2.length ≤ i) : rest ((⟨h + 1, t⟩, i) :: l) = rest l := by
  rw [rest_cons, List.drop_of_length_le hi]
  rfl
/-- A stack's steps. -/
def frV (x : AT × Nat) : Nat × Nat := ((Tr.nd x.1.h x.1.t).g, x.2)
def stk (l : List (AT × Nat)) : List (Nat × Nat) := (l.map frV).reverse
theorem stk_cons (x : AT × Nat) (l : List (AT × Nat)) : stk (x :: l) = stk l ++ [frV x] := by unfold stk; rw [List.map_cons, List.reverse_cons]
theorem stk_len (l : List (AT × Nat)) : (stk l).length = l.length := by unfold stk; rw [List.length_reverse, List.length_map]
/-- Every node's keys rise. -/
def KsAsc : (h : Nat) → Tr.T h → Prop
  | 0, t => AscK (Tr.nd 0 t).Ks
  | h + 1, t => AscK (Tr.nd (h + 1) t).Ks ∧ ∀ c ∈ t.2, KsAsc h c
theorem KsAsc.nd : ∀ {h : Nat} {t : Tr.T h}, KsAsc h t → AscK (Tr.nd h t).Ks
  | 0, _, h => h
  | _ + 1, _, h => h.1
theorem ks_asc : ∀ (h : Nat) (t : Tr.T h), Tr.Ok h t → AscK (keysOf (ents h t)) → KsAsc h t
  | 0, t, ok, ha => asc_node 0 t ok ha
  | h + 1, t, ok, ha => ⟨asc_node (h + 1) t ok ha, fun c hc => ks_asc h c (ok.2.2 c hc) (by
    obtain ⟨j, hj⟩ := List.getElem?_of_mem hc
    exact part_asc (Bs := t.2.map (ents h)) (i := j) ha (by rw [List.getElem?_map, hj]; rfl))⟩
/-- A tree that is a part of another one. -/
structure InT (a0 a : AT) : Prop where
  ok : a.Ok
  rt : Root a.h a.t
  ks : KsAsc a.h a.t
  der : Der [stF (some a0)] (treeF a.h a.t)
theorem InT.kid {a0 : AT} {h : Nat} {t : Tr.T (h + 1)} {c : Tr.T h} (i : InT a0 ⟨h + 1, t⟩) (hc : c ∈ t.2) : InT a0 ⟨h, c⟩ where
  ok := i.ok.2.2 c hc
  rt := (i.rt.2.2 c hc).near.root
  ks := i.ks.2 c hc
  der := (der_kid (t := t) hc).trans fun ψ hψ => by obtain rfl := List.mem_singleton.1 hψ; exact i.der
/-- The nodes on the way down, above a height. -/
inductive StkOk (a0 : AT) : List (AT × Nat) → Nat → Prop
  | nil : StkOk a0 [] a0.h
  | cons {h : Nat} {t : Tr.T (h + 1)} {i : Nat} {l : List (AT × Nat)} (hs : StkOk a0 l (h + 1)) (hi : InT a0 ⟨h + 1, t⟩) : StkOk a0 ((⟨h + 1, t⟩, i) :: l) h
theorem StkOk.len {a0 : AT} {l : List (AT × Nat)} {h : Nat} (s : StkOk a0 l h) : l.length + h = a0.h := by
  induction s with
  | nil => exact Nat.zero_add _
  | cons hs hi ih => rw [List.length_cons]; omega
/-- The leaves from a key on. -/
def LF : (h : Nat) → Tr.T h → KeyD → List (Tr.T 0) → Prop
  | 0, t, _, ys => ys = [t]
  | h + 1, t, k, ys => ∃ q c zs, PosK ((t.2.map (ents h)).map fstK) k q ∧ t.2[kidIx ((t.2.map (ents h)).map fstK) k q]? = some c ∧ LF h c k zs ∧ ys = zs ++ ((t.2.drop (kidIx ((t.2.map (ents h)).map fstK) k q + 1)).map (lvs h)).flatten
theorem lf_ex : ∀ (h : Nat) (t : Tr.T h) (k : KeyD), Tr.Ok h t → AscK (keysOf (ents h t)) → ∃ ys A, LF h t k ys ∧ ents h t = A ++ rows ys ∧ ∀ a ∈ keysOf A, klt a k
  | 0, t, k, ok, ha => ⟨[t], [], rfl, (lvs_rows 0 t).symm, fun a h => by cases h⟩
  | h + 1, t, k, ok, ha => by
    have ha' : AscK (keysOf (t.2.map (ents h)).flatten) := ha
    have hks : AscK ((t.2.map (ents h)).map fstK) := by
      have := asc_node (h + 1) t ok ha
      rwa [keys_inner ok] at this
    obtain ⟨q, hq⟩ := pos_ex _ k hks
    have h0 : 0 < (t.2.map (ents h)).length := by rw [List.length_map]; exact ok.2.1
    have hne : ∀ B ∈ t.2.map (ents h), 0 < B.length := fun B hB => by
      obtain ⟨c, hc, rfl⟩ := List.mem_map.1 hB
      exact (first_key h c (ok.2.2 c hc)).1
    have hk := kid_at hne h0 ha' hq
    obtain ⟨i, hi⟩ : ∃ i, i = kidIx ((t.2.map (ents h)).map fstK) k q := ⟨_, rfl⟩
    have hk' : KidAt (t.2.map (ents h)) k i := by rw [hi]; exact hk
    have hil : i < t.2.length := by have := hk'.lt; rwa [List.length_map] at this
    obtain ⟨c, hc⟩ : ∃ c, t.2[i]? = some c := ⟨t.2[i], List.getElem?_eq_getElem hil⟩
    have hB : (t.2.map (ents h))[i]? = some (ents h c) := by rw [List.getElem?_map, hc]; rfl
    have hcm := List.mem_of_getElem? hc
    obtain ⟨zs, A, h1, h2, h3⟩ := lf_ex h c k (ok.2.2 c hcm) (part_asc ha' hB)
    refine ⟨zs ++ ((t.2.drop (i + 1)).map (lvs h)).flatten, ((t.2.map (ents h)).take i).flatten ++ A, ⟨q, c, zs, hq, by rw [← hi]; exact hc, h1, by rw [← hi]⟩, ?_, ?_⟩
    · show (t.2.map (ents h)).flatten = _
      rw [flat_split _ hB, h2, rows_append, rows_flat _ fun k hk => lvs_rows h k, List.map_drop]
      simp only [List.append_assoc]
    · intro a haA
      rw [keys_append] at haA
      rcases List.mem_append.1 haA with h4 | h4
      · exact (kid_keys hk').1 a h4
      · exact h3 a h4
theorem klt_zero {x : KeyD} (h : x.Bd) : ¬ klt x ⟨0, 0, 0⟩ := by
  have h1 := h.v; have h2 := h.b; have h3 := h.s
  unfold klt
  dsimp only
  omega
/-- From the least key on: all leaves. -/
theorem lf_zero : ∀ (h : Nat) (t : Tr.T h), Tr.Ok h t → KsAsc h t → (∀ e ∈ ents h t, e.k.Bd) → LF h t ⟨0, 0, 0⟩ (lvs h t)
  | 0, t, ok, ha, hb => rfl
  | h + 1, t, ok, ha, hb => by
    have hks : AscK ((t.2.map (ents h)).map fstK) := by
      have := ha.1
      rwa [keys_inner ok] at this
    obtain ⟨q, hq⟩ := pos_ex _ ⟨0, 0, 0⟩ hks
    have h0 : 0 < t.2.length := ok.2.1
    obtain ⟨c, hc⟩ : ∃ c, t.2[0]? = some c := ⟨t.2[0], List.getElem?_eq_getElem h0⟩
    have hcm := List.mem_of_getElem? hc
    have hq0 : q = 0 := by
      rcases Nat.eq_zero_or_pos q with h1 | h1
      · exact h1
      · exfalso
        have hf := first_key h c (ok.2.2 c hcm)
        obtain ⟨e, r, he, hk⟩ := fstK_at hf.1
        have h2 : ((t.2.map (ents h)).map fstK)[0]? = some e.k := by rw [List.getElem?_map, List.getElem?_map, hc]; show some (fstK (ents h c)) = _; rw [hk]
        refine klt_zero (x := e.k) (hb e ?_) (by have := hq.lo 0 h1; rwa [getD_at h2] at this)
        show e ∈ (t.2.map (ents h)).flatten
        exact List.mem_flatten.2 ⟨ents h c, List.mem_map.2 ⟨c, hcm, rfl⟩, by rw [he]; exact .head _⟩
    subst hq0
    have hi : kidIx ((t.2.map (ents h)).map fstK) ⟨0, 0, 0⟩ 0 = 0 := by
      unfold kidIx
      split <;> rfl
    refine ⟨0, c, lvs h c, hq, by rw [hi]; exact hc, lf_zero h c (ok.2.2 c hcm) (ha.2 c hcm) (fun e he => hb e ?_), ?_⟩
    · show e ∈ (t.2.map (ents h)).flatten
      exact List.mem_flatten.2 ⟨ents h c, List.mem_map.2 ⟨c, hcm, rfl⟩, he⟩
    · rw [hi]
      have := rest_next (t := t) (i := 0) [] hc
      rw [rest_cons, rest_cons] at this
      simpa [rest, lvs] using this
theorem lvs_in {a0 : AT} : ∀ {h : Nat} {t : Tr.T h}, InT a0 ⟨h, t⟩ → ∀ y ∈ lvs h t, InT a0 ⟨0, y⟩
  | 0, t, i, y, hy => by
    have hy' : y ∈ [t] := hy
    obtain rfl := List.mem_singleton.1 hy'
    exact i
  | h + 1, t, i, y, hy => by
    obtain ⟨l, hl, hyl⟩ := List.mem_flatten.1 (show y ∈ (t.2.map (lvs h)).flatten from hy)
    obtain ⟨c, hc, rfl⟩ := List.mem_map.1 hl
    exact lvs_in (i.kid hc) y hyl
theorem lf_mem : ∀ (h : Nat) (t : Tr.T h) (k : KeyD) (ys : List (Tr.T 0)), LF h t k ys → ∀ y ∈ ys, y ∈ lvs h t
  | 0, t, k, ys, hl, y, hy => by
    have hl' : ys = [t] := hl
    rw [hl'] at hy
    exact hy
  | h + 1, t, k, ys, ⟨q, c, zs, _, hc, hz, hys⟩, y, hy => by
    rw [hys] at hy
    show y ∈ (t.2.map (lvs h)).flatten
    rcases List.mem_append.1 hy with h1 | h1
    · exact List.mem_flatten.2 ⟨lvs h c, List.mem_map.2 ⟨c, List.mem_of_getElem? hc, rfl⟩, lf_mem h c k zs hz y h1⟩
    · obtain ⟨l, hl, hyl⟩ := List.mem_flatten.1 h1
      obtain ⟨c', hc', rfl⟩ := List.mem_map.1 hl
      exact List.mem_flatten.2 ⟨_, List.mem_map.2 ⟨c', List.mem_of_mem_drop hc', rfl⟩, hyl⟩
/-! ### the entries from a key on, up to another one -/
noncomputable def inW (f t : KeyD) (e : EntD) : Bool := !tB (klt e.k f) && !tB (klt t e.k)
noncomputable def win (f t : KeyD) (l : List EntD) : List EntD := l.filter (inW f t)
theorem win_app (f t : KeyD) (l m : List EntD) : win f t (l ++ m) = win f t l ++ win f t m := List.filter_append ..
/-- Once there is a key above, all that follow are. -/
def UpTo (t : KeyD) (Z : List EntD) : Prop := ∀ P e S, Z = P ++ e :: S → klt t e.k → ∀ x ∈ S, klt t x.k
theorem win_one {f t : KeyD} {e : EntD} (h1 : ¬ klt e.k f) (h2 : ¬ klt t e.k) : win f t [e] = [e] := by
  unfold win inW
  rw [List.filter_cons, if_pos (by rw [tB_false h1, tB_false h2]; rfl)]
  rfl
theorem win_none {f t : KeyD} {e : EntD} (h : klt e.k f ∨ klt t e.k) : win f t [e] = [] := by
  unfold win inW
  rw [List.filter_cons, if_neg]
  · rfl
  · rcases h with h | h
    · rw [tB_true h]; simp
    · rw [tB_true h]; simp
theorem win_next {f t : KeyD} {Z P S : List EntD} {e : EntD} (hZ : Z = P ++ e :: S) (h1 : ¬ klt e.k f) (h2 : ¬ klt t e.k) : (win f t Z)[(win f t P).length]? = some e := by
  rw [hZ, show P ++ e :: S = P ++ ([e] ++ S) from rfl, win_app, win_app, win_one h1 h2, List.getElem?_append_right (Nat.le_refl _), Nat.sub_self]
  rfl
theorem win_stop {f t : KeyD} {Z P S : List EntD} {e : EntD} (hZ : Z = P ++ e :: S) (hu : UpTo t Z) (h2 : klt t e.k) : win f t Z = win f t P := by
  have h3 := hu P e S hZ h2
  rw [hZ, win_app]
  have : win f t (e :: S) = [] := by
    unfold win
    rw [List.filter_eq_nil_iff]
    intro x hx
    have hk : klt t x.k := by
      rcases List.mem_cons.1 hx with rfl | hx
      · exact h2
      · exact h3 x hx
    unfold inW
    rw [tB_true hk]
    simp
  rw [this, List.append_nil]
theorem upTo_asc {t : KeyD} {Z : List EntD} (ha : AscK (keysOf Z)) : UpTo t Z := by
  intro P e S hZ h1 x hx
  obtain ⟨j, hj⟩ := List.getElem?_of_mem hx
  have e1 : (keysOf Z)[P.length]? = some e.k := by
    show (Z.map EntD.k)[P.length]? = _
    rw [List.getElem?_map, hZ, List.getElem?_append_right (Nat.le_refl _), Nat.sub_self]
    rfl
  have e2 : (keysOf Z)[P.length + 1 + j]? = some x.k := by
    show (Z.map EntD.k)[P.length + 1 + j]? = _
    rw [List.getElem?_map, hZ, List.getElem?_append_right (by omega), show P.length + 1 + j - P.length = j + 1 by omega, List.getElem?_cons_succ, hj]
    rfl
  have e3 := ha P.length (P.length + 1 + j) (by omega) (List.getElem?_eq_some_iff.1 e2).1
  rw [getD_at e1, getD_at e2] at e3
  exact klt_trans h1 e3
theorem upTo_max {t : KeyD} {Z : List EntD} (h : ∀ e ∈ Z, ¬ klt t e.k) : UpTo t Z := fun P e S hZ h1 => absurd h1 (h e (by rw [hZ]; simp))
theorem rows_take {ys : List (Tr.T 0)} {q : Nat} {x : Tr.T 0} (hx : ys[q]? = some x) : rows (ys.take (q + 1)) = rows (ys.take q) ++ x.2 := by
  obtain ⟨h1, h2⟩ := List.getElem?_eq_some_iff.1 hx
  rw [List.take_succ_eq_append_getElem h1, h2, rows_append]
  show _ ++ [Tr.row x].flatten = _
  rw [List.flatten_cons, List.flatten_nil, List.append_nil]
  rfl
theorem rows_at {ys : List (Tr.T 0)} {q j : Nat} {x : Tr.T 0} {e : EntD} (hx : ys[q]? = some x) (he : x.2[j]? = some e) : ∃ S, rows ys = (rows (ys.take q) ++ x.2.take j) ++ e :: S := by
  obtain ⟨h1, h2⟩ := List.getElem?_eq_some_iff.1 he
  refine ⟨x.2.drop (j + 1) ++ rows (ys.drop (q + 1)), ?_⟩
  conv => lhs; rw [← List.take_append_drop (q + 1) ys, rows_append, rows_take hx]
  conv => lhs; rw [← List.take_append_drop j x.2, List.drop_eq_getElem_cons h1, h2]
  simp only [List.append_assoc, List.cons_append]
/-- A tree with a root or none, its leaves from a key on. -/
def LvO (a : Option AT) (k : KeyD) (ys : List (Tr.T 0)) : Prop :=
  match a with
  | none => ys = []
  | some a => InT a a ∧ a.h ≤ 12 ∧ LF a.h a.t k ys
theorem LvO.at {a : Option AT} {k : KeyD} {ys : List (Tr.T 0)} (h : LvO a k ys) {y : Tr.T 0} (hy : y ∈ ys) : ∃ b, a = some b ∧ InT b ⟨0, y⟩ := by
  cases a with
  | none =>
    obtain rfl : ys = [] := h
    cases hy
  | some b => exact ⟨b, rfl, lvs_in h.1 y (lf_mem _ _ _ _ h.2.2 y hy)⟩
theorem in_root {a : AT} {L : List EntD} (h : HasO (some a) L) : InT a a := ⟨Has.ok h, Has.size h, ks_asc _ _ (Has.ok h) (by rw [Has.row h]; exact Has.asc h), st_der a⟩
theorem lv_ex {a : Option AT} {L : List EntD} (k : KeyD) (h : HasO a L) (h9 : L.length ≤ 160) : ∃ ys A, LvO a k ys ∧ L = A ++ rows ys ∧ ∀ x ∈ keysOf A, klt x k := by
  cases a with
  | none =>
    obtain rfl : L = [] := h
    exact ⟨[], [], rfl, rfl, fun x hx => by cases hx⟩
  | some a =>
    have hh : Has a.h a.t L := h
    obtain ⟨ys, A, h1, h2, h3⟩ := lf_ex a.h a.t k hh.ok (by rw [hh.row]; exact hh.asc)
    exact ⟨ys, A, ⟨in_root h, Nat.le_trans (hh.low h9) (by omega), h1⟩, by rw [← hh.row]; exact h2, h3⟩
/-- A leaf, or none. -/
def pO : Option (Tr.T 0) → Value
  | some t => .pointer (some ⟨(Tr.nd 0 t).g, 0, none⟩)
  | none => .pointer none
/-- Where a walk is: at a leaf, or at the end. -/
structure At (a0 : AT) (ys : List (Tr.T 0)) (cur : Option (Tr.T 0)) (l : List (AT × Nat)) (k : Nat) : Prop where
  le : k ≤ ys.length
  dr : ys.drop k = cur.toList ++ rest l
  st : ∀ t, cur = some t → StkOk a0 l 0 ∧ InT a0 ⟨0, t⟩
  no : cur = none → l = []
theorem At.next {a0 : AT} {ys : List (Tr.T 0)} {t : Tr.T 0} {l : List (AT × Nat)} {k : Nat} (h : At a0 ys (some t) l k) : ys[k]? = some t ∧ k + 1 ≤ ys.length ∧ ys.drop (k + 1) = rest l := by
  have h1 := h.dr
  have h2 : k < ys.length := by
    rcases Nat.lt_or_ge k ys.length with h3 | h3
    · exact h3
    · rw [List.drop_of_length_le h3] at h1; cases h1
  rw [List.drop_eq_getElem_cons h2] at h1
  have h3 : ys[k] :: ys.drop (k + 1) = t :: rest l := h1
  injection h3 with h4 h5
  exact ⟨by rw [List.getElem?_eq_getElem h2, h4], h2, h5⟩
theorem At.done {a0 : AT} {ys : List (Tr.T 0)} {l : List (AT × Nat)} {k : Nat} (h : At a0 ys none l k) : k = ys.length := by
  have h1 := h.dr
  rw [h.no rfl] at h1
  have h2 : ys.drop k = [] := h1
  have := h.le
  have := List.drop_eq_nil_iff.1 h2
  omega
end Go.Proofs.Ytahfjkibononfaa.Wk

