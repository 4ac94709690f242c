/- Rows of entries in order, cut into parts: where a key belongs, one more, one less (plain; no program). Trees of nodes by height, as data: entries, first keys, sizes; what Set makes of one (plain; no program). Trees as data: what Delete makes of one (plain; no program). Trees as data: the way down to a leaf; the entry at or ahead of a key, at or behind it (plain; no program). -/
import Derived.Test.YtaghmffgoomebaaGreatNdO
import Derived.Test.YtaghmffgoomebaaGreatNdS
set_option linter.unusedVariables false
set_option linter.unusedSimpArgs false
namespace Go.Proofs.YtaghmffgoomebaaGreat.Tr
open Nd Gx
abbrev keysOf (L : List EntD) : List KeyD := L.map (·.k)
theorem zaw (L M : List EntD) : keysOf (L ++ M) = keysOf L ++ keysOf M := List.map_append
theorem zgG {L : List KeyD} : AscK L ↔ L.Pairwise klt := by
 rw [List.pairwise_iff_getElem]
 constructor
 ·intro h i j hi hj hij
  have := h i j hij hj
  rwa [getD_at (List.getElem?_eq_getElem hi), getD_at (List.getElem?_eq_getElem hj)] at this
 ·intro h i j hij hj
  have hi : i < L.length := by omega
  rw [getD_at (List.getElem?_eq_getElem hi), getD_at (List.getElem?_eq_getElem hj)]
  exact h i j hi hj hij
theorem zbi {A B : List KeyD} : AscK (A ++ B) ↔ AscK A ∧ AscK B ∧ ∀ a ∈ A, ∀ b ∈ B, klt a b := by
 rw [zgG, zgG, zgG, List.pairwise_append]
theorem zkY {A B C : List KeyD} {t : KeyD} {p : Nat} (hA : ∀ a ∈ A, klt a t) (hC : ∀ c ∈ C, klt t c) (hp : PosK B t p) : PosK (A ++ B ++ C) t (A.length + p) := by
 have hpl := hp.le
 have hmem : ∀ {l : List KeyD} {m : Nat}, m < l.length → l.getD m default ∈ l := fun {l m} h => by
  rw [getD_at (List.getElem?_eq_getElem h)]; exact List.getElem_mem h
 have hget : ∀ m, m < A.length + B.length → (A ++ B ++ C).getD m default = if m < A.length then A.getD m default else B.getD (m - A.length) default := by
  intro m hm
  rw [List.getD_eq_getElem?_getD, List.getElem?_append_left (by rw [List.length_append]; exact hm)]
  split
  ·rename_i h; rw [List.getElem?_append_left h, List.getD_eq_getElem?_getD]
  ·rename_i h; rw [List.getElem?_append_right (by omega), List.getD_eq_getElem?_getD]
 refine ⟨by simp only [List.length_append]; omega, fun m hm => ?_, fun m h1 h2 => ?_⟩
 ·rw [hget m (by omega)]
  split
  ·rename_i h; exact hA _ (hmem h)
  ·rename_i h; exact hp.lo _ (by omega)
 ·by_cases h3 : m < A.length + B.length
  ·rw [hget m h3, if_neg (by omega)]
   exact hp.hi _ (by omega) (by omega)
  ·rw [List.getD_eq_getElem?_getD, List.getElem?_append_right (by rw [List.length_append]; omega), List.length_append]
   simp only [List.length_append] at h2
   have hlt : m - (A.length + B.length) < C.length := by omega
   rw [List.getElem?_eq_getElem hlt]
   exact zgf (hC _ (List.getElem_mem hlt))
theorem zdL {A B C : List KeyD} {t : KeyD} {p : Nat} (hC : ∀ c ∈ C, klt t c) (hpl : p ≤ B.length) : (A ++ B ++ C)[A.length + p]? = some t ↔ B[p]? = some t := by
 rw [List.append_assoc, List.getElem?_append_right (by omega), Nat.add_sub_cancel_left]
 by_cases h : p < B.length
 ·rw [List.getElem?_append_left h]
 ·have : p = B.length := by omega
  subst this
  rw [List.getElem?_append_right (Nat.le_refl _), Nat.sub_self, List.getElem?_eq_none (Nat.le_refl B.length)]
  constructor
  ·intro h1
   have h2 := hC t (List.mem_of_getElem? h1)
   exact absurd h2 zge
  ·intro h1; cases h1
noncomputable def setAt (L : List EntD) (e : EntD) (p : Nat) : List EntD := if tB ((keysOf L)[p]? = some e.k) = true then L.set p e else L.take p ++ [e] ++ L.drop p
noncomputable def delAt (L : List EntD) (t : KeyD) (p : Nat) : List EntD := if tB ((keysOf L)[p]? = some t) = true then L.take p ++ L.drop (p + 1) else L
theorem set_mid {A B C : List EntD} {e : EntD} {p : Nat} (hC : ∀ c ∈ keysOf C, klt e.k c) (hpl : p ≤ B.length) : setAt (A ++ B ++ C) e (A.length + p) = A ++ setAt B e p ++ C := by
 have hf := zdL (A := keysOf A) (B := keysOf B) (p := p) hC (by rw [List.length_map]; exact hpl)
 rw [← zaw, ← zaw, List.length_map] at hf
 unfold setAt
 rw [Gx.zbU hf]
 split
 ·rename_i h
  have hlt : p < B.length := by
   have := (List.getElem?_eq_some_iff.1 (Gx.zaQ.1 h)).1
   rwa [List.length_map] at this
  rw [List.append_assoc, List.set_append_right _ _ (by omega), Nat.add_sub_cancel_left, List.set_append_left _ _ hlt, List.append_assoc]
 ·have h1 : (A ++ B ++ C).take (A.length + p) = A ++ B.take p := by
   rw [List.append_assoc, List.take_length_add_append, List.take_append_of_le_length hpl]
  have h2 : (A ++ B ++ C).drop (A.length + p) = B.drop p ++ C := by
   rw [List.append_assoc, List.drop_length_add_append, List.drop_append_of_le_length hpl]
  rw [h1, h2]
  simp only [List.append_assoc]
theorem zp0 {A B C : List EntD} {t : KeyD} {p : Nat} (hC : ∀ c ∈ keysOf C, klt t c) (hpl : p ≤ B.length) : delAt (A ++ B ++ C) t (A.length + p) = A ++ delAt B t p ++ C := by
 have hf := zdL (A := keysOf A) (B := keysOf B) (p := p) hC (by rw [List.length_map]; exact hpl)
 rw [← zaw, ← zaw, List.length_map] at hf
 unfold delAt
 rw [Gx.zbU hf]
 split
 ·rename_i h
  have hlt : p < B.length := by
   have := (List.getElem?_eq_some_iff.1 (Gx.zaQ.1 h)).1
   rwa [List.length_map] at this
  have h1 : (A ++ B ++ C).take (A.length + p) = A ++ B.take p := by
   rw [List.append_assoc, List.take_length_add_append, List.take_append_of_le_length hpl]
  have h2 : (A ++ B ++ C).drop (A.length + p + 1) = B.drop (p + 1) ++ C := by
   rw [List.append_assoc, Nat.add_assoc, List.drop_length_add_append, List.drop_append_of_le_length (by omega)]
  rw [h1, h2]
  simp only [List.append_assoc]
 ·rfl
structure KidAt (Bs : List (List EntD)) (t : KeyD) (i : Nat) : Prop where
 lt : i < Bs.length
 lo : ∀ B ∈ Bs.take i, ∀ x ∈ B, klt x.k t
 hi : ∀ B ∈ Bs.drop (i + 1), ∀ x ∈ B, klt t x.k
def fstK (B : List EntD) : KeyD := (B.map (·.k)).getD 0 default
theorem zbm {B : List EntD} (h : 0 < B.length) : ∃ x r, B = x :: r ∧ fstK B = x.k := by
 cases B with
 | nil => simp at h
 | cons x r => exact ⟨x, r, rfl, rfl⟩
theorem zbh {α : Type} (Bs : List (List α)) {i : Nat} {B : List α} (h : Bs[i]? = some B) : Bs.flatten = (Bs.take i).flatten ++ B ++ (Bs.drop (i + 1)).flatten := by
 have hi := (List.getElem?_eq_some_iff.1 h).1
 have e : Bs = Bs.take i ++ (B :: Bs.drop (i + 1)) := by
  rw [List.getElem?_eq_getElem hi] at h
  injection h with h
  rw [← h, ← List.drop_eq_getElem_cons hi, List.take_append_drop]
 rw [show Bs.flatten = (Bs.take i ++ (B :: Bs.drop (i + 1))).flatten by rw [← e]]
 rw [List.flatten_append, List.flatten_cons, List.append_assoc]
theorem zdw {Bs : List (List EntD)} (ha : AscK (keysOf Bs.flatten)) {i j : Nat} {B C : List EntD} (hij : i < j) (hB : Bs[i]? = some B) (hC : Bs[j]? = some C) : ∀ b ∈ B, ∀ c ∈ C, klt b.k c.k := by
 intro b hb c hc
 have h1 := zbh Bs hB
 rw [h1, zaw, zbi] at ha
 have hCm : C ∈ Bs.drop (i + 1) := by
  refine List.mem_of_getElem? (i := j - (i + 1)) ?_
  rw [List.getElem?_drop, show i + 1 + (j - (i + 1)) = j by omega]
  exact hC
 refine ha.2.2 b.k ?_ c.k ?_
 ·rw [zaw]
  exact List.mem_append_right _ (List.mem_map_of_mem hb)
 ·exact List.mem_map_of_mem (List.mem_flatten_of_mem hCm hc)
theorem zcY {Bs : List (List EntD)} (ha : AscK (keysOf Bs.flatten)) {i : Nat} {B : List EntD} (hB : Bs[i]? = some B) : AscK (keysOf B) := by
 rw [zbh Bs hB, zaw, zbi, zaw, zbi] at ha
 exact ha.1.2.1
theorem zlA {Bs : List (List EntD)} {t : KeyD} {q : Nat} (hne : ∀ B ∈ Bs, 0 < B.length) (h0 : 0 < Bs.length) (ha : AscK (keysOf Bs.flatten)) (hq : PosK (Bs.map fstK) t q) : KidAt Bs t (if tB ((Bs.map fstK)[q]? = some t) = true then q else q - 1) := by
 have hql := hq.le
 rw [List.length_map] at hql
 obtain ⟨i, hi⟩ : ∃ i, i = if tB ((Bs.map fstK)[q]? = some t) = true then q else q - 1 := ⟨_, rfl⟩
 rw [← hi]
 have hfk : ∀ {m : Nat} {B : List EntD}, Bs[m]? = some B → (Bs.map fstK).getD m default = fstK B := fun {m B} h => getD_at (by rw [List.getElem?_map, h]; rfl)
 have hlt : i < Bs.length := by
  rw [hi]
  split
  ·rename_i h
   have := (List.getElem?_eq_some_iff.1 (Gx.zaQ.1 h)).1
   rwa [List.length_map] at this
  ·omega
 have hqi : q ≤ i + 1 := by rw [hi]; split <;> omega
 obtain ⟨Bi, hBi⟩ : ∃ B, Bs[i]? = some B := ⟨Bs[i], List.getElem?_eq_getElem hlt⟩
 have hle : 0 < i → ¬ klt t (fstK Bi) := by
  intro h1 h2
  rw [← hfk hBi] at h2
  by_cases hf : tB ((Bs.map fstK)[q]? = some t) = true
  ·rw [if_pos hf] at hi
   subst hi
   rw [getD_at (Gx.zaQ.1 hf)] at h2
   exact zge h2
  ·rw [if_neg hf] at hi
   exact zgf (hq.lo i (by omega)) h2
 refine ⟨hlt, fun B hB x hx => ?_, fun B hB x hx => ?_⟩
 ·obtain ⟨m, hm⟩ := List.getElem?_of_mem hB
  have hml := (List.getElem?_eq_some_iff.1 hm).1
  rw [List.length_take] at hml
  rw [List.getElem?_take, if_pos (by omega)] at hm
  obtain ⟨y, r, e1, e2⟩ := zbm (hne Bi (List.mem_of_getElem? hBi))
  have h1 := zdw ha (show m < i by omega) hm hBi x hx y (by rw [e1]; exact .head _)
  have h2 := hle (by omega)
  rw [e2] at h2
  by_cases h3 : klt y.k t
  ·exact zbr h1 h3
  ·rw [← key_eq h3 h2]; exact h1
 ·obtain ⟨m, hm⟩ := List.getElem?_of_mem hB
  rw [List.getElem?_drop] at hm
  have hml := (List.getElem?_eq_some_iff.1 hm).1
  obtain ⟨y, r, e1, e2⟩ := zbm (hne B (List.mem_of_mem_drop hB))
  have h1 := hq.hi (i + 1 + m) (by omega) (by rw [List.length_map]; exact hml)
  rw [hfk hm, e2] at h1
  have hty : klt t y.k := by
   by_cases h3 : klt t y.k
   ·exact h3
   ·exfalso
    have h4 := key_eq h1 h3
    by_cases hf : tB ((Bs.map fstK)[q]? = some t) = true
    ·rw [if_pos hf] at hi
     subst hi
     have h5 : fstK Bi = t := by rw [← hfk hBi]; exact getD_at (Gx.zaQ.1 hf)
     obtain ⟨y', r', e3, e4⟩ := zbm (hne Bi (List.mem_of_getElem? hBi))
     have h6 := zdw ha (show i < i + 1 + m by omega) hBi hm y' (by rw [e3]; exact .head _) y (by rw [e1]; exact .head _)
     rw [← e4, h5, h4] at h6
     exact zge h6
    ·rw [if_neg hf] at hi
     rcases Nat.eq_zero_or_pos q with h0q | h0q
     ·subst h0q
      have hB0 : Bs[0]? = some Bi := by rw [hi] at hBi; exact hBi
      have h5 := hq.hi 0 (Nat.le_refl _) (by rw [List.length_map]; exact h0)
      rw [hfk hB0] at h5
      obtain ⟨y', r', e3, e4⟩ := zbm (hne Bi (List.mem_of_getElem? hBi))
      have h6 := zdw ha (show i < i + 1 + m by omega) hBi hm y' (by rw [e3]; exact .head _) y (by rw [e1]; exact .head _)
      rw [e4] at h5
      rw [h4] at h6
      exact h5 h6
     ·have hqq : i + 1 = q := by omega
      rcases Nat.eq_zero_or_pos m with hm0 | hm0
      ·subst hm0
       apply hf
       apply Gx.zan
       rw [← hqq, List.getElem?_map]
       rw [Nat.add_zero] at hm
       rw [hm, Option.map_some, e2, h4]
      ·obtain ⟨Bq, hBq⟩ : ∃ B, Bs[q]? = some B := ⟨Bs[q]'(by omega), List.getElem?_eq_getElem (by omega)⟩
       have h5 := hq.hi q (Nat.le_refl _) (by rw [List.length_map]; omega)
       rw [hfk hBq] at h5
       obtain ⟨y', r', e3, e4⟩ := zbm (hne Bq (List.mem_of_getElem? hBq))
       have h6 := zdw ha (show q < i + 1 + m by omega) hBq hm y' (by rw [e3]; exact .head _) y (by rw [e1]; exact .head _)
       rw [e4] at h5
       rw [h4] at h6
       exact h5 h6
  rw [e1] at hx
  rcases List.mem_cons.1 hx with rfl | hx
  ·exact hty
  ·have h7 := zcY ha hm
   rw [e1, show keysOf (y :: r) = [y.k] ++ keysOf r from rfl, zbi] at h7
   exact zbr hty (h7.2.2 y.k (.head _) x.k (List.mem_map_of_mem hx))
theorem zdB {Bs : List (List EntD)} {t : KeyD} {i : Nat} (hk : KidAt Bs t i) : (∀ a ∈ keysOf (Bs.take i).flatten, klt a t) ∧ ∀ c ∈ keysOf (Bs.drop (i + 1)).flatten, klt t c := by
 constructor
 ·intro a ha
  obtain ⟨x, hx, rfl⟩ := List.mem_map.1 ha
  obtain ⟨B, hB, hx⟩ := List.mem_flatten.1 hx
  exact hk.lo B hB x hx
 ·intro c hc
  obtain ⟨x, hx, rfl⟩ := List.mem_map.1 hc
  obtain ⟨B, hB, hx⟩ := List.mem_flatten.1 hx
  exact hk.hi B hB x hx
theorem ziQ {Bs : List (List EntD)} {t : KeyD} {i p : Nat} {B : List EntD} (hk : KidAt Bs t i) (hB : Bs[i]? = some B) (hp : PosK (keysOf B) t p) : PosK (keysOf Bs.flatten) t ((Bs.take i).flatten.length + p) := by
 obtain ⟨h1, h2⟩ := zdB hk
 have := zkY h1 h2 hp
 rw [zbh Bs hB, zaw, zaw]
 rwa [List.length_map] at this
theorem zne {Bs : List (List EntD)} {e : EntD} {i p : Nat} {B : List EntD} (hk : KidAt Bs e.k i) (hB : Bs[i]? = some B) (hp : PosK (keysOf B) e.k p) : setAt Bs.flatten e ((Bs.take i).flatten.length + p) = (Bs.take i).flatten ++ setAt B e p ++ (Bs.drop (i + 1)).flatten := by
 rw [zbh Bs hB]
 exact set_mid (zdB hk).2 (by have := hp.le; rwa [List.length_map] at this)
theorem zob {Bs : List (List EntD)} {t : KeyD} {i p : Nat} {B : List EntD} (hk : KidAt Bs t i) (hB : Bs[i]? = some B) (hp : PosK (keysOf B) t p) : delAt Bs.flatten t ((Bs.take i).flatten.length + p) = (Bs.take i).flatten ++ delAt B t p ++ (Bs.drop (i + 1)).flatten := by
 rw [zbh Bs hB]
 exact zp0 (zdB hk).2 (by have := hp.le; rwa [List.length_map] at this)
end Go.Proofs.YtaghmffgoomebaaGreat.Tr
namespace Go.Proofs.YtaghmffgoomebaaGreat.Tr
open Nd Gx
def T : Nat → Type
 | 0 => NodeD × List EntD
 | h + 1 => NodeD × List (T h)
def nd : (h : Nat) → T h → NodeD
 | 0, t => t.1
 | _ + 1, t => t.1
def ents : (h : Nat) → T h → List EntD
 | 0, t => t.2
 | h + 1, t => (t.2.map (ents h)).flatten
def kids {h : Nat} (t : T (h + 1)) : List (T h) := t.2
def row (t : T 0) : List EntD := t.2
def Ok : (h : Nat) → T h → Prop
 | 0, t => IsLeafW t.2 t.1 ∧ 0 < t.2.length
 | h + 1, t => IsInnerW (t.2.map (nd h)) t.1 ∧ 0 < t.2.length ∧ ∀ k ∈ t.2, Ok h k
def Good : (h : Nat) → T h → Prop
 | 0, t => 3 ≤ t.2.length ∧ t.2.length ≤ 6
 | h + 1, t => 3 ≤ t.2.length ∧ t.2.length ≤ 6 ∧ ∀ k ∈ t.2, Good h k
def Near : (h : Nat) → T h → Prop
 | 0, t => 2 ≤ t.2.length ∧ t.2.length ≤ 6
 | h + 1, t => 2 ≤ t.2.length ∧ t.2.length ≤ 6 ∧ ∀ k ∈ t.2, Good h k
def Root : (h : Nat) → T h → Prop
 | 0, t => 1 ≤ t.2.length ∧ t.2.length ≤ 6
 | h + 1, t => 2 ≤ t.2.length ∧ t.2.length ≤ 6 ∧ ∀ k ∈ t.2, Good h k
theorem Good.near {h : Nat} {t : T h} (g : Good h t) : Near h t := by
 cases h with
 | zero => exact ⟨by have := g.1; omega, g.2⟩
 | succ h => exact ⟨by have := g.1; omega, g.2⟩
theorem Near.root {h : Nat} {t : T h} (g : Near h t) : Root h t := by
 cases h with
 | zero => exact ⟨by have := g.1; omega, g.2⟩
 | succ h => exact g
theorem zaM : ∀ (h : Nat) (t : T h), Ok h t → 0 < (ents h t).length ∧ (nd h t).Ks.getD 0 default = fstK (ents h t)
 | 0, t, ⟨h1, h2⟩ => ⟨h2, by show t.1.Ks.getD 0 default = _; rw [h1.Ks]; rfl⟩
 | h + 1, (d, ks), ⟨h1, h2, h3⟩ => by
   have h2' : 0 < ks.length := h2
   obtain ⟨k, r, rfl⟩ : ∃ k r, ks = k :: r := by
    cases ks with
    | nil => simp at h2'
    | cons k r => exact ⟨k, r, rfl⟩
   obtain ⟨h4, h5⟩ := zaM h k (h3 k (.head _))
   have e1 : ents (h + 1) (d, k :: r) = ents h k ++ (r.map (ents h)).flatten := rfl
   obtain ⟨y, s, e2, e3⟩ := zbm h4
   refine ⟨by rw [e1, List.length_append]; omega, ?_⟩
   have e4 : d.Ks = ((k :: r).map (nd h)).map (fun x => x.Ks.getD 0 default) := h1.Ks
   show d.Ks.getD 0 default = _
   rw [e4, e1, e2]
   show (nd h k).Ks.getD 0 default = y.k
   rw [h5, e3]
theorem keys_inner {h : Nat} {t : T (h + 1)} (ok : Ok (h + 1) t) : (nd (h + 1) t).Ks = ((kids t).map (ents h)).map fstK := by
 obtain ⟨h1, h2, h3⟩ := ok
 show t.1.Ks = _
 rw [h1.Ks, List.map_map, List.map_map]
 exact List.map_congr_left fun k hk => (zaM h k (h3 k hk)).2
theorem zdz {h : Nat} {t : T (h + 1)} (ok : Ok (h + 1) t) : (nd (h + 1) t).Ks.length = (kids t).length := by rw [keys_inner ok, List.length_map, List.length_map]
theorem zjz {α : Type} (L : List α) : (cutN L).flatten = L := by
 unfold cutN
 split
 ·rename_i h; rw [List.length_eq_zero_iff] at h; rw [h]; rfl
 ·split
  ·simp
  ·simp
theorem zp3 {α : Type} {L M : List α} (h : M ∈ cutN L) : 0 < M.length ∧ ∀ x ∈ M, x ∈ L := by
 unfold cutN at h
 split at h
 ·cases h
 ·split at h
  ·obtain rfl := m1 h
   exact ⟨by omega, fun x hx => hx⟩
  ·rcases List.mem_cons.1 h with rfl | h
   ·exact ⟨by rw [List.length_take]; omega, fun x hx => List.mem_of_mem_take hx⟩
   ·obtain rfl := m1 h
    exact ⟨by rw [List.length_drop]; omega, fun x hx => List.mem_of_mem_drop hx⟩
theorem zcC {α : Type} {L : List α} (h : 0 < L.length) (h12 : L.length ≤ 12) : ((cutN L) = [L] ∧ L.length ≤ 6) ∨ ((cutN L).length = 2 ∧ ∀ M ∈ cutN L, 3 ≤ M.length ∧ M.length ≤ 6) := by
 unfold cutN
 rw [if_neg (by omega)]
 by_cases h6 : L.length ≤ 6
 ·rw [if_pos h6]; exact .inl ⟨rfl, h6⟩
 ·rw [if_neg h6]
  refine .inr ⟨rfl, fun M hM => ?_⟩
  rcases List.mem_cons.1 hM with rfl | hM
  ·rw [List.length_take]; omega
  ·obtain rfl := m1 hM
   rw [List.length_drop]; omega
theorem zgU {L : List EntD} {e : EntD} {p : Nat} (hp : p ≤ L.length) : L.length ≤ (setAt L e p).length ∧ (setAt L e p).length ≤ L.length + 1 := by
 unfold setAt
 split
 ·rw [List.length_set]; omega
 ·simp only [List.length_append, List.length_take, List.length_drop, List.length_cons, List.length_nil]; omega
theorem ze7 {L : List EntD} {t : KeyD} {p : Nat} (hp : p ≤ L.length) : (delAt L t p).length ≤ L.length ∧ L.length ≤ (delAt L t p).length + 1 := by
 unfold delAt
 split
 ·simp only [List.length_append, List.length_take, List.length_drop]; omega
 ·omega
noncomputable def kidIx (K : List KeyD) (t : KeyD) (q : Nat) : Nat := if tB (K[q]? = some t) = true then q else q - 1
def SetR : (h : Nat) → T h → EntD → List (T h) → Prop
 | 0, t, e, ts => ∃ p, PosK (keysOf t.2) e.k p ∧ ts.map (fun s => s.2) = cutN (setAt t.2 e p) ∧ ∀ s ∈ ts, IsLeaf s.2 s.1
 | h + 1, t, e, ts => ∃ q k us, PosK ((t.2.map (ents h)).map fstK) e.k q ∧ t.2[kidIx ((t.2.map (ents h)).map fstK) e.k q]? = some k ∧ SetR h k e us ∧
  ts.map (fun s => s.2) = cutN (t.2.take (kidIx ((t.2.map (ents h)).map fstK) e.k q) ++ us ++ t.2.drop (kidIx ((t.2.map (ents h)).map fstK) e.k q + 1)) ∧ ∀ s ∈ ts, IsInner (s.2.map (nd h)) s.1
theorem zcO {h : Nat} {ts : List (T (h + 1))} {L : List (T h)} (e : ts.map (fun s => s.2) = cutN L) : (ts.map (ents (h + 1))).flatten = (L.map (ents h)).flatten := by
 have e1 : ts.map (ents (h + 1)) = (ts.map (fun s => s.2)).map (fun l => (l.map (ents h)).flatten) := by rw [List.map_map]; rfl
 rw [e1, e]
 have key : ∀ Ls : List (List (T h)), (Ls.map (fun l => (l.map (ents h)).flatten)).flatten = (Ls.flatten.map (ents h)).flatten := by
  intro Ls
  induction Ls with
  | nil => rfl
  | cons x r ih => rw [List.map_cons, List.flatten_cons, ih, List.flatten_cons, List.map_append, List.flatten_append]
 rw [key, zjz]
theorem zcN {ts : List (T 0)} {L : List EntD} (e : ts.map (fun s => s.2) = cutN L) : (ts.map (ents 0)).flatten = L := by
 have e1 : ts.map (ents 0) = ts.map (fun s => s.2) := rfl
 rw [e1, e, zjz]
theorem zb3 {α β : Type} {ts : List (α × List β)} {L : List β} (e : ts.map (fun s => s.2) = cutN L) {s : α × List β} (hs : s ∈ ts) : 0 < s.2.length ∧ ∀ x ∈ s.2, x ∈ L := by
 have h1 : s.2 ∈ ts.map (fun s => s.2) := List.mem_map_of_mem (f := fun s : α × List β => s.2) hs
 rw [e] at h1
 exact zp3 h1
theorem zeA : ∀ (h : Nat) (t : T h) (e : EntD) (ts : List (T h)), Ok h t → AscK (keysOf (ents h t)) → SetR h t e ts →
 (∃ p, PosK (keysOf (ents h t)) e.k p ∧ (ts.map (ents h)).flatten = setAt (ents h t) e p) ∧ ∀ s ∈ ts, Ok h s
 | 0, t, e, ts, ok, ha, ⟨p, hp, hts, hl⟩ => ⟨⟨p, hp, zcN hts⟩, fun s hs => ⟨(hl s hs).w, (zb3 hts hs).1⟩⟩
 | h + 1, (d, ks), e, ts, ⟨ok1, ok2, ok3⟩, ha, ⟨q, k, us, hq, hk, hus, hts, hl⟩ => by
   have ok2' : 0 < ks.length := ok2
   obtain ⟨i, hi⟩ : ∃ i, i = kidIx ((ks.map (ents h)).map fstK) e.k q := ⟨_, rfl⟩
   have hk' : ks[i]? = some k := by rw [hi]; exact hk
   have hts' : ts.map (fun s => s.2) = cutN (ks.take i ++ us ++ ks.drop (i + 1)) := by rw [hi]; exact hts
   have hka : KidAt (ks.map (ents h)) e.k i := by
    rw [hi]
    refine zlA (fun B hB => ?_) (by rw [List.length_map]; exact ok2') ha hq
    obtain ⟨x, hx, rfl⟩ := List.mem_map.1 hB
    exact (zaM h x (ok3 x hx)).1
   have hB : (ks.map (ents h))[i]? = some (ents h k) := by rw [List.getElem?_map, hk']; rfl
   have hkm : k ∈ ks := List.mem_of_getElem? hk'
   obtain ⟨⟨p, hp, e1⟩, hok⟩ := zeA h k e us (ok3 k hkm) (zcY ha hB) hus
   refine ⟨⟨_, ziQ hka hB hp, ?_⟩, fun s hs => ?_⟩
   ·show (ts.map (ents (h + 1))).flatten = setAt ((ks.map (ents h)).flatten) e _
    rw [zcO hts', zne hka hB hp, List.map_append, List.map_append, List.flatten_append, List.flatten_append, e1, List.map_take, List.map_drop]
   ·obtain ⟨h1, h2⟩ := zb3 hts' hs
    refine ⟨(hl s hs).w, h1, fun x hx => ?_⟩
    have := h2 x hx
    rcases List.mem_append.1 this with h3 | h3
    ·rcases List.mem_append.1 h3 with h3 | h3
     ·exact ok3 x (List.mem_of_mem_take h3)
     ·exact hok x h3
    ·exact ok3 x (List.mem_of_mem_drop h3)
theorem zde {α β : Type} {ts : List (α × List β)} {Ls : List (List β)} (e : ts.map (fun s => s.2) = Ls) : ts.length = Ls.length := by rw [← e, List.length_map]
theorem zpM {α : Type} {l : List α} {i : Nat} {x : α} {us : List α} (h : l[i]? = some x) : (l.take i ++ us ++ l.drop (i + 1)).length + 1 = l.length + us.length := by
 have := (List.getElem?_eq_some_iff.1 h).1
 simp only [List.length_append, List.length_take, List.length_drop]
 omega
theorem zcJ : ∀ (h : Nat) (t : T h) (e : EntD) (ts : List (T h)), SetR h t e ts →
 (Good h t → (1 ≤ ts.length ∧ ts.length ≤ 2) ∧ ∀ s ∈ ts, Good h s) ∧ (Root h t → (ts.length = 1 ∧ ∀ s ∈ ts, Root h s) ∨ (ts.length = 2 ∧ ∀ s ∈ ts, Good h s))
 | 0, t, e, ts, ⟨p, hp, hts, hl⟩ => by
   have hpl := hp.le
   rw [List.length_map] at hpl
   have hsl := zgU (e := e) hpl
   have hm : ∀ s ∈ ts, s.2 ∈ cutN (setAt t.2 e p) := fun s hs => by rw [← hts]; exact List.mem_map_of_mem (f := fun s : NodeD × List EntD => s.2) hs
   have hlen : List.length (α := T 0) ts = (cutN (setAt t.2 e p)).length := zde hts
   constructor
   ·intro ⟨g1, g2⟩
    rcases zcC (L := setAt t.2 e p) (by omega) (by omega) with ⟨h1, h2⟩ | ⟨h1, h2⟩
    ·rw [h1] at hlen hm
     exact ⟨by simp at hlen; omega, fun s hs => by
      have := List.mem_singleton.1 (hm s hs)
      show 3 ≤ s.2.length ∧ s.2.length ≤ 6
      rw [this]; omega⟩
    ·rw [h1] at hlen
     exact ⟨by omega, fun s hs => h2 _ (hm s hs)⟩
   ·intro ⟨g1, g2⟩
    rcases zcC (L := setAt t.2 e p) (by omega) (by omega) with ⟨h1, h2⟩ | ⟨h1, h2⟩
    ·rw [h1] at hlen hm
     exact .inl ⟨by simpa using hlen, fun s hs => by
      have := List.mem_singleton.1 (hm s hs)
      show 1 ≤ s.2.length ∧ s.2.length ≤ 6
      rw [this]; omega⟩
    ·rw [h1] at hlen
     exact .inr ⟨hlen, fun s hs => h2 _ (hm s hs)⟩
 | h + 1, (d, ks), e, ts, ⟨q, k, us, hq, hk, hus, hts, hl⟩ => by
   obtain ⟨i, hi⟩ : ∃ i, i = kidIx ((ks.map (ents h)).map fstK) e.k q := ⟨_, rfl⟩
   have hk' : ks[i]? = some k := by rw [hi]; exact hk
   have hts' : ts.map (fun s => s.2) = cutN (ks.take i ++ us ++ ks.drop (i + 1)) := by rw [hi]; exact hts
   have hkm : k ∈ ks := List.mem_of_getElem? hk'
   have hlen : List.length (α := T (h + 1)) ts = (cutN (ks.take i ++ us ++ ks.drop (i + 1))).length := zde hts'
   have hl1 := zpM (us := us) hk'
   have hm : ∀ s ∈ ts, s.2 ∈ cutN (ks.take i ++ us ++ ks.drop (i + 1)) := fun s hs => by rw [← hts']; exact List.mem_map_of_mem (f := fun s : NodeD × List (T h) => s.2) hs
   have ih := (zcJ h k e us hus).1
   have hgood : (∀ x ∈ ks, Good h x) → ∀ s ∈ ts, ∀ x ∈ s.2, Good h x := by
    intro hg s hs x hx
    have := (zb3 hts' hs).2 x hx
    rcases List.mem_append.1 this with h3 | h3
    ·rcases List.mem_append.1 h3 with h3 | h3
     ·exact hg x (List.mem_of_mem_take h3)
     ·exact (ih (hg k hkm)).2 x h3
    ·exact hg x (List.mem_of_mem_drop h3)
   constructor
   ·intro ⟨g1, g2, g3⟩
    have g1' : 3 ≤ ks.length := g1
    have g2' : ks.length ≤ 6 := g2
    obtain ⟨⟨i1, i2⟩, i3⟩ := ih (g3 k hkm)
    rcases zcC (L := ks.take i ++ us ++ ks.drop (i + 1)) (by omega) (by omega) with ⟨h1, h2⟩ | ⟨h1, h2⟩
    ·rw [h1] at hlen hm
     exact ⟨by simp at hlen; omega, fun s hs => by
      have := List.mem_singleton.1 (hm s hs)
      have hsl : s.2.length = (ks.take i ++ us ++ ks.drop (i + 1)).length := by rw [this]
      exact ⟨by omega, by omega, hgood g3 s hs⟩⟩
    ·rw [h1] at hlen
     exact ⟨by omega, fun s hs => ⟨(h2 _ (hm s hs)).1, (h2 _ (hm s hs)).2, hgood g3 s hs⟩⟩
   ·intro ⟨g1, g2, g3⟩
    have g1' : 2 ≤ ks.length := g1
    have g2' : ks.length ≤ 6 := g2
    obtain ⟨⟨i1, i2⟩, i3⟩ := ih (g3 k hkm)
    rcases zcC (L := ks.take i ++ us ++ ks.drop (i + 1)) (by omega) (by omega) with ⟨h1, h2⟩ | ⟨h1, h2⟩
    ·rw [h1] at hlen hm
     exact .inl ⟨by simpa using hlen, fun s hs => by
      have := List.mem_singleton.1 (hm s hs)
      have hsl : s.2.length = (ks.take i ++ us ++ ks.drop (i + 1)).length := by rw [this]
      exact ⟨by omega, by omega, hgood g3 s hs⟩⟩
    ·rw [h1] at hlen
     exact .inr ⟨hlen, fun s hs => ⟨(h2 _ (hm s hs)).1, (h2 _ (hm s hs)).2, hgood g3 s hs⟩⟩
theorem zeU : ∀ (h : Nat) (t : T h), Good h t → 3 ^ (h + 1) ≤ (ents h t).length
 | 0, t, ⟨h1, _⟩ => h1
 | h + 1, (d, ks), ⟨h1, _, h3⟩ => by
   have key : ∀ l : List (T h), (∀ k ∈ l, Good h k) → l.length * 3 ^ (h + 1) ≤ ((l.map (ents h)).flatten).length := by
    intro l
    induction l with
    | nil => intro _; simp
    | cons x r ih =>
      intro hg
      rw [List.map_cons, List.flatten_cons, List.length_append, List.length_cons, Nat.succ_mul]
      have h4 := zeU h x (hg x (.head _))
      have h5 := ih fun k hk => hg k (.tail _ hk)
      omega
   have h4 := key ks h3
   have h1' : 3 ≤ ks.length := h1
   have h5 : 3 * 3 ^ (h + 1) ≤ ks.length * 3 ^ (h + 1) := Nat.mul_le_mul_right _ h1'
   show 3 ^ (h + 1 + 1) ≤ ((ks.map (ents h)).flatten).length
   rw [Nat.pow_succ]
   omega
end Go.Proofs.YtaghmffgoomebaaGreat.Tr
namespace Go.Proofs.YtaghmffgoomebaaGreat.Tr
open Nd Gx
def ln : (h : Nat) → T h → Nat
 | 0, t => t.2.length
 | _ + 1, t => t.2.length
theorem zeK {h : Nat} {t : T h} (ok : Ok h t) : ln h t = (nd h t).Ks.length := by
 cases h with
 | zero => show t.2.length = t.1.Ks.length; rw [ok.1.Ks, List.length_map]
 | succ h => rw [zdz ok]; rfl
theorem Near.good {h : Nat} {t : T h} (g : Near h t) (h3 : 3 ≤ ln h t) : Good h t := by
 cases h with
 | zero => exact ⟨h3, g.2⟩
 | succ h => exact ⟨h3, g.2⟩
theorem Near.ln {h : Nat} {t : T h} (g : Near h t) : 2 ≤ ln h t ∧ ln h t ≤ 6 := by
 cases h with
 | zero => exact g
 | succ h => exact ⟨g.1, g.2.1⟩
theorem Good.ln {h : Nat} {t : T h} (g : Good h t) : 3 ≤ ln h t ∧ ln h t ≤ 6 := by
 cases h with
 | zero => exact g
 | succ h => exact ⟨g.1, g.2.1⟩
def JoinR : (h : Nat) → T h → T h → List (T h) → Prop
 | 0, a, b, js => js.map (fun s => s.2) = cutN (a.2 ++ b.2) ∧ ∀ s ∈ js, IsLeaf s.2 s.1
 | h + 1, a, b, js => js.map (fun s => s.2) = cutN (a.2 ++ b.2) ∧ ∀ s ∈ js, IsInner (s.2.map (nd h)) s.1
theorem znI : ∀ (h : Nat) (a b : T h) (js : List (T h)), Ok h a → Ok h b → JoinR h a b js → (js.map (ents h)).flatten = ents h a ++ ents h b ∧ ∀ s ∈ js, Ok h s
 | 0, a, b, js, oa, ob, ⟨h1, h2⟩ => ⟨zcN h1, fun s hs => ⟨(h2 s hs).w, (zb3 h1 hs).1⟩⟩
 | h + 1, (da, ka), (db, kb), js, ⟨_, _, oa⟩, ⟨_, _, ob⟩, ⟨h1, h2⟩ => by
   have h1' : js.map (fun s => s.2) = cutN (ka ++ kb) := h1
   refine ⟨?_, fun s hs => ⟨(h2 s hs).w, (zb3 h1' hs).1, fun x hx => ?_⟩⟩
   ·rw [zcO h1', List.map_append, List.flatten_append]; rfl
   ·rcases List.mem_append.1 ((zb3 h1' hs).2 x hx) with h3 | h3
    ·exact oa x h3
    ·exact ob x h3
theorem zj9 : ∀ (h : Nat) (a b : T h) (js : List (T h)), Near h a → Near h b → 5 ≤ ln h a + ln h b → ln h a + ln h b ≤ 8 → JoinR h a b js → (1 ≤ js.length ∧ js.length ≤ 2) ∧ ∀ s ∈ js, Good h s
 | 0, a, b, js, na, nb, h5, h8, ⟨h1, h2⟩ => by
   have h5' : 5 ≤ a.2.length + b.2.length := h5
   have h8' : a.2.length + b.2.length ≤ 8 := h8
   have hl : (a.2 ++ b.2).length = a.2.length + b.2.length := List.length_append
   have hlen : List.length (α := T 0) js = (cutN (a.2 ++ b.2)).length := zde h1
   have hm : ∀ s ∈ js, s.2 ∈ cutN (a.2 ++ b.2) := fun s hs => by rw [← h1]; exact List.mem_map_of_mem (f := fun s : NodeD × List EntD => s.2) hs
   rcases zcC (L := a.2 ++ b.2) (by omega) (by omega) with ⟨c1, c2⟩ | ⟨c1, c2⟩
   ·rw [c1] at hlen hm
    exact ⟨by simp at hlen; omega, fun s hs => by
     have := List.mem_singleton.1 (hm s hs)
     show 3 ≤ s.2.length ∧ s.2.length ≤ 6
     rw [this]; omega⟩
   ·rw [c1] at hlen
    exact ⟨by omega, fun s hs => c2 _ (hm s hs)⟩
 | h + 1, (da, ka), (db, kb), js, ⟨_, _, ga⟩, ⟨_, _, gb⟩, h5, h8, ⟨h1, h2⟩ => by
   have h1' : js.map (fun s => s.2) = cutN (ka ++ kb) := h1
   have h5' : 5 ≤ ka.length + kb.length := h5
   have h8' : ka.length + kb.length ≤ 8 := h8
   have hl : (ka ++ kb).length = ka.length + kb.length := List.length_append
   have hlen : List.length (α := T (h + 1)) js = (cutN (ka ++ kb)).length := zde h1'
   have hm : ∀ s ∈ js, s.2 ∈ cutN (ka ++ kb) := fun s hs => by rw [← h1']; exact List.mem_map_of_mem (f := fun s : NodeD × List (T h) => s.2) hs
   have hgood : ∀ s ∈ js, ∀ x ∈ s.2, Good h x := fun s hs x hx => by
    rcases List.mem_append.1 ((zb3 h1' hs).2 x hx) with h3 | h3
    ·exact ga x h3
    ·exact gb x h3
   rcases zcC (L := ka ++ kb) (by omega) (by omega) with ⟨c1, c2⟩ | ⟨c1, c2⟩
   ·rw [c1] at hlen hm
    exact ⟨by simp at hlen; omega, fun s hs => by
     have := List.mem_singleton.1 (hm s hs)
     have hsl : s.2.length = (ka ++ kb).length := by rw [this]
     exact ⟨by omega, by omega, hgood s hs⟩⟩
   ·rw [c1] at hlen
    exact ⟨by omega, fun s hs => ⟨(c2 _ (hm s hs)).1, (c2 _ (hm s hs)).2, hgood s hs⟩⟩
def JoinedR (h : Nat) (ks : List (T h)) (i : Nat) (ks' : List (T h)) : Prop :=
 ∃ c, ks[i]? = some c ∧ (((3 ≤ ln h c ∨ ks.length < 2) ∧ ks' = ks) ∨
  (¬ (3 ≤ ln h c ∨ ks.length < 2) ∧ ∃ a b js, ks[i - 1]? = some a ∧ ks[i - 1 + 1]? = some b ∧ JoinR h a b js ∧ ks' = ks.take (i - 1) ++ js ++ ks.drop (i - 1 + 2)))
theorem split2 {α : Type} {l : List α} {i : Nat} {a b : α} (ha : l[i]? = some a) (hb : l[i + 1]? = some b) : l = l.take i ++ [a, b] ++ l.drop (i + 2) := by
 have h1 := (List.getElem?_eq_some_iff.1 ha).1
 have h2 := (List.getElem?_eq_some_iff.1 hb).1
 rw [List.getElem?_eq_getElem h1] at ha
 rw [List.getElem?_eq_getElem h2] at hb
 injection ha with ha
 injection hb with hb
 conv => lhs; rw [← List.take_append_drop i l, List.drop_eq_getElem_cons h1, List.drop_eq_getElem_cons h2, ha, hb]
 simp
theorem zfx {h : Nat} {ks ks' : List (T h)} {i : Nat} (ok : ∀ k ∈ ks, Ok h k) (hj : JoinedR h ks i ks') : (ks'.map (ents h)).flatten = (ks.map (ents h)).flatten ∧ ∀ k ∈ ks', Ok h k := by
 obtain ⟨c, hc, ⟨_, rfl⟩ | ⟨_, a, b, js, ha, hb, hr, rfl⟩⟩ := hj
 ·exact ⟨rfl, ok⟩
 ·obtain ⟨h1, h2⟩ := znI h a b js (ok a (List.mem_of_getElem? ha)) (ok b (List.mem_of_getElem? hb)) hr
  refine ⟨?_, fun k hk => ?_⟩
  ·conv => rhs; rw [split2 ha hb]
   simp only [List.map_append, List.flatten_append, h1, List.map_cons, List.map_nil, List.flatten_cons, List.flatten_nil, List.append_nil]
  ·rcases List.mem_append.1 hk with h3 | h3
   ·rcases List.mem_append.1 h3 with h3 | h3
    ·exact ok k (List.mem_of_mem_take h3)
    ·exact h2 k h3
   ·exact ok k (List.mem_of_mem_drop h3)
theorem zhm {h : Nat} {ks ks' : List (T h)} {i : Nat} (h2 : 2 ≤ ks.length) (hg : ∀ (j : Nat) (x : T h), ks[j]? = some x → j ≠ i → Good h x) (hn : ∀ x, ks[i]? = some x → Near h x) (hj : JoinedR h ks i ks') :
 (∀ k ∈ ks', Good h k) ∧ ks.length ≤ ks'.length + 1 ∧ ks'.length ≤ ks.length := by
 have hin : ∀ {j : Nat} {x : T h}, ks[j]? = some x → Near h x := fun {j x} hx => by
  by_cases hji : j = i
  ·subst hji; exact hn x hx
  ·exact (hg j x hx hji).near
 obtain ⟨c, hc, ⟨h1, rfl⟩ | ⟨h1, a, b, js, ha, hb, hr, rfl⟩⟩ := hj
 ·have h3 : 3 ≤ ln h c := by omega
  refine ⟨fun k hk => ?_, by omega, by omega⟩
  obtain ⟨j, hx⟩ := List.getElem?_of_mem hk
  by_cases hji : j = i
  ·subst hji
   rw [hc] at hx
   injection hx with hx
   subst hx
   exact (hn c hc).good h3
  ·exact hg j k hx hji
 ·have h3 : ¬ 3 ≤ ln h c := by omega
  have hc2 := (hn c hc).ln
  have hsum : 5 ≤ ln h a + ln h b ∧ ln h a + ln h b ≤ 8 := by
   rcases Nat.eq_zero_or_pos i with h0 | h0
   ·subst h0
    have e1 : c = a := by rw [hc] at ha; exact Option.some.inj ha
    subst e1
    have := (hg 1 b hb (by omega)).ln
    omega
   ·have e1 : c = b := by rw [show i - 1 + 1 = i by omega, hc] at hb; exact Option.some.inj hb
    subst e1
    have := (hg (i - 1) a ha (by omega)).ln
    omega
  obtain ⟨h4, h5⟩ := zj9 h a b js (hin ha) (hin hb) hsum.1 hsum.2 hr
  have hl1 := (List.getElem?_eq_some_iff.1 hb).1
  have hne : ∀ {j : Nat}, j = i → ¬ (j < i - 1) ∧ ¬ (i - 1 + 2 ≤ j) := fun {j} hj => by omega
  refine ⟨fun k hk => ?_, ?_, ?_⟩
  ·rcases List.mem_append.1 hk with h6 | h6
   ·rcases List.mem_append.1 h6 with h6 | h6
    ·obtain ⟨j, hx⟩ := List.getElem?_of_mem h6
     have hjl := (List.getElem?_eq_some_iff.1 hx).1
     rw [List.length_take] at hjl
     rw [List.getElem?_take, if_pos (by omega)] at hx
     exact hg j k hx (fun e => (hne e).1 (by omega))
    ·exact h5 k h6
   ·obtain ⟨j, hx⟩ := List.getElem?_of_mem h6
    rw [List.getElem?_drop] at hx
    exact hg _ k hx (fun e => (hne e).2 (by omega))
  ·simp only [List.length_append, List.length_take, List.length_drop]; omega
  ·simp only [List.length_append, List.length_take, List.length_drop]; omega
def DelR : (h : Nat) → T h → KeyD → List (T h) → Prop
 | 0, t, k, ts => ∃ p, PosK (keysOf t.2) k p ∧ (keysOf t.2)[p]? = some k ∧ ts.map (fun s => s.2) = cutN (delAt t.2 k p) ∧ ∀ s ∈ ts, IsLeaf s.2 s.1
 | h + 1, t, k, ts => ∃ q c us ks, PosK ((t.2.map (ents h)).map fstK) k q ∧ t.2[kidIx ((t.2.map (ents h)).map fstK) k q]? = some c ∧ DelR h c k us ∧
  JoinedR h (t.2.take (kidIx ((t.2.map (ents h)).map fstK) k q) ++ us ++ t.2.drop (kidIx ((t.2.map (ents h)).map fstK) k q + 1)) (kidIx ((t.2.map (ents h)).map fstK) k q) ks ∧
  ts.map (fun s => s.2) = cutN ks ∧ ∀ s ∈ ts, IsInner (s.2.map (nd h)) s.1
theorem zgy : ∀ (h : Nat) (t : T h) (k : KeyD) (ts : List (T h)), Ok h t → AscK (keysOf (ents h t)) → DelR h t k ts →
 (∃ p, PosK (keysOf (ents h t)) k p ∧ (keysOf (ents h t))[p]? = some k ∧ (ts.map (ents h)).flatten = delAt (ents h t) k p) ∧ ∀ s ∈ ts, Ok h s
 | 0, t, k, ts, ok, ha, ⟨p, hp, hf, hts, hl⟩ => ⟨⟨p, hp, hf, zcN hts⟩, fun s hs => ⟨(hl s hs).w, (zb3 hts hs).1⟩⟩
 | h + 1, (d, ks), k, ts, ⟨ok1, ok2, ok3⟩, ha, ⟨q, c, us, ks', hq, hk, hus, hj, hts, hl⟩ => by
   have ok2' : 0 < ks.length := ok2
   obtain ⟨i, hi⟩ : ∃ i, i = kidIx ((ks.map (ents h)).map fstK) k q := ⟨_, rfl⟩
   have hk' : ks[i]? = some c := by rw [hi]; exact hk
   have hj' : JoinedR h (ks.take i ++ us ++ ks.drop (i + 1)) i ks' := by rw [hi]; exact hj
   have hts' : ts.map (fun s => s.2) = cutN ks' := hts
   have hka : KidAt (ks.map (ents h)) k i := by
    rw [hi]
    refine zlA (fun B hB => ?_) (by rw [List.length_map]; exact ok2') ha hq
    obtain ⟨x, hx, rfl⟩ := List.mem_map.1 hB
    exact (zaM h x (ok3 x hx)).1
   have hB : (ks.map (ents h))[i]? = some (ents h c) := by rw [List.getElem?_map, hk']; rfl
   have hcm : c ∈ ks := List.mem_of_getElem? hk'
   obtain ⟨⟨p, hp, hf, e1⟩, hok⟩ := zgy h c k us (ok3 c hcm) (zcY ha hB) hus
   have hok' : ∀ x ∈ ks.take i ++ us ++ ks.drop (i + 1), Ok h x := by
    intro x hx
    rcases List.mem_append.1 hx with h3 | h3
    ·rcases List.mem_append.1 h3 with h3 | h3
     ·exact ok3 x (List.mem_of_mem_take h3)
     ·exact hok x h3
    ·exact ok3 x (List.mem_of_mem_drop h3)
   obtain ⟨j1, j2⟩ := zfx hok' hj'
   refine ⟨⟨_, ziQ hka hB hp, ?_, ?_⟩, fun s hs => ?_⟩
   ·show (keysOf ((ks.map (ents h)).flatten))[_]? = some k
    rw [zbh _ hB, zaw, zaw]
    have := (zdL (A := keysOf ((ks.map (ents h)).take i).flatten) (B := keysOf (ents h c)) (p := p) (zdB hka).2 hp.le).2 hf
    rwa [List.length_map] at this
   ·show (ts.map (ents (h + 1))).flatten = delAt ((ks.map (ents h)).flatten) k _
    rw [zcO hts', j1, zob hka hB hp, List.map_append, List.map_append, List.flatten_append, List.flatten_append, e1, List.map_take, List.map_drop]
   ·obtain ⟨h1, h2⟩ := zb3 hts' hs
    exact ⟨(hl s hs).w, h1, fun x hx => j2 x (h2 x hx)⟩
def Low : (h : Nat) → T h → Prop
 | 0, t => 1 ≤ t.2.length ∧ t.2.length ≤ 6
 | h + 1, t => 1 ≤ t.2.length ∧ t.2.length ≤ 6 ∧ ∀ k ∈ t.2, Good h k
theorem zdP : ∀ (h : Nat) (t : T h) (k : KeyD) (ts : List (T h)), DelR h t k ts →
 (Good h t → ∃ s, ts = [s] ∧ Near h s) ∧ (Root h t → ts = [] ∧ h = 0 ∨ ∃ s, ts = [s] ∧ Low h s)
 | 0, t, k, ts, ⟨p, hp, hf, hts, hl⟩ => by
   have hpl := hp.le
   rw [List.length_map] at hpl
   have hdl := ze7 (t := k) hpl
   have hlen : List.length (α := T 0) ts = (cutN (delAt t.2 k p)).length := zde hts
   have one : 1 ≤ (delAt t.2 k p).length → (delAt t.2 k p).length ≤ 6 → ∃ s : T 0, ts = [s] ∧ s.2 = delAt t.2 k p := by
    intro h1 h6
    have hc : cutN (delAt t.2 k p) = [delAt t.2 k p] := by unfold cutN; rw [if_neg (by omega), if_pos h6]
    rw [hc] at hlen hts
    match ts, hlen, hts with
    | [s], _, hts => exact ⟨s, rfl, by simpa using hts⟩
   constructor
   ·intro ⟨g1, g2⟩
    obtain ⟨s, e1, e2⟩ := one (by omega) (by omega)
    refine ⟨s, e1, ?_⟩
    show 2 ≤ s.2.length ∧ s.2.length ≤ 6
    rw [e2]; omega
   ·intro ⟨g1, g2⟩
    by_cases h0 : (delAt t.2 k p).length = 0
    ·refine .inl ⟨?_, rfl⟩
     have hc : cutN (delAt t.2 k p) = [] := by unfold cutN; rw [if_pos h0]
     rw [hc] at hlen
     exact List.length_eq_zero_iff.1 hlen
    ·obtain ⟨s, e1, e2⟩ := one (by omega) (by omega)
     refine .inr ⟨s, e1, ?_⟩
     show 1 ≤ s.2.length ∧ s.2.length ≤ 6
     rw [e2]; omega
 | h + 1, (d, ks), k, ts, ⟨q, c, us, ks', hq, hk, hus, hj, hts, hl⟩ => by
   obtain ⟨i, hi⟩ : ∃ i, i = kidIx ((ks.map (ents h)).map fstK) k q := ⟨_, rfl⟩
   have hk' : ks[i]? = some c := by rw [hi]; exact hk
   have hj' : JoinedR h (ks.take i ++ us ++ ks.drop (i + 1)) i ks' := by rw [hi]; exact hj
   have hts' : ts.map (fun s => s.2) = cutN ks' := hts
   have hcm : c ∈ ks := List.mem_of_getElem? hk'
   have hil := (List.getElem?_eq_some_iff.1 hk').1
   have hlen : List.length (α := T (h + 1)) ts = (cutN ks').length := zde hts'
   have key : (∀ x ∈ ks, Good h x) → 2 ≤ ks.length → ks.length ≤ 6 → (∀ x ∈ ks', Good h x) ∧ ks.length ≤ ks'.length + 1 ∧ ks'.length ≤ ks.length := by
    intro hg h2 h6
    obtain ⟨u, rfl, hu⟩ := (zdP h c k us hus).1 (hg c hcm)
    have hl1 : (ks.take i ++ [u] ++ ks.drop (i + 1)).length = ks.length := by
     simp only [List.length_append, List.length_take, List.length_drop, List.length_cons, List.length_nil]; omega
    have hat : ∀ (j : Nat) (x : T h), (ks.take i ++ [u] ++ ks.drop (i + 1))[j]? = some x → (j ≠ i → x ∈ ks) ∧ (j = i → x = u) := by
     intro j x hx
     have hti : (ks.take i).length = i := by rw [List.length_take]; omega
     rcases Nat.lt_trichotomy j i with h1 | h1 | h1
     ·rw [List.append_assoc, List.getElem?_append_left (by omega), List.getElem?_take, if_pos h1] at hx
      exact ⟨fun _ => List.mem_of_getElem? hx, fun e => by omega⟩
     ·subst h1
      rw [List.append_assoc, List.getElem?_append_right (by omega), hti, Nat.sub_self] at hx
      exact ⟨fun e => absurd rfl e, fun _ => (Option.some.inj hx).symm⟩
     ·rw [List.getElem?_append_right (by rw [List.length_append, hti]; simp; omega)] at hx
      exact ⟨fun _ => List.mem_of_mem_drop (List.mem_of_getElem? hx), fun e => by omega⟩
    have := zhm (by rw [hl1]; exact h2) (fun j x hx hji => hg x ((hat j x hx).1 hji)) (fun x hx => by rw [(hat i x hx).2 rfl]; exact hu) hj'
    rw [hl1] at this
    exact this
   have one : 1 ≤ ks'.length → ks'.length ≤ 6 → ∃ s : T (h + 1), ts = [s] ∧ s.2 = ks' := by
    intro h1 h6
    have hc : cutN ks' = [ks'] := by unfold cutN; rw [if_neg (by omega), if_pos h6]
    rw [hc] at hlen hts'
    match ts, hlen, hts' with
    | [s], _, hts' => exact ⟨s, rfl, by simpa using hts'⟩
   constructor
   ·intro ⟨g1, g2, g3⟩
    have g1' : 3 ≤ ks.length := g1
    have g2' : ks.length ≤ 6 := g2
    obtain ⟨j1, j2, j3⟩ := key g3 (by omega) g2'
    obtain ⟨s, e1, e2⟩ := one (by omega) (by omega)
    refine ⟨s, e1, ?_, ?_, ?_⟩
    ·rw [e2]; omega
    ·rw [e2]; omega
    ·rw [e2]; exact j1
   ·intro ⟨g1, g2, g3⟩
    have g1' : 2 ≤ ks.length := g1
    have g2' : ks.length ≤ 6 := g2
    obtain ⟨j1, j2, j3⟩ := key g3 g1' g2'
    obtain ⟨s, e1, e2⟩ := one (by omega) (by omega)
    refine .inr ⟨s, e1, ?_, ?_, ?_⟩
    ·rw [e2]; omega
    ·rw [e2]; omega
    ·rw [e2]; exact j1
end Go.Proofs.YtaghmffgoomebaaGreat.Tr
namespace Go.Proofs.YtaghmffgoomebaaGreat.Tr
open Nd Gx
theorem kid_le {Bs : List (List EntD)} {t : KeyD} {q : Nat} {B : List EntD} (hq : PosK (Bs.map fstK) t q) (hB : Bs[kidIx (Bs.map fstK) t q]? = some B) (h0 : 0 < kidIx (Bs.map fstK) t q) : ¬ klt t (fstK B) := by
 have hfk : (Bs.map fstK).getD (kidIx (Bs.map fstK) t q) default = fstK B := getD_at (by rw [List.getElem?_map, hB]; rfl)
 intro h2
 rw [← hfk] at h2
 unfold kidIx at h0 h2
 by_cases hf : tB ((Bs.map fstK)[q]? = some t) = true
 ·rw [if_pos hf] at h2
  rw [getD_at (zaQ.1 hf)] at h2
  exact zge h2
 ·rw [if_neg hf] at h2 h0
  exact zgf (hq.lo (q - 1) (by omega)) h2
def WayR : (h : Nat) → T h → KeyD → T 0 → List EntD → List EntD → Prop
 | 0, t, _, l, A, C => l = t ∧ A = [] ∧ C = []
 | h + 1, t, k, l, A, C => ∃ q c A' C', PosK ((t.2.map (ents h)).map fstK) k q ∧ t.2[kidIx ((t.2.map (ents h)).map fstK) k q]? = some c ∧ WayR h c k l A' C' ∧
  A = ((t.2.map (ents h)).take (kidIx ((t.2.map (ents h)).map fstK) k q)).flatten ++ A' ∧ C = C' ++ ((t.2.map (ents h)).drop (kidIx ((t.2.map (ents h)).map fstK) k q + 1)).flatten
theorem zkt : ∀ (h : Nat) (t : T h) (k : KeyD) (l : T 0) (A C : List EntD), Ok h t → AscK (keysOf (ents h t)) → WayR h t k l A C →
 ents h t = A ++ ents 0 l ++ C ∧ (∀ a ∈ keysOf A, klt a k) ∧ (∀ c ∈ keysOf C, klt k c) ∧ Ok 0 l ∧ (A ≠ [] → ¬ klt k (fstK (ents 0 l)))
 | 0, t, k, l, A, C, ok, ha, ⟨e1, e2, e3⟩ => by
   subst e1 e2 e3
   exact ⟨(by simp), fun a h => (by cases h), fun c h => (by cases h), ok, fun h => absurd rfl h⟩
 | h + 1, (d, ks), k, l, A, C, ⟨ok1, ok2, ok3⟩, ha, ⟨q, c, A', C', hq, hc, hw, eA, eC⟩ => by
   have ok2' : 0 < ks.length := ok2
   obtain ⟨i, hi⟩ : ∃ i, i = kidIx ((ks.map (ents h)).map fstK) k q := ⟨_, rfl⟩
   have hc' : ks[i]? = some c := by rw [hi]; exact hc
   have eA' : A = ((ks.map (ents h)).take i).flatten ++ A' := by rw [hi]; exact eA
   have eC' : C = C' ++ ((ks.map (ents h)).drop (i + 1)).flatten := by rw [hi]; exact eC
   have hB : (ks.map (ents h))[i]? = some (ents h c) := by rw [List.getElem?_map, hc']; rfl
   have hka : KidAt (ks.map (ents h)) k i := by
    rw [hi]
    refine zlA (fun B hB => ?_) (by rw [List.length_map]; exact ok2') ha hq
    obtain ⟨x, hx, rfl⟩ := List.mem_map.1 hB
    exact (zaM h x (ok3 x hx)).1
   obtain ⟨k1, k2⟩ := zdB hka
   obtain ⟨h1, h2, h3, h4, h5⟩ := zkt h c k l A' C' (ok3 c (List.mem_of_getElem? hc')) (zcY ha hB) hw
   have hlp : 0 < (ents 0 l).length := h4.2
   refine ⟨?_, ?_, ?_, h4, ?_⟩
   ·show (ks.map (ents h)).flatten = _
    rw [zbh _ hB, h1, eA', eC']
    simp only [List.append_assoc]
   ·rw [eA', zaw]
    intro a ham
    rcases List.mem_append.1 ham with h6 | h6
    ·exact k1 a h6
    ·exact h2 a h6
   ·rw [eC', zaw]
    intro x hx
    rcases List.mem_append.1 hx with h6 | h6
    ·exact h3 x h6
    ·exact k2 x h6
   ·intro hne
    by_cases hA0 : A' = []
    ·subst hA0
     rw [List.append_nil] at eA'
     have hi0 : 0 < i := by
      rcases Nat.eq_zero_or_pos i with h6 | h6
      ·subst h6
       exact absurd (by rw [eA']; rfl) hne
      ·exact h6
     have h6 : ¬ klt k (fstK (ents h c)) := by
      refine kid_le hq ?_ ?_
      ·rw [← hi]; exact hB
      ·rw [← hi]; exact hi0
     rw [h1, List.nil_append] at h6
     obtain ⟨y, r, e1, e2⟩ := zbm hlp
     rw [e1] at h6 ⊢
     exact h6
    ·exact h5 hA0
noncomputable def getV (L : List EntD) (k : KeyD) (p : Nat) : Option EntD := if tB ((keysOf L)[p]? = some k) = true then L[p]? else none
theorem zpL {A B C : List EntD} {p : Nat} (hp : p < B.length) : (A ++ B ++ C)[A.length + p]? = B[p]? := by
 rw [List.append_assoc, List.getElem?_append_right (by omega), Nat.add_sub_cancel_left, List.getElem?_append_left hp]
theorem zgV {L : List EntD} {e : EntD} {p : Nat} (ha : AscK (keysOf L)) (hp : PosK (keysOf L) e.k p) : AscK (keysOf (setAt L e p)) := by
 have hpl : p ≤ L.length := by have := hp.le; rwa [List.length_map] at this
 have hlo : ∀ a ∈ keysOf (L.take p), klt a e.k := by
  intro a h
  rw [keysOf, List.map_take] at h
  obtain ⟨m, hm⟩ := List.getElem?_of_mem h
  have hml := (List.getElem?_eq_some_iff.1 hm).1
  rw [List.length_take] at hml
  rw [List.getElem?_take, if_pos (by omega)] at hm
  have := hp.lo m (by omega)
  rwa [getD_at hm] at this
 have hall : L = L.take p ++ L.drop p := (List.take_append_drop p L).symm
 have hasc := ha
 rw [hall, zaw, zbi] at hasc
 unfold setAt
 by_cases hf : tB ((keysOf L)[p]? = some e.k) = true
 ·rw [if_pos hf]
  have hfk := zaQ.1 hf
  have hlt : p < L.length := by
   have := (List.getElem?_eq_some_iff.1 hfk).1
   rwa [List.length_map] at this
  have : keysOf (L.set p e) = keysOf L := by
   show (L.set p e).map _ = _
   rw [List.map_set]
   apply List.ext_getElem?
   intro j
   rw [List.getElem?_set]
   split
   ·rename_i h
    subst h
    rw [hfk, if_pos (by rw [List.length_map]; exact hlt)]
   ·rfl
  rw [this]
  exact ha
 ·rw [if_neg hf, List.append_assoc, zaw, zbi]
  have hhi : ∀ c ∈ keysOf (L.drop p), klt e.k c := by
   intro c h
   have hd : 0 < (L.drop p).length := by
    have := List.length_pos_of_mem h
    rwa [List.length_map] at this
   obtain ⟨y, r, e1, e2⟩ := zbm hd
   rw [List.length_drop] at hd
   have hy : (keysOf L)[p]? = some y.k := by
    have : (L.drop p)[0]? = some y := by rw [e1]; rfl
    rw [List.getElem?_drop, Nat.add_zero] at this
    rw [List.getElem?_map, this]; rfl
   have h2 := hp.hi p (Nat.le_refl _) (by rw [List.length_map]; omega)
   rw [getD_at hy] at h2
   have hey : klt e.k y.k := by
    by_cases h3 : klt e.k y.k
    ·exact h3
    ·exact absurd (zan (by rw [hy, key_eq h2 h3])) hf
   have h4 := hasc.2.1
   rw [e1] at h h4
   rw [show keysOf (y :: r) = [y.k] ++ keysOf r from rfl] at h h4
   rcases List.mem_append.1 h with h5 | h5
   ·rw [m1 h5]; exact hey
   ·exact zbr hey ((zbi.1 h4).2.2 y.k (.head _) c h5)
  refine ⟨hasc.1, ?_, fun a h1 b h2 => ?_⟩
  ·rw [zaw, zbi]
   refine ⟨fun i j h1 h2 => ?_, hasc.2.1, fun a h1 b h2 => ?_⟩
   ·have h2' : j < 1 := h2
    omega
   ·rw [m1 h1]; exact hhi b h2
  ·rw [zaw] at h2
   rcases List.mem_append.1 h2 with h3 | h3
   ·rw [m1 h3]; exact hlo a h1
   ·exact hasc.2.2 a h1 b h3
theorem zhz {L : List EntD} {k : KeyD} {p : Nat} (ha : AscK (keysOf L)) : AscK (keysOf (delAt L k p)) := by
 unfold delAt
 split
 ·rw [zgG] at ha ⊢
  refine List.Pairwise.sublist ?_ ha
  refine List.Sublist.map _ ?_
  have h1 : (L.take p ++ L.drop (p + 1)).Sublist (L.take p ++ L.drop p) := List.Sublist.append (List.Sublist.refl _) (by
   rw [← List.drop_drop]
   exact List.drop_sublist _ _)
  rwa [List.take_append_drop] at h1
 ·exact ha
end Go.Proofs.YtaghmffgoomebaaGreat.Tr
