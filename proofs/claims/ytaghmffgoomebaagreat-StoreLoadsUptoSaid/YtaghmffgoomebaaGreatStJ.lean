/- check.Tree of any tree that came of calls: fine; the chapter's example. append of a slice whose type has another name. The law's rises and wrong (layer 35). node.Inner, whose keys are still one's own. What check.Tree says of a root above leaves is what the law says (plain). The law CheckFinds. What check.Tree says of a root above two leaves that were loaded, and when it says that all is well. -/
import Derived.Test.YtaghmffgoomebaaGreatCt
import Derived.Test.YtaghmffgoomebaaGreatWq
import Derived.Test.YtaghmffgoomebaaGreatGxL
import Derived.Test.YtaghmffgoomebaaGreatTn
import Derived.Test.YtaghmffgoomebaaGreatNd3
import Derived.Test.YtaghmffgoomebaaGreatStI
import Derived.Test.YtaghmffgoomebaaGreatStG
namespace Go.Proofs.YtaghmffgoomebaaGreat.Ck
open Go.RowKit Mem Nd Gx Sk Tw Wk
open Tr hiding T row
set_option linter.unusedVariables false
set_option linter.unusedSimpArgs false
set_option maxRecDepth 100000
set_option maxHeartbeats 1000000
theorem win_all0 {M : List EntD} (h : ∀ e ∈ M, e.k.Bd) : win ⟨0, 0, 0⟩ maxK M = M := by
  unfold win
  rw [List.filter_eq_self]
  intro e he
  have h1 := (h e he).v; have h2 := (h e he).b; have h3 := (h e he).s
  unfold inW maxK
  rw [tB_false (klt_zero (h e he)), tB_false (by unfold klt; dsimp only; omega)]
  rfl
end Go.Proofs.YtaghmffgoomebaaGreat.Ck
namespace Go.Proofs.YtaghmffgoomebaaGreat.Gx
open Go.RowKit Mem
set_option linter.unusedVariables false
set_option linter.unusedSimpArgs false
end Go.Proofs.YtaghmffgoomebaaGreat.Gx
namespace Go.Proofs.YtaghmffgoomebaaGreat.Ck
open Go.RowKit Mem Nd Gx Sk Tw Wk
open Tr hiding T row
set_option linter.unusedVariables false
set_option linter.unusedSimpArgs false
set_option maxRecDepth 100000
set_option maxHeartbeats 1000000
/-- A leaf as an argument has it. -/
structure LfD where
  s : SlV
  E : List EntD
instance : Inhabited LfD := ⟨⟨⟨none, 0, 0⟩, []⟩⟩
def SE : LfD → Nat → Value := fun x _ => .slice x.s.A x.s.n x.s.c
noncomputable def badL : List (List EntD) → Int
  | [] => 0
  | E :: r => if tB (AscK (keysOf E)) = true then (if 3 ≤ E.length ∧ E.length ≤ 6 then badL r else 2) else 1
theorem badL_cons (E : List EntD) (r : List (List EntD)) : badL (E :: r) = if tB (AscK (keysOf E)) = true then (if 3 ≤ E.length ∧ E.length ≤ 6 then badL r else 2) else 1 := rfl
def FstP (Es : List (List EntD)) (Ks : List KeyD) : Prop := ∀ i E, Es[i]? = some E → E.length ≠ 0 ∧ fstK E = Ks.getD i default
noncomputable def wrongP (Es : List (List EntD)) (Ks : List KeyD) (n : Int) : Int :=
  if tB (AscK Ks) = true then (if 2 ≤ Es.length ∧ Es.length ≤ 6 then (if tB (FstP Es Ks) = true then (if badL Es = 0 then (if tB (AscK (keysOf Es.flatten)) = true then (if (Es.flatten.length : Int) = n then 0 else 5) else 1) else badL Es) else 4) else 2) else 1
theorem flat_le : ∀ (Es : List (List EntD)), (∀ E ∈ Es, E.length ≤ 9) → Es.flatten.length ≤ 9 * Es.length
  | [], _ => Nat.le_refl _
  | E :: r, h => by
    have h1 := h E (.head _)
    have h2 := flat_le r fun E hE => h E (.tail _ hE)
    rw [List.flatten_cons, List.length_append, List.length_cons]
    omega
end Go.Proofs.YtaghmffgoomebaaGreat.Ck
namespace Go.Proofs.YtaghmffgoomebaaGreat.Ck
open Go.RowKit Mem Nd Gx Sk Tw Wk
open Go.ChangeShapes Go.WideShapes Go.Deep
open Tr hiding T row
set_option linter.unusedVariables false
set_option linter.unusedSimpArgs false
set_option maxRecDepth 100000
set_option maxHeartbeats 1000000
/-! ### leaves as arguments -/
end Go.Proofs.YtaghmffgoomebaaGreat.Ck
namespace Go.Proofs.YtaghmffgoomebaaGreat.Ck
open Go.RowKit Mem Nd Gx Sk Tw Wk
open Tr hiding T row
set_option linter.unusedVariables false
set_option linter.unusedSimpArgs false
set_option maxRecDepth 100000
set_option maxHeartbeats 1000000
/-- A root above leaves. -/
structure Two (d : NodeD) (ls : List (Tr.T 0)) : Prop where
  ok : d.Ok
  leaf : d.leaf = false
  Vs : d.Vs = []
  Cs : d.Cs = (ls.map (nd 0)).map NodeD.g
  a : d.a = d.a
  Kl : d.Ks.length = ls.length
  lf : ∀ l ∈ ls, IsLeaf l.2 l.1
abbrev two (d : NodeD) (ls : List (Tr.T 0)) : AT := ⟨1, ((d, ls) : NodeD × List (Tr.T 0))⟩
theorem Two.wok {d : NodeD} {ls : List (Tr.T 0)} (h : Two d ls) : WOk (two d ls).h (two d ls).t := ⟨h.ok, h.leaf, h.Cs, h.Kl, fun k hk => h.lf k hk⟩
theorem two_kids (d : NodeD) (ls : List (Tr.T 0)) : (two d ls).kids = ls.map fun k => (⟨0, k⟩ : AT) := rfl
theorem two_bfs {d : NodeD} {ls : List (Tr.T 0)} {P : List AT} {i : Nat} (h : BfsR (two d ls) P i) : (i = 0 ∧ P = [two d ls]) ∨ (0 < i ∧ P = two d ls :: (two d ls).kids) := by
  induction h with
  | start => exact .inl ⟨rfl, rfl⟩
  | @step Q i b h hb ih =>
    right
    refine ⟨Nat.succ_pos _, ?_⟩
    rcases ih with ⟨rfl, rfl⟩ | ⟨hi, rfl⟩
    · obtain rfl := Option.some.inj hb
      rfl
    · cases i with
      | zero => omega
      | succ i =>
        have hb' : (two d ls).kids[i]? = some b := hb
        rw [two_kids, List.getElem?_map] at hb'
        obtain ⟨k, hk, rfl⟩ := Option.map_eq_some_iff.1 hb'
        show (two d ls :: (two d ls).kids) ++ [] = _
        rw [List.append_nil]
theorem lf_fst {l : Tr.T 0} (h : IsLeaf l.2 l.1) : l.1.Ks.length = l.2.length ∧ (l.2.length ≠ 0 → l.1.Ks.getD 0 default = fstK l.2) := by
  refine ⟨by rw [h.Ks, List.length_map], fun h0 => ?_⟩
  obtain ⟨y, r, hy, hk⟩ := fstK_at (B := l.2) (by omega)
  rw [h.Ks, hk, hy]
  rfl
theorem two_first {d : NodeD} {ls : List (Tr.T 0)} (h : Two d ls) : FirstP d.Ks ((two d ls).kids.map fun k => nd k.h k.t) ↔ FstP (ls.map fun l => l.2) d.Ks := by
  constructor
  · intro hf i E hE
    rw [List.getElem?_map] at hE
    obtain ⟨l, hl, rfl⟩ := Option.map_eq_some_iff.1 hE
    have h1 := hf i l.1 (by rw [two_kids, List.getElem?_map, List.getElem?_map, hl]; rfl)
    obtain ⟨h2, h3⟩ := lf_fst (h.lf l (List.mem_of_getElem? hl))
    have h0 : l.2.length ≠ 0 := by rw [← h2]; exact h1.1
    exact ⟨h0, by rw [← h3 h0]; exact h1.2⟩
  · intro hf i e he
    rw [two_kids, List.getElem?_map, List.getElem?_map] at he
    obtain ⟨x, hx, rfl⟩ := Option.map_eq_some_iff.1 he
    obtain ⟨l, hl, rfl⟩ := Option.map_eq_some_iff.1 hx
    have h1 := hf i l.2 (by rw [List.getElem?_map, hl]; rfl)
    obtain ⟨h2, h3⟩ := lf_fst (h.lf l (List.mem_of_getElem? hl))
    exact ⟨by show l.1.Ks.length ≠ 0; rw [h2]; exact h1.1, by show l.1.Ks.getD 0 default = _; rw [h3 h1.1]; exact h1.2⟩
theorem two_fill {d : NodeD} {ls : List (Tr.T 0)} (h : Two d ls) : FillP (nd (two d ls).h (two d ls).t).leaf true (nd (two d ls).h (two d ls).t).K.n (nd (two d ls).h (two d ls).t).V.n (nd (two d ls).h (two d ls).t).C.n ↔ 2 ≤ ls.length ∧ ls.length ≤ 6 := by
  show FillP d.leaf true d.K.n d.V.n d.C.n ↔ _
  unfold FillP
  rw [h.leaf, h.ok.K.n, h.ok.C.n, h.Kl, h.Cs, List.length_map, List.length_map]
  simp
theorem two_good {d : NodeD} {ls : List (Tr.T 0)} (h : Two d ls) : goodN (two d ls) true ↔ AscK d.Ks ∧ (2 ≤ ls.length ∧ ls.length ≤ 6) ∧ FstP (ls.map fun l => l.2) d.Ks :=
  and_congr Iff.rfl (and_congr (two_fill h) (two_first h))
theorem leaf_fill {l : Tr.T 0} (h : IsLeaf l.2 l.1) : FillP (nd 0 l).leaf false (nd 0 l).K.n (nd 0 l).V.n (nd 0 l).C.n ↔ 3 ≤ l.2.length ∧ l.2.length ≤ 6 := by
  show FillP l.1.leaf false l.1.K.n l.1.V.n l.1.C.n ↔ _
  unfold FillP
  rw [h.leaf, h.ok.K.n, h.ok.V.n, h.Ks, h.Vs, List.length_map, List.length_map]
  simp
theorem leaf_asc {l : Tr.T 0} (h : IsLeaf l.2 l.1) : AscK (nd 0 l).Ks ↔ AscK (keysOf l.2) := by show AscK l.1.Ks ↔ _; rw [h.Ks]
theorem leaf_good {l : Tr.T 0} (h : IsLeaf l.2 l.1) : goodN ⟨0, l⟩ false ↔ AscK (keysOf l.2) ∧ (3 ≤ l.2.length ∧ l.2.length ≤ 6) :=
  ⟨fun ⟨h1, h2, _⟩ => ⟨(leaf_asc h).1 h1, (leaf_fill h).1 h2⟩, fun ⟨h1, h2⟩ => ⟨(leaf_asc h).2 h1, (leaf_fill h).2 h2, fun i e he => by cases he⟩⟩
theorem badL_drop : ∀ (Es : List (List EntD)) (m : Nat), (∀ (j : Nat) (E : List EntD), j < m → Es[j]? = some E → AscK (keysOf E) ∧ (3 ≤ E.length ∧ E.length ≤ 6)) → badL Es = badL (Es.drop m)
  | _, 0, _ => rfl
  | [], m + 1, _ => rfl
  | E :: r, m + 1, h => by
    obtain ⟨h1, h2⟩ := h 0 E (by omega) rfl
    rw [badL_cons, if_pos (tB_true h1), if_pos h2]
    exact badL_drop r m fun j E' hj hE => h (j + 1) E' (by omega) hE
theorem badL_all {Es : List (List EntD)} (h : ∀ (j : Nat) (E : List EntD), Es[j]? = some E → AscK (keysOf E) ∧ (3 ≤ E.length ∧ E.length ≤ 6)) : badL Es = 0 := by
  rw [badL_drop Es Es.length fun j E _ hE => h j E hE, List.drop_length]
  rfl
theorem codeN_leaf {l : Tr.T 0} (h : IsLeaf l.2 l.1) (hb : ¬ goodN ⟨0, l⟩ false) (r : List (List EntD)) : codeN ⟨0, l⟩ false = badL (l.2 :: r) ∧ badL (l.2 :: r) ≠ 0 := by
  rw [badL_cons]
  unfold codeN
  by_cases hA : AscK (keysOf l.2)
  · have hF : ¬ (3 ≤ l.2.length ∧ l.2.length ≤ 6) := fun h2 => hb ((leaf_good h).2 ⟨hA, h2⟩)
    rw [if_pos (tB_true ((leaf_asc h).2 hA)), if_neg (by rw [tB_false (fun h3 => hF ((leaf_fill h).1 h3))]; decide), if_pos (tB_true hA), if_neg hF]
    exact ⟨rfl, by decide⟩
  · rw [if_neg (by rw [tB_false (fun h3 => hA ((leaf_asc h).1 h3))]; decide), if_neg (by rw [tB_false hA]; decide)]
    exact ⟨rfl, by decide⟩
theorem two_at {d : NodeD} {ls : List (Tr.T 0)} : ∀ j, j ≤ ls.length → BfsR (two d ls) (two d ls :: (two d ls).kids) (j + 1)
  | 0, _ => BfsR.step (Q := [two d ls]) .start rfl
  | j + 1, hj => by
    have h1 := two_at (d := d) (ls := ls) j (by omega)
    have h2 : (two d ls :: (two d ls).kids)[j + 1]? = some ⟨0, ls[j]⟩ := by
      show (two d ls).kids[j]? = _
      rw [two_kids, List.getElem?_map, List.getElem?_eq_getElem (by omega)]
      rfl
    have h3 := BfsR.step h1 h2
    rw [show (⟨0, ls[j]⟩ : AT).kids = [] from rfl, List.append_nil] at h3
    exact h3
theorem two_leaf {d : NodeD} {ls : List (Tr.T 0)} (h : Two d ls) (hall : AllGood (two d ls)) {j : Nat} {E : List EntD} (hE : (ls.map fun l => l.2)[j]? = some E) : AscK (keysOf E) ∧ (3 ≤ E.length ∧ E.length ≤ 6) := by
  rw [List.getElem?_map] at hE
  obtain ⟨l, hl, rfl⟩ := Option.map_eq_some_iff.1 hE
  have hj := (List.getElem?_eq_some_iff.1 hl).1
  refine (leaf_good (h.lf l (List.mem_of_getElem? hl))).1 (hall _ (j + 1) ⟨0, l⟩ (two_at j (by omega)) ?_)
  show (two d ls).kids[j]? = _
  rw [two_kids, List.getElem?_map, hl]
  rfl
theorem two_wrong {d : NodeD} {ls : List (Tr.T 0)} {n r : Int} (h : Two d ls) (hr : TreeR (two d ls) n (ls.map fun l => l.2).flatten r) : r = wrongP (ls.map fun l => l.2) d.Ks n := by
  have hlen : (ls.map fun l => l.2).length = ls.length := List.length_map ..
  unfold wrongP
  rcases hr with ⟨P, i, b, hP, hb, hprev, hbad, rfl⟩ | ⟨hall, rfl⟩
  · rcases two_bfs hP with ⟨rfl, rfl⟩ | ⟨hi, rfl⟩
    · obtain rfl := Option.some.inj hb
      rw [show (decide ((0 : Nat) = 0)) = true from rfl] at hbad ⊢
      unfold codeN
      rw [show (nd (two d ls).h (two d ls).t).Ks = d.Ks from rfl]
      by_cases hA : AscK d.Ks
      · rw [if_pos (tB_true hA), if_pos (tB_true hA)]
        by_cases hF : 2 ≤ ls.length ∧ ls.length ≤ 6
        · rw [if_pos (tB_true ((two_fill h).2 hF)), if_pos (by rw [hlen]; exact hF), if_neg (by rw [tB_false (fun h3 => hbad ((two_good h).2 ⟨hA, hF, h3⟩))]; decide)]
        · rw [if_neg (by rw [tB_false (fun h3 => hF ((two_fill h).1 h3))]; decide), if_neg (by rw [hlen]; exact hF)]
      · rw [if_neg (by rw [tB_false hA]; decide), if_neg (by rw [tB_false hA]; decide)]
    · obtain ⟨m, rfl⟩ : ∃ m, i = m + 1 := ⟨i - 1, by omega⟩
      have hroot := (two_good h).1 (hprev 0 (by omega) [two d ls] (two d ls) .start rfl)
      obtain ⟨hA, hF, hFs⟩ := hroot
      rw [if_pos (tB_true hA), if_pos (by rw [hlen]; exact hF), if_pos (tB_true hFs)]
      have hb' : (two d ls).kids[m]? = some b := hb
      rw [two_kids, List.getElem?_map] at hb'
      obtain ⟨l, hl, rfl⟩ := Option.map_eq_some_iff.1 hb'
      rw [show (decide (m + 1 = 0)) = false from rfl] at hbad ⊢
      have hlf := h.lf l (List.mem_of_getElem? hl)
      have hEl : (ls.map fun l => l.2)[m]? = some l.2 := by rw [List.getElem?_map, hl]; rfl
      have hdr : (ls.map fun l => l.2).drop m = l.2 :: (ls.map fun l => l.2).drop (m + 1) := by
        obtain ⟨q1, q2⟩ := List.getElem?_eq_some_iff.1 hEl
        rw [List.drop_eq_getElem_cons q1, q2]
      obtain ⟨c1, c2⟩ := codeN_leaf hlf hbad ((ls.map fun l => l.2).drop (m + 1))
      rw [badL_drop _ m (fun j E hj hE => by
        rw [List.getElem?_map] at hE
        obtain ⟨l', hl', rfl⟩ := Option.map_eq_some_iff.1 hE
        obtain ⟨P2, b2, S2, q1, q2, _⟩ := bfs_at hP (j + 1) (by omega)
        rcases two_bfs q1 with ⟨e, _⟩ | ⟨_, rfl⟩
        · omega
        · have q3 : (two d ls).kids[j]? = some b2 := q2
          rw [two_kids, List.getElem?_map, hl'] at q3
          obtain rfl := Option.some.inj q3
          exact (leaf_good (h.lf l' (List.mem_of_getElem? hl'))).1 (hprev (j + 1) (by omega) _ _ q1 q2)), hdr, if_neg c2]
      exact c1
  · have hroot := (two_good h).1 (hall [two d ls] 0 (two d ls) .start rfl)
    obtain ⟨hA, hF, hFs⟩ := hroot
    have hstep : BfsR (two d ls) ([two d ls] ++ (two d ls).kids) 1 := .step .start rfl
    rw [if_pos (tB_true hA), if_pos (by rw [hlen]; exact hF), if_pos (tB_true hFs), if_pos (badL_all fun j E hE => two_leaf h hall hE)]
    rfl
/-- If all is well, the entries are gone through as in any tree. -/
theorem two_end {d : NodeD} {ls : List (Tr.T 0)} (h : Two d ls) (hbd : ∀ l ∈ ls, ∀ e ∈ l.2, e.k.Bd) (hall : AllGood (two d ls)) :
    LvO (some (two d ls)) ⟨0, 0, 0⟩ ls ∧ UpTo maxK (rows ls) ∧ rows ls = (ls.map fun l => l.2).flatten ∧ win ⟨0, 0, 0⟩ maxK (rows ls) = (ls.map fun l => l.2).flatten := by
  have hroot := (two_good h).1 (hall [two d ls] 0 (two d ls) .start rfl)
  obtain ⟨hA, hF, hFs⟩ := hroot
  have hgl : ∀ l ∈ ls, AscK (keysOf l.2) ∧ (3 ≤ l.2.length ∧ l.2.length ≤ 6) := fun l hl => by
    obtain ⟨j, hj⟩ := List.getElem?_of_mem hl
    exact two_leaf h hall (j := j) (by rw [List.getElem?_map, hj]; rfl)
  have hKs : d.Ks = (ls.map (nd 0)).map fun x => x.Ks.getD 0 default := by
    refine List.ext_getElem? fun i => ?_
    by_cases hi : i < ls.length
    · obtain ⟨l, hl⟩ : ∃ l, ls[i]? = some l := ⟨ls[i], List.getElem?_eq_getElem hi⟩
      obtain ⟨h2, h3⟩ := lf_fst (h.lf l (List.mem_of_getElem? hl))
      obtain ⟨f1, f2⟩ := hFs i l.2 (by rw [List.getElem?_map, hl]; rfl)
      rw [List.getElem?_map, List.getElem?_map, hl]
      have hk : d.Ks[i]? = some (d.Ks.getD i default) := by
        rw [List.getD_eq_getElem?_getD, List.getElem?_eq_getElem (by rw [h.Kl]; exact hi)]
        rfl
      rw [hk, ← f2, ← h3 f1]
      rfl
    · rw [List.getElem?_eq_none (by rw [h.Kl]; omega), List.getElem?_eq_none (by rw [List.length_map, List.length_map]; omega)]
  have hok : Tr.Ok 1 ((d, ls) : NodeD × List (Tr.T 0)) := ⟨⟨h.ok, h.leaf, hKs, h.Vs, h.Cs, h.a⟩, (by show 0 < ls.length; omega), fun k hk => ⟨h.lf k hk, by have := (hgl k hk).2.1; omega⟩⟩
  have hrt : Tr.Root 1 ((d, ls) : NodeD × List (Tr.T 0)) := ⟨hF.1, hF.2, fun k hk => (hgl k hk).2⟩
  have hks : KsAsc 1 ((d, ls) : NodeD × List (Tr.T 0)) := ⟨hA, fun c hc => (leaf_asc (h.lf c hc)).2 (hgl c hc).1⟩
  have hlv : lvs 1 ((d, ls) : NodeD × List (Tr.T 0)) = ls := by
    show (ls.map (lvs 0)).flatten = ls
    have : ∀ l : List (Tr.T 0), (l.map (lvs 0)).flatten = l := fun l => by
      induction l with
      | nil => rfl
      | cons x l ih => show [x] ++ _ = _; rw [ih]; rfl
    exact this ls
  have hents : ents 1 ((d, ls) : NodeD × List (Tr.T 0)) = (ls.map fun l => l.2).flatten := rfl
  have hrows : rows ls = (ls.map fun l => l.2).flatten := rfl
  have hbe : ∀ e ∈ (ls.map fun l => l.2).flatten, e.k.Bd := fun e he => by
    obtain ⟨E, hE, heE⟩ := List.mem_flatten.1 he
    obtain ⟨l, hl, rfl⟩ := List.mem_map.1 hE
    exact hbd l hl e heE
  have hlf := lf_zero 1 ((d, ls) : NodeD × List (Tr.T 0)) hok hks (by rw [hents]; exact hbe)
  rw [hlv] at hlf
  refine ⟨⟨⟨hok, hrt, hks, st_der _⟩, (by show 1 ≤ 12; omega), hlf⟩, upTo_max fun e he => ?_, hrows, by rw [hrows]; exact win_all0 hbe⟩
  have hb := hbe e (by rw [← hrows]; exact he)
  have h1 := hb.v; have h2 := hb.b; have h3 := hb.s
  unfold klt maxK
  dsimp only
  omega
end Go.Proofs.YtaghmffgoomebaaGreat.Ck
namespace Go.Proofs.YtaghmffgoomebaaGreat.Ck
open Go.RowKit Mem Nd Gx Sk Tw Wk
open Tr hiding T row
set_option linter.unusedVariables false
set_option linter.unusedSimpArgs false
set_option maxRecDepth 100000
set_option maxHeartbeats 1000000
def mkL (d : NodeD) (E : List EntD) : Tr.T 0 := ((d, E) : NodeD × List EntD)
/-- What the law has made of the first leaves. -/
structure Mk (LS : List LfD) (i : Nat) (ls : List (Tr.T 0)) (K : List EntD) : Prop where
  le : i ≤ LS.length
  E : ls.map (fun l => l.2) = (LS.take i).map LfD.E
  lf : ∀ l ∈ ls, IsLeaf l.2 l.1
  sz : ∀ l ∈ ls, 1 ≤ l.2.length ∧ l.2.length ≤ 9
  K : keysOf K = ls.map fun l => fstK l.2
theorem Mk.len {LS : List LfD} {i : Nat} {ls : List (Tr.T 0)} {K : List EntD} (m : Mk LS i ls K) : ls.length = i ∧ K.length = i := by
  have h1 := congrArg List.length m.E
  rw [List.length_map, List.length_map, List.length_take] at h1
  have h2 := congrArg List.length m.K
  rw [List.length_map, List.length_map] at h2
  have := m.le
  exact ⟨by omega, by omega⟩
theorem Mk.next {LS : List LfD} {i : Nat} {ls : List (Tr.T 0)} {K : List EntD} (m : Mk LS i ls K) {x : LfD} {d : NodeD} {e : EntD} (hx : LS[i]? = some x) (hd : IsLeaf x.E d) (h19 : 1 ≤ x.E.length ∧ x.E.length ≤ 9) (he : x.E[0]? = some e) : Mk LS (i + 1) (ls ++ [mkL d x.E]) (K ++ [e]) := by
  obtain ⟨h1, h2⟩ := List.getElem?_eq_some_iff.1 hx
  refine ⟨h1, ?_, fun l hl => ?_, fun l hl => ?_, ?_⟩
  · rw [List.map_append, m.E, List.take_succ_eq_append_getElem h1, h2, List.map_append]
    rfl
  · rcases List.mem_append.1 hl with hl | hl
    · exact m.lf l hl
    · obtain rfl := List.mem_singleton.1 hl
      exact hd
  · rcases List.mem_append.1 hl with hl | hl
    · exact m.sz l hl
    · obtain rfl := List.mem_singleton.1 hl
      exact h19
  · have hf : fstK x.E = e.k := by
      obtain ⟨y, r, hyr, hyk⟩ := fstK_at (B := x.E) (by omega)
      rw [hyk]
      rw [hyr] at he
      rw [Option.some.inj he]
    show (K ++ [e]).map EntD.k = _
    rw [List.map_append, List.map_append]
    show keysOf K ++ [e.k] = ls.map _ ++ [fstK x.E]
    rw [m.K, hf]
theorem two_cnt {d : NodeD} {ls : List (Tr.T 0)} : (two d ls).cnt = 1 + ls.length := by
  rw [AT.cnt_eq, two_kids, List.map_map]
  congr 1
  induction ls with
  | nil => rfl
  | cons l r ih => rw [List.map_cons, List.sum_cons, ih, List.length_cons]; show 1 + _ = _; omega
theorem two_sz {d : NodeD} {ls : List (Tr.T 0)} (h : Two d ls) (hl : ls.length ≤ 9) (h9 : ∀ l ∈ ls, l.2.length ≤ 9) {P : List AT} {i : Nat} (hP : BfsR (two d ls) P i) : ∀ q ∈ P, (nd q.h q.t).Ks.length ≤ 1000 ∧ (nd q.h q.t).Vs.length ≤ 1000 := by
  have h1 : ∀ q, q = two d ls ∨ q ∈ (two d ls).kids → (nd q.h q.t).Ks.length ≤ 1000 ∧ (nd q.h q.t).Vs.length ≤ 1000 := fun q hq => by
    rcases hq with rfl | hq
    · show d.Ks.length ≤ 1000 ∧ d.Vs.length ≤ 1000
      rw [h.Kl, h.Vs]
      exact ⟨by omega, Nat.zero_le _⟩
    · rw [two_kids] at hq
      obtain ⟨l, hl', rfl⟩ := List.mem_map.1 hq
      have h2 := h.lf l hl'
      have h3 := h9 l hl'
      show l.1.Ks.length ≤ 1000 ∧ l.1.Vs.length ≤ 1000
      rw [h2.Ks, h2.Vs, List.length_map, List.length_map]
      omega
  intro q hq
  rcases two_bfs hP with ⟨_, rfl⟩ | ⟨_, rfl⟩
  · exact h1 q (.inl (List.mem_singleton.1 hq))
  · rcases List.mem_cons.1 hq with rfl | hq
    · exact h1 _ (.inl rfl)
    · exact h1 q (.inr hq)
theorem der_two (d : NodeD) (ls : List (Tr.T 0)) : Der [nodeF d, allF (ls.map (nd 0)) nodeF] (stF (some (two d ls))) :=
  (der_st (two d ls)).trans fun ψ hψ => by
    obtain rfl := List.mem_singleton.1 hψ
    refine der_mk (Der.mem (.head _)) (Der.all fun l hl => ?_)
    exact Der.elem (L := ls.map (nd 0)) (F := nodeF) (x := nd 0 l) (Der.mem (.tail _ (.head _))) (List.mem_map.2 ⟨l, hl, rfl⟩)
theorem der_nil (A : Option Addr) : Der [] (sl A 1 (IE .u32) ([] : List Int)) := ⟨fun w _ => Sl.nil, fun b hb => absurd hb.1 (by simp)⟩
theorem two_fin {d : NodeD} {ls : List (Tr.T 0)} (h : Two d ls) (hbd : ∀ l ∈ ls, ∀ e ∈ l.2, e.k.Bd) (h9 : ∀ l ∈ ls, l.2.length ≤ 9) (hl : ls.length ≤ 9) (hall : AllGood (two d ls)) :
    LvO (some (two d ls)) ⟨0, 0, 0⟩ ls ∧ UpTo maxK (rows ls) ∧ (rows ls).length ≤ 10000 ∧ win ⟨0, 0, 0⟩ maxK (rows ls) = (ls.map fun l => l.2).flatten := by
  obtain ⟨e1, e2, e3, e4⟩ := two_end h hbd hall
  refine ⟨e1, e2, ?_, e4⟩
  rw [e3]
  have := flat_le (ls.map fun l => l.2) fun E hE => by
    obtain ⟨l, hl', rfl⟩ := List.mem_map.1 hE
    exact h9 l hl'
  rw [List.length_map] at this
  omega
end Go.Proofs.YtaghmffgoomebaaGreat.Ck
namespace Go.Proofs.YtaghmffgoomebaaGreat.St
open Go.RowKit Mem Gx Bytes Dk Al Rf Hp Nd Ch
set_option linter.unusedVariables false
set_option linter.unusedSimpArgs false
set_option maxRecDepth 100000
set_option maxHeartbeats 1000000
theorem IsLeafA.leafOf {b : Int} {L : List EntD} {d : NodeD} (h : IsLeafA b L d) : IsLeaf L d := ⟨h.ok, h.leaf, h.Ks, h.Vs, h.Cs, rfl⟩
theorem RtI.two {b c1 c2 : Nat} {s : LdS} {e1 e2 : EntD} {L1 L2 : List EntD} {x : RtD} (h : RtI b c1 c2 s [e1, e2] L1 L2 x) : Ck.Two x.d [Ck.mkL x.d1 L1, Ck.mkL x.d2 L2] :=
  ⟨h.ok, h.leaf, h.Vs, h.Cs, rfl, by rw [h.Ks]; rfl, fun l hl => by
    rcases List.mem_cons.1 hl with rfl | hl
    · exact h.k1.leafOf
    · obtain rfl := List.mem_singleton.1 hl
      exact h.k2.leafOf⟩
theorem RtD.rd {w : World} {x : RtD} {L1 L2 : List EntD} (h : Rd1 w (packF (x.d.fs ++ (x.d1.fs ++ x.d2.fs)))) : Rd1 w (Tw.stF (some (Ck.two x.d [Ck.mkL x.d1 L1, Ck.mkL x.d2 L2]))) :=
  (Ck.der_two x.d [Ck.mkL x.d1 L1, Ck.mkL x.d2 L2]).rd fun ψ hψ => by
    have k : ∀ d : NodeD, (∀ φ, φ ∈ d.fs → φ ∈ x.d.fs ++ (x.d1.fs ++ x.d2.fs)) → Der (x.d.fs ++ (x.d1.fs ++ x.d2.fs)) (nodeF d) := fun d hd => Der.all fun φ hφ => Der.mem (hd φ hφ)
    rcases List.mem_cons.1 hψ with rfl | hψ
    · exact (k x.d fun φ hφ => List.mem_append_left _ hφ).rd fun ψ hψ => h.unpack hψ
    · obtain rfl := List.mem_singleton.1 hψ
      refine Der.rd (l := x.d.fs ++ (x.d1.fs ++ x.d2.fs)) (Der.all fun d hd => ?_) fun ψ hψ => h.unpack hψ
      rcases List.mem_cons.1 hd with rfl | hd
      · exact k x.d1 fun φ hφ => List.mem_append_right _ (List.mem_append_left _ hφ)
      · obtain rfl := List.mem_singleton.1 hd
        exact k x.d2 fun φ hφ => List.mem_append_right _ (List.mem_append_right _ hφ)
theorem ck_two (b c1 c2 t : Nat) (s' : LdS) (x : RtD) (e1 e2 : EntD) (L1 L2 : List EntD) (w : World) (hx : RtI b c1 c2 s' [e1, e2] L1 L2 x) (h1 : L1.length ≤ 6) (h2 : L2.length ≤ 6) (b1 : ∀ e ∈ L1, e.k.Bd) (b2 : ∀ e ∈ L2, e.k.Bd) (ht : Rd1 w (blk t [x.d.ptr, .int .i64 ((L1.length : Int) + (L2.length : Int))] 55)) (hF : Rd1 w (packF (x.d.fs ++ (x.d1.fs ++ x.d2.fs)))) :
    Calls Tryz.prog 32 [.pointer (some ⟨t, 0, none⟩)].toArray w fun e w' => e = .returned (.int .i64 (Ck.wrongP [L1, L2] [e1.k, e2.k] ((L1.length : Int) + (L2.length : Int)))) ∧ Below w.heap.size w w' := by
  have hT := hx.two
  have hB : ∀ l ∈ [Ck.mkL x.d1 L1, Ck.mkL x.d2 L2], ∀ e ∈ l.2, e.k.Bd := fun l hl => by
    rcases List.mem_cons.1 hl with rfl | hl
    · exact b1
    · obtain rfl := List.mem_singleton.1 hl
      exact b2
  have h9 : ∀ l ∈ [Ck.mkL x.d1 L1, Ck.mkL x.d2 L2], l.2.length ≤ 9 := fun l hl => by
    rcases List.mem_cons.1 hl with rfl | hl
    · exact Nat.le_trans h1 (by decide)
    · obtain rfl := List.mem_singleton.1 hl
      exact Nat.le_trans h2 (by decide)
  have hl9 : [Ck.mkL x.d1 L1, Ck.mkL x.d2 L2].length ≤ 9 := by simp
  refine (Ck.ctree_any (Ck.two x.d [Ck.mkL x.d1 L1, Ck.mkL x.d2 L2]) t ((L1.length : Int) + (L2.length : Int)) ⟨0, 0, 0⟩ Wk.maxK [Ck.mkL x.d1 L1, Ck.mkL x.d2 L2] ([Ck.mkL x.d1 L1, Ck.mkL x.d2 L2].map fun l => l.2).flatten w rfl rfl hT.wok (by show 1 ≤ 12; omega) (by rw [Ck.two_cnt]; show 1 + 2 ≤ 10000; omega) (fun P i hP => Ck.two_sz hT hl9 h9 hP) (fun hall => Ck.two_fin hT hB h9 hl9 hall) ht (RtD.rd hF)).mono ?_
  rintro e w' ⟨r, hr, he, hf⟩
  have hw := Ck.two_wrong hT hr
  refine ⟨?_, hf.bel⟩
  rw [he, hw, hx.Ks]
  rfl
theorem keysD {L : List EntD} {i : Nat} (h : i < L.length) : (Tr.keysOf L).getD i default = (L.getD i default).k := by
  have e : L[i]? = some (L.getD i default) := by
    rw [List.getD_eq_getElem?_getD, List.getElem?_eq_getElem h]
    rfl
  exact Ck.keys_at e
theorem asc_iff {L : List EntD} : AscK (Tr.keysOf L) ↔ Asc L := by
  constructor
  · intro h i h0 hi
    have k := h (i - 1) i (by omega) (by rw [Ck.keys_len]; exact hi)
    rwa [keysD hi, keysD (by omega)] at k
  · intro h i j hij hj
    rw [Ck.keys_len] at hj
    rw [keysD hj, keysD (by omega)]
    have k := asc_lt h (j - i - 1) i (by omega)
    rwa [show i + (j - i - 1) + 1 = j by omega] at k
theorem bad_zero {Es : List (List EntD)} : Ck.badL Es = 0 ↔ ∀ E ∈ Es, AscK (Tr.keysOf E) ∧ (3 ≤ E.length ∧ E.length ≤ 6) := by
  induction Es with
  | nil => exact ⟨fun _ E hE => (by cases hE), fun _ => rfl⟩
  | cons E r ih =>
    rw [Ck.badL_cons]
    by_cases hA : AscK (Tr.keysOf E)
    · rw [if_pos (tB_true hA)]
      by_cases hn : 3 ≤ E.length ∧ E.length ≤ 6
      · rw [if_pos hn, ih]
        exact ⟨fun h X hX => by
          rcases List.mem_cons.1 hX with rfl | hX
          · exact ⟨hA, hn⟩
          · exact h X hX, fun h X hX => h X (.tail _ hX)⟩
      · rw [if_neg hn]
        exact ⟨fun h => absurd h (by decide), fun h => absurd (h E (.head _)).2 hn⟩
    · rw [if_neg (by rw [tB_false hA]; decide)]
      exact ⟨fun h => absurd h (by decide), fun h => absurd (h E (.head _)).1 hA⟩
theorem wrong_zero {Es : List (List EntD)} {Ks : List KeyD} {n : Int} : Ck.wrongP Es Ks n = 0 ↔ AscK Ks ∧ (2 ≤ Es.length ∧ Es.length ≤ 6) ∧ Ck.FstP Es Ks ∧ Ck.badL Es = 0 ∧ AscK (Tr.keysOf Es.flatten) ∧ (Es.flatten.length : Int) = n := by
  unfold Ck.wrongP
  by_cases h1 : AscK Ks
  · rw [if_pos (tB_true h1)]
    by_cases h2 : 2 ≤ Es.length ∧ Es.length ≤ 6
    · rw [if_pos h2]
      by_cases h3 : Ck.FstP Es Ks
      · rw [if_pos (tB_true h3)]
        by_cases h4 : Ck.badL Es = 0
        · rw [if_pos h4]
          by_cases h5 : AscK (Tr.keysOf Es.flatten)
          · rw [if_pos (tB_true h5)]
            by_cases h6 : (Es.flatten.length : Int) = n
            · rw [if_pos h6]
              exact ⟨fun _ => ⟨h1, h2, h3, h4, h5, h6⟩, fun _ => rfl⟩
            · rw [if_neg h6]
              exact ⟨fun h => absurd h (by decide), fun h => absurd h.2.2.2.2.2 h6⟩
          · rw [if_neg (by rw [tB_false h5]; decide)]
            exact ⟨fun h => absurd h (by decide), fun h => absurd h.2.2.2.2.1 h5⟩
        · rw [if_neg h4]
          exact ⟨fun h => absurd h h4, fun h => absurd h.2.2.2.1 h4⟩
      · rw [if_neg (by rw [tB_false h3]; decide)]
        exact ⟨fun h => absurd h (by decide), fun h => absurd h.2.2.1 h3⟩
    · rw [if_neg h2]
      exact ⟨fun h => absurd h (by decide), fun h => absurd h.2.1 h2⟩
  · rw [if_neg (by rw [tB_false h1]; decide)]
    exact ⟨fun h => absurd h (by decide), fun h => absurd h.1 h1⟩
theorem ascK_two {x y : KeyD} (h : klt x y) : AscK [x, y] := fun i j hij hj => by
  have hj2 : j < 2 := hj
  obtain rfl : j = 1 := by omega
  obtain rfl : i = 0 := by omega
  exact h
/-- When a root above two leaves is well. -/
theorem two_code {a r : List EntD} {e1 e2 : EntD} (ha : 3 ≤ a.length ∧ a.length ≤ 6) (hr : r.length ≤ 6) (hk : klt e1.k e2.k) (h1 : Tr.fstK a = e1.k) :
    Ck.wrongP [a, r] [e1.k, e2.k] ((a.length : Int) + (r.length : Int)) = 0 ↔ 3 ≤ r.length ∧ Tr.fstK r = e2.k ∧ Asc (a ++ r) := by
  rw [wrong_zero, bad_zero]
  have hfl : [a, r].flatten = a ++ r := by simp
  rw [hfl, asc_iff]
  constructor
  · rintro ⟨_, _, hF, hB, hA, _⟩
    exact ⟨(hB r (.tail _ (.head _))).2.1, (hF 1 r rfl).2, hA⟩
  · rintro ⟨h3, hF, hA⟩
    refine ⟨ascK_two hk, ⟨by simp, by simp⟩, fun i E hE => ?_, fun E hE => ?_, hA, by rw [List.length_append]; omega⟩
    · match i, hE with
      | 0, hE =>
        obtain rfl := Option.some.inj hE
        exact ⟨by omega, h1⟩
      | 1, hE =>
        obtain rfl := Option.some.inj hE
        exact ⟨by omega, hF⟩
    · rcases List.mem_cons.1 hE with rfl | hE
      · exact ⟨asc_iff.2 (asc_left hA), ha⟩
      · obtain rfl := List.mem_singleton.1 hE
        exact ⟨asc_iff.2 (asc_right hA), h3, hr⟩
end Go.Proofs.YtaghmffgoomebaaGreat.St
