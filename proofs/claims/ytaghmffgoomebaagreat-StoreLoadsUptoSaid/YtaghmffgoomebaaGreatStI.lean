/- A sector that is no leaf, in place of a leaf's: it is not loaded. The bytes of a node are read as what it was. A node's sector, read back; what Load says of blocks 1, 2, 3. -/
import Derived.Test.YtaghmffgoomebaaGreatStD
import Derived.Test.YtaghmffgoomebaaGreatNd3
import Derived.Test.YtaghmffgoomebaaGreatNd4
namespace Go.Proofs.YtaghmffgoomebaaGreat.St
open Go.RowKit Mem Gx Bytes Dk Al Rf Hp Nd Ch
set_option linter.unusedVariables false
set_option linter.unusedSimpArgs false
set_option maxRecDepth 100000
set_option maxHeartbeats 4000000
theorem num_bd : ∀ {l : List Int}, IsB l → 0 ≤ num l ∧ num l < 256 ^ l.length
  | [], _ => ⟨Int.le_refl _, by simp [num]⟩
  | c :: l, h => by
    obtain ⟨h1, h2⟩ := num_bd (l := l) (fun x hx => h x (.tail _ hx))
    have hc := h c (.head _)
    have e : (256 : Int) ^ (c :: l).length = 256 * 256 ^ l.length := by rw [List.length_cons, Int.pow_succ, Int.mul_comm]
    rw [e]
    show 0 ≤ c + 256 * num l ∧ c + 256 * num l < 256 * 256 ^ l.length
    constructor
    · omega
    · generalize (256 : Int) ^ l.length = z at h2 ⊢
      omega
theorem ncode_zero : ncode zsec = 21 := by
  have h : Page.getS zsec = (0, [], 21) := by
    unfold Page.getS
    rw [if_neg (by simp), if_pos (.inl (by simp))]
  rw [ncode_of h]
  exact nc_err (by decide)
/-- What a node's sector says. -/
structure NodeS (X : List Int) : Prop where
  k : (Page.getS X).1 = 3 ∨ (Page.getS X).1 = 4
  n : 1 ≤ (entsOf X).length
  a : (Page.getS X).1 = 4 → ∀ (i : Nat) (e : EntD), (entsOf X)[i]? = some e → e.a ≠ 0
  asc : ∀ (i : Nat), 0 < i → i < (entsOf X).length → klt ((entsOf X).getD (i - 1) default).k ((entsOf X).getD i default).k
theorem node_of {X : List Int} (hB : IsB X) (h : ncode X = 0) : NodeS X := by
  obtain ⟨k, B, e, hg⟩ : ∃ k B e, Page.getS X = (k, B, e) := ⟨_, _, _, rfl⟩
  have hBB : IsB B := by have := (getS_bd hB).1; rwa [hg] at this
  have hn := ncode_of hg
  rw [h] at hn
  have he : e = 0 := by
    by_cases he : e = 0
    · exact he
    · rw [nc_err he] at hn; exact absurd hn.symm he
  subst he
  have hk : k = 3 ∨ k = 4 := by
    by_cases hk : k = 3 ∨ k = 4
    · exact hk
    · rw [nc_kind hk] at hn; exact absurd hn (by decide)
  have hl : ¬ B.length < 1 + 18 * nB B := fun hl => by rw [nc_short hk hl] at hn; exact absurd hn (by decide)
  rw [nc_full hk hl] at hn
  by_cases hbad : 1 + 18 * nB B < B.length ∨ manyB B = 0 ∨ 6 < manyB B ∨ tB (∃ i, i < nB B ∧ badP k (decN B (nB B)) i) = true
  · rw [if_pos hbad] at hn; exact absurd hn (by decide)
  have hm0 : manyB B ≠ 0 := fun h => hbad (.inr (.inl h))
  have hnb : ¬ ∃ i, i < nB B ∧ badP k (decN B (nB B)) i := fun h => hbad (.inr (.inr (.inr (tB_true h))))
  have hE : entsOf X = decN B (nB B) := by unfold entsOf; rw [hg]
  have hel : (entsOf X).length = nB B := by rw [hE, decN_len]
  have hm : 0 ≤ manyB B := (num_bd (hBB.take 1)).1
  refine ⟨by rw [hg]; exact hk, by rw [hel]; unfold nB; omega, fun hk4 i e hi => ?_, fun i h0 hi => ?_⟩
  · rw [hg] at hk4
    have hi2 := (List.getElem?_eq_some_iff.1 hi).1
    intro h0
    refine hnb ⟨i, by omega, .inr ⟨hk4, ?_⟩⟩
    rw [← hE, List.getD_eq_getElem?_getD, hi]
    exact h0
  · rw [hE]
    refine Classical.byContradiction fun hc => hnb ⟨i, by omega, .inl ⟨h0, hc⟩⟩
theorem ent_bd {X : List Int} (hB : IsB X) {i : Nat} {e : EntD} (h : (entsOf X)[i]? = some e) : 0 ≤ e.a ∧ e.a ≤ 4294967295 := by
  have hBB := (getS_bd hB).1
  unfold entsOf decN at h
  rw [List.getElem?_map] at h
  obtain ⟨j, hj, rfl⟩ : ∃ j, (List.range (nB (Page.getS X).2.1))[i]? = some j ∧ entAt (Page.getS X).2.1 (1 + 18 * j) = e := by
    cases hq : (List.range (nB (Page.getS X).2.1))[i]? with
    | none => rw [hq] at h; cases h
    | some j => rw [hq] at h; exact ⟨j, rfl, Option.some.inj h⟩
  show 0 ≤ num _ ∧ num _ ≤ 4294967295
  obtain ⟨h1, h2⟩ := num_bd ((hBB.drop (1 + 18 * j + 14)).take 4)
  have h3 : (((Page.getS X).2.1.drop (1 + 18 * j + 14)).take 4).length ≤ 4 := by rw [List.length_take]; omega
  refine ⟨h1, ?_⟩
  have h4 : (256 : Int) ^ (((Page.getS X).2.1.drop (1 + 18 * j + 14)).take 4).length ≤ 256 ^ 4 := by
    generalize (((Page.getS X).2.1.drop (1 + 18 * j + 14)).take 4).length = m at h3
    rcases m with _ | _ | _ | _ | _ | m
    · decide
    · decide
    · decide
    · decide
    · decide
    · omega
  have h5 : (256 : Int) ^ 4 = 4294967296 := by decide
  omega
theorem lload_spoilt (g : Nat) (sv lv : Value) (S : List SecD) (W : List WrD) (hD : DkOk S W) (hW : W.length ≤ 100000) (hSl : S.length = 100) (hX : SecOk (dread (S.map SecD.L) (W.map WrD.c) (2 + 4 + 1)))
    (hz : ∀ a : Nat, 4 ≤ a → a ≤ 94 → dread (S.map SecD.L) (W.map WrD.c) (a + 4 + 1) = zsec) (hnl : ¬ (ncode (dread (S.map SecD.L) (W.map WrD.c) (2 + 4 + 1)) = 0 ∧ (Page.getS (dread (S.map SecD.L) (W.map WrD.c) (2 + 4 + 1))).1 = 3)) :
    ∃ er : Int, er ≠ 0 ∧ (ncode (dread (S.map SecD.L) (W.map WrD.c) (2 + 4 + 1)) ≠ 0 → er = ncode (dread (S.map SecD.L) (W.map WrD.c) (2 + 4 + 1))) ∧ ∀ (lb : Nat) (s' : LdS) (w : World), s'.U = [] ++ [((3 : Nat) : Int)] ++ [((1 : Nat) : Int)] → MapIs s'.M (uV s'.U) → Rd1 w (dkF g ⟨sv, lv, S, W⟩) → (∀ x, (packF (ldL lb g s')).S x → ¬ (dkF g ⟨sv, lv, S, W⟩).S x) → Rd1 w (packF (ldL lb g s')) → Calls Tryz.prog 30 [.pointer (some ⟨lb, 0, none⟩), .int .u32 ((2 : Nat) : Int), .int .i64 (16 - 1)].toArray w (RetF (packF (ldL lb g s')) er w) := by
  have hn2 : ¬ (((2 : Nat) : Int) ∈ [] ++ [((3 : Nat) : Int)] ++ [((1 : Nat) : Int)]) := by decide
  by_cases hc : ncode (dread (S.map SecD.L) (W.map WrD.c) (2 + 4 + 1)) = 0
  · have hk : (Page.getS (dread (S.map SecD.L) (W.map WrD.c) (2 + 4 + 1))).1 ≠ 3 := fun h => hnl ⟨hc, h⟩
    obtain ⟨k1, k2, k3, _⟩ := node_of hX.2 hc
    have hk4 : (Page.getS (dread (S.map SecD.L) (W.map WrD.c) (2 + 4 + 1))).1 = 4 := k1.resolve_left hk
    obtain ⟨e0, he0⟩ : ∃ e, (entsOf (dread (S.map SecD.L) (W.map WrD.c) (2 + 4 + 1)))[0]? = some e := ⟨(entsOf (dread (S.map SecD.L) (W.map WrD.c) (2 + 4 + 1)))[0]'(by omega), List.getElem?_eq_getElem (by omega)⟩
    obtain ⟨b1, b2⟩ := ent_bd hX.2 he0
    have b3 := k3 hk4 0 e0 he0
    obtain ⟨cb, hcb⟩ := Int.eq_ofNat_of_zero_le b1
    by_cases hs : cb = 1 ∨ cb = 2 ∨ cb = 3
    · refine ⟨21, by decide, fun h => absurd hc h, fun lb s' w hU hM hdk hdis h => ?_⟩
      exact lload_kid lb g 2 cb (16 - 1) 21 s' e0 sv lv S W w hM (by rw [hU]; exact hn2) (by decide) ⟨by decide, by decide⟩ (by decide) (by omega) hD hW hX hc hk he0 hcb (by decide) (.inl ⟨by rw [hU]; rcases hs with rfl | rfl | rfl <;> decide, rfl⟩) hdk hdis h
    · have hni : ∀ s' : LdS, s'.U = [] ++ [((3 : Nat) : Int)] ++ [((1 : Nat) : Int)] → ¬ (cb : Int) ∈ s'.U ++ [((2 : Nat) : Int)] := fun s' hU hm => by
        rw [hU] at hm
        simp only [List.nil_append, List.mem_append, List.mem_singleton] at hm
        omega
      by_cases h94 : 94 < cb
      · refine ⟨11, by decide, fun h => absurd hc h, fun lb s' w hU hM hdk hdis h => ?_⟩
        exact lload_kid lb g 2 cb (16 - 1) 11 s' e0 sv lv S W w hM (by rw [hU]; exact hn2) (by decide) ⟨by decide, by decide⟩ (by decide) (by omega) hD hW hX hc hk he0 hcb (by decide) (.inr fun s2 w hU2 hM2 hdk2 hdis2 h2 => lload_far lb g cb (16 - 1 - 1) s2 sv lv S W w (by rw [hU2]; exact hM2) (by rw [hU2]; exact hni s' hU) (by decide) (by omega) (by omega) (by omega) hdk2 hdis2 h2) hdk hdis h
      · have hzc := hz cb (by omega) (by omega)
        refine ⟨21, by decide, fun h => absurd hc h, fun lb s' w hU hM hdk hdis h => ?_⟩
        exact lload_kid lb g 2 cb (16 - 1) 21 s' e0 sv lv S W w hM (by rw [hU]; exact hn2) (by decide) ⟨by decide, by decide⟩ (by decide) (by omega) hD hW hX hc hk he0 hcb (by decide) (.inr fun s2 w hU2 hM2 hdk2 hdis2 h2 => by
          have hb := lload_bad lb g cb (16 - 1 - 1) s2 sv lv S W w (by rw [hU2]; exact hM2) (by rw [hU2]; exact hni s' hU) (by decide) (by omega) (by omega) hD hW (by rw [hzc]; exact zsec_ok) (by rw [hzc, ncode_zero]; decide) hdk2 hdis2 h2
          rw [hzc, ncode_zero] at hb
          exact hb) hdk hdis h
  · refine ⟨ncode (dread (S.map SecD.L) (W.map WrD.c) (2 + 4 + 1)), hc, fun _ => rfl, fun lb s' w hU hM hdk hdis h => ?_⟩
    exact lload_bad lb g 2 (16 - 1) s' sv lv S W w hM (by rw [hU]; exact hn2) (by decide) (by decide) (by omega) hD hW hX hc hdk hdis h
end Go.Proofs.YtaghmffgoomebaaGreat.St
namespace Go.Proofs.YtaghmffgoomebaaGreat.Nd
open Go.RowKit Mem Gx Rd Bytes
set_option linter.unusedVariables false
set_option linter.unusedSimpArgs false
theorem num_le_take {n : Int} {k : Nat} (R : List Int) (h0 : 0 ≤ n) (h1 : n < 256 ^ k) : num ((le n k ++ R).take k) = n := by
  rw [List.take_left' (le_length _ _), num_le n h0 k, Int.emod_eq_of_lt h0 h1]
theorem drop_more {B X R : List Int} {o k : Nat} (h : B.drop o = X ++ R) (hk : X.length = k) : B.drop (o + k) = R := by
  have : B.drop (o + k) = (B.drop o).drop k := by rw [List.drop_drop]
  rw [this, h]
  exact List.drop_left' hk
theorem entAt_of {B R : List Int} {o : Nat} {y : EntD} (hy : y.Bd) (h : B.drop o = entB y ++ R) : entAt B o = y := by
  obtain ⟨⟨y1, y2, y3⟩, y4⟩ := hy
  have h0 : B.drop o = le y.k.v 2 ++ (le y.k.b 4 ++ (le y.k.s 8 ++ (le y.a 4 ++ R))) := by
    rw [h]; unfold entB keyB; simp only [List.append_assoc]
  have h2 := drop_more h0 (le_length _ _)
  have h3 := drop_more h2 (le_length _ _)
  have h4 := drop_more h3 (le_length _ _)
  have e14 : o + 14 = o + 2 + 4 + 8 := by omega
  unfold entAt keyAt
  rw [e14, h0, h2, h3, h4, num_le_take _ y1.1 (by omega), num_le_take _ y2.1 (by omega), num_le_take _ y3.1 (by omega), num_le_take _ y4.1 (by omega)]
theorem drop_entsB (L : List EntD) : ∀ i, (entsB L).drop (18 * i) = entsB (L.drop i) := by
  induction L with
  | nil => intro i; simp [entsB]
  | cons x r ih =>
    intro i
    rcases i with _ | i
    · rfl
    · have : entsB (x :: r) = entB x ++ entsB r := rfl
      rw [this, List.drop_succ_cons, ← ih i, show 18 * (i + 1) = (entB x).length + 18 * i by rw [entB_len]; omega]
      rw [← List.drop_drop, List.drop_left]
theorem drop_nodeB {L : List EntD} {i : Nat} {y : EntD} (h : L[i]? = some y) : (nodeB L).drop (1 + 18 * i) = entB y ++ entsB (L.drop (i + 1)) := by
  have hi : i < L.length := by
    rcases Nat.lt_or_ge i L.length with h1 | h1
    · exact h1
    · rw [List.getElem?_eq_none h1] at h; cases h
  rw [List.getElem?_eq_getElem hi] at h
  injection h with h
  have e : (nodeB L).drop (1 + 18 * i) = (entsB L).drop (18 * i) := by
    unfold nodeB
    rw [Nat.add_comm]
    rfl
  rw [e, drop_entsB, List.drop_eq_getElem_cons hi, h]
  rfl
theorem decN_nodeB {L : List EntD} (hb : ∀ e ∈ L, e.Bd) : decN (nodeB L) L.length = L := by
  refine List.ext_getElem? fun i => ?_
  rcases Nat.lt_or_ge i L.length with h | h
  · have hy : L[i]? = some L[i] := List.getElem?_eq_getElem h
    unfold decN
    rw [List.getElem?_map, List.getElem?_range h, Option.map_some, entAt_of (hb _ (List.getElem_mem h)) (drop_nodeB hy), hy]
  · rw [List.getElem?_eq_none h, List.getElem?_eq_none (by rw [decN_len]; exact h)]
theorem manyB_nodeB (L : List EntD) : manyB (nodeB L) = L.length := by
  unfold manyB nodeB
  simp [num]
theorem nB_nodeB {L : List EntD} (h : L.length ≤ 6) : nB (nodeB L) = L.length := by
  unfold nB
  rw [manyB_nodeB, Int.toNat_natCast]
  omega
theorem ncode_nodeB {L : List EntD} {k : Int} (hk : k = 3 ∨ k = 4) (hb : ∀ e ∈ L, e.Bd) (h1 : 1 ≤ L.length) (h6 : L.length ≤ 6) (ha : Asc L) (hn : k = 4 → ∀ e ∈ L, e.a ≠ 0) : ncode (Page.page k (nodeB L)) = 0 := by
  rw [ncode_of (Page.getS_page (by omega) (by omega) (by rw [nodeB_len]; omega)), nc_full hk (by rw [nodeB_len, nB_nodeB h6]; omega), manyB_nodeB, nB_nodeB h6, nodeB_len, decN_nodeB hb, if_neg]
  rintro (h | h | h | h)
  · omega
  · omega
  · omega
  · obtain ⟨i, hi, hx⟩ := tB_iff.1 h
    rcases hx with ⟨h0, hx⟩ | ⟨h4, hx⟩
    · exact hx (ha i h0 hi)
    · rw [List.getD_eq_getElem?_getD, List.getElem?_eq_getElem hi] at hx
      exact hn h4 _ (List.getElem_mem hi) hx
end Go.Proofs.YtaghmffgoomebaaGreat.Nd
namespace Go.Proofs.YtaghmffgoomebaaGreat.St
open Go.RowKit Mem Gx Bytes Dk Al Rf Hp Nd Ch
set_option linter.unusedVariables false
set_option linter.unusedSimpArgs false
set_option maxRecDepth 100000
set_option maxHeartbeats 4000000
/-- A sector that is a node's. -/
structure PgOf (k : Int) (L : List EntD) (X : List Int) : Prop where
  ok : SecOk X
  c : ncode X = 0
  k : (Page.getS X).1 = k
  e : entsOf X = L
theorem page_node {L : List EntD} {k : Int} (hk : k = 3 ∨ k = 4) (hb : ∀ e ∈ L, e.Bd) (h1 : 1 ≤ L.length) (h6 : L.length ≤ 6) (ha : Asc L) (hn : k = 4 → ∀ e ∈ L, e.a ≠ 0) : PgOf k L (Page.page k (nodeB L)) := by
  have hl : (nodeB L).length = 1 + 18 * L.length := nodeB_len L
  have hg : Page.getS (Page.page k (nodeB L)) = (k, nodeB L, 0) := Page.getS_page (by omega) (by omega) (by omega)
  refine ⟨⟨Page.page_length (by omega), Page.page_isB (by omega) (by omega) (nodeB_isB L (by omega))⟩, ncode_nodeB hk hb h1 h6 ha hn, by rw [hg], ?_⟩
  unfold entsOf
  rw [hg]
  dsimp only
  rw [nB_nodeB h6]
  exact decN_nodeB hb
/-- Entries that rise, in a sector that is a node's. -/
theorem NodeS.rise {X : List Int} (h : NodeS X) : Asc (entsOf X) := h.asc
/-- A root's two entries. -/
theorem two_asc {x y : EntD} (h : klt x.k y.k) : Asc [x, y] := fun i h0 hi => by
  obtain rfl : i = 1 := by simp at hi; omega
  exact h
theorem klt_trans {x y z : KeyD} (h : klt x y) (h' : klt y z) : klt x z := by
  unfold klt at *
  omega
/-- Rising: any two in order. -/
theorem asc_lt {L : List EntD} (h : Asc L) : ∀ (d i : Nat), i + d + 1 < L.length → klt (L.getD i default).k (L.getD (i + d + 1) default).k
  | 0, i, hi => h (i + 1) (Nat.succ_pos _) hi
  | d + 1, i, hi => klt_trans (asc_lt h d i (by omega)) (h (i + (d + 1) + 1) (Nat.succ_pos _) hi)
theorem getD_l (L M : List EntD) (d : EntD) (i : Nat) (h : i < L.length) : (L ++ M).getD i d = L.getD i d := by
  rw [List.getD_eq_getElem?_getD, List.getD_eq_getElem?_getD, List.getElem?_append_left h]
theorem getD_r (L M : List EntD) (d : EntD) (i : Nat) (h : L.length ≤ i) : (L ++ M).getD i d = M.getD (i - L.length) d := by
  rw [List.getD_eq_getElem?_getD, List.getD_eq_getElem?_getD, List.getElem?_append_right h]
theorem asc_left {L M : List EntD} (h : Asc (L ++ M)) : Asc L := fun i h0 hi => by
  have := h i h0 (by rw [List.length_append]; omega)
  rwa [getD_l _ _ _ _ hi, getD_l _ _ _ _ (by omega)] at this
theorem asc_right {L M : List EntD} (h : Asc (L ++ M)) : Asc M := fun i h0 hi => by
  have := h (L.length + i) (by omega) (by rw [List.length_append]; omega)
  rwa [getD_r _ _ _ _ (by omega), getD_r _ _ _ _ (by omega), Nat.add_sub_cancel_left, show L.length + i - 1 - L.length = i - 1 by omega] at this
end Go.Proofs.YtaghmffgoomebaaGreat.St
