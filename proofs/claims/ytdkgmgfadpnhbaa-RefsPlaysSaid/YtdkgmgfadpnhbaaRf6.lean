/- refs.Parted: plain part. -/
import Derived.Test.YtdkgmgfadpnhbaaRf5
namespace Go.Proofs.Ytdkgmgfadpnhbaa.Rf
open Go.RowKit Mem Gx Gm KyU Dd
set_option linter.unusedVariables false
set_option linter.unusedSimpArgs false
set_option maxRecDepth 100000
set_option maxHeartbeats 1000000
/-- Where two rows don't count the same. -/
def dif (l l' : List Int) (x : Int) : Bool := decide (l.count x ≠ l'.count x)
/-- Those blocks, rising. -/
def partP (l l' : List Int) : List Int := (setP (l ++ l')).filter (dif l l')
/-- What Parted gathers, of the first table and of the second. -/
def gatA (l l' : List Int) (L : List Int) : List Int := L.filter fun x => decide (l'.count x ≠ l.count x)
def gatB (l : List Int) (L : List Int) : List Int := L.filter fun x => decide (l.count x = 0)
theorem gatA_snoc (l l' : List Int) (L : List Int) (x : Int) : gatA l l' (L ++ [x]) = gatA l l' L ++ (if l'.count x ≠ l.count x then [x] else []) := by
  unfold gatA
  rw [List.filter_append]
  congr 1
  by_cases h : l'.count x = l.count x <;> simp [h]
theorem gatB_snoc (l : List Int) (L : List Int) (x : Int) : gatB l (L ++ [x]) = gatB l L ++ (if l.count x = 0 then [x] else []) := by
  unfold gatB
  rw [List.filter_append]
  congr 1
  by_cases h : l.count x = 0 <;> simp [h]
theorem gat_perm (l l' : List Int) : (gatA l l' (setP l) ++ gatB l (setP l')).Perm (partP l l') := by
  have n1 : (setP l).Nodup := nodup_of_rise (setP_rise l)
  have n2 : (setP l').Nodup := nodup_of_rise (setP_rise l')
  have n3 : (setP (l ++ l')).Nodup := nodup_of_rise (setP_rise _)
  have hd : (gatA l l' (setP l) ++ gatB l (setP l')).Nodup := by
    rw [List.nodup_append]
    refine ⟨n1.filter _, n2.filter _, fun a ha b hb h => ?_⟩
    subst h
    have ha' := mem_setP.1 (List.mem_filter.1 ha).1
    have hb' := (List.mem_filter.1 hb).2
    have := List.count_pos_iff.2 ha'
    rw [decide_eq_true_eq] at hb'
    omega
  refine (List.perm_ext_iff_of_nodup hd (n3.filter _)).2 fun x => ?_
  unfold gatA gatB dif
  rw [List.mem_append, List.mem_filter, List.mem_filter, List.mem_filter, mem_setP, mem_setP, mem_setP, List.mem_append]
  simp only [decide_eq_true_eq]
  have c1 := @List.count_pos_iff _ _ _ x l
  have c2 := @List.count_pos_iff _ _ _ x l'
  constructor
  · rintro (⟨h1, h2⟩ | ⟨h1, h2⟩)
    · exact ⟨.inl h1, fun h => h2 h.symm⟩
    · exact ⟨.inr h1, fun h => by have := c2.2 h1; omega⟩
  · rintro ⟨h1, h2⟩
    by_cases hx : x ∈ l
    · exact .inl ⟨hx, fun h => h2 h.symm⟩
    · refine .inr ⟨h1.resolve_left hx, ?_⟩
      have : ¬ 0 < l.count x := fun h => hx (c1.1 h)
      omega
theorem partP_rise (l l' : List Int) : (partP l l').Pairwise (fun x y => x < y) := (setP_rise _).filter _
theorem sorted_rise {P S : List Int} (hr : P.Pairwise (fun x y => x < y)) (hp : S.Perm P) (hs : Pq.SortedIn (fun x y : Int => x < y) 0 S.length S) : S = P := by
  refine List.Perm.eq_of_pairwise (le := fun x y : Int => x ≤ y) (fun a b _ _ h1 h2 => by omega) ?_ (hr.imp fun h => by omega) hp
  rw [List.pairwise_iff_getElem]
  intro i j hi hj hij
  have := hs i j _ _ (Nat.zero_le _) hij hj (List.getElem?_eq_getElem hi) (List.getElem?_eq_getElem hj)
  exact Int.not_lt.1 this
theorem gat_len (l l' : List Int) (L : List Int) : (gatA l l' L).length ≤ L.length ∧ (gatB l L).length ≤ L.length := ⟨List.length_filter_le _ _, List.length_filter_le _ _⟩
theorem partP_nil {l l' : List Int} : partP l l' = [] ↔ SameP l l' := by
  constructor
  · intro h k
    refine Classical.byContradiction fun hn => ?_
    have : k ∈ partP l l' := by
      unfold partP dif
      rw [List.mem_filter, mem_setP, List.mem_append]
      refine ⟨?_, by simpa using hn⟩
      have c1 := @List.count_pos_iff _ _ _ k l
      have c2 := @List.count_pos_iff _ _ _ k l'
      by_cases h0 : 0 < l.count k
      · exact .inl (c1.1 h0)
      · exact .inr (c2.1 (by omega))
    rw [h] at this
    cases this
  · intro h
    refine List.eq_nil_iff_forall_not_mem.2 fun k hk => ?_
    have := (List.mem_filter.1 hk).2
    unfold dif at this
    rw [decide_eq_true_eq] at this
    exact this (h k)
end Go.Proofs.Ytdkgmgfadpnhbaa.Rf

