/- Arguments of any shape, opened cell by cell: structs in structs, arrays, slices of such. Slices of integers in a cell. A slice's cells as a list of data. -/
import Derived.Test.YtgpfedmfbkhhcaaOpen
import Derived.Test.YtgpfedmfbkhhcaaSl
namespace Go.Proofs.Ytgpfedmfbkhhcaa.Mem
open Go.RowKit Go.ChangeShapes Go.WideShapes Go.Deep
set_option linter.unusedVariables false
set_option linter.unusedSimpArgs false
def leavesFs (q : TypeId → Option (List TypeId)) (P : Program) : List Field → Nat → Option (List TypeId)
  | [], _ => some []
  | f :: r, o => if f.offset = o then (match q f.type with
      | some l => if P.cellsOf f.type = l.length then (match leavesFs q P r (o + l.length) with | some l' => some (l ++ l') | none => none) else none
      | none => none) else none
/-- The types of a type's cells. -/
def leaves (P : Program) : Nat → TypeId → Option (List TypeId)
  | 0, _ => none
  | d + 1, t => match P.underlying t with
    | some (.struct fs) => leavesFs (leaves P d) P fs.toList 0
    | some (.array k e) => (match leaves P d e with | some l => if P.cellsOf e = l.length then some (List.replicate k l).flatten else none | none => none)
    | _ => some [t]
section
variable {H : Type} {enc : TypeId × Value → H} {P : Program} {w : World}
def Leaf (enc : TypeId × Value → H) (P : Program) (w : World) (t : TypeId) (c : Value) : Prop := ∃ m y, DataW.trod enc P w 0 (fun _ => true) true m t [c] = some y
theorem leavesFs_ok {q : TypeId → Option (List TypeId)} {cs : List Value} (hq : ∀ t l, q t = some l → ∀ m cs y, DataW.trod enc P w 0 (fun _ => true) true m t cs = some y → cs.length = l.length → ∀ (j : Nat) (tj : TypeId), l[j]? = some tj → ∃ c, cs[j]? = some c ∧ Leaf enc P w tj c) :
    ∀ (r : List Field) (o : Nat) (lr : List TypeId), leavesFs q P r o = some lr → (∀ f ∈ r, ∃ m y, DataW.trod enc P w 0 (fun _ => true) true m f.type ((cs.drop f.offset).take (P.cellsOf f.type)) = some y) → o + lr.length ≤ cs.length →
      ∀ (j : Nat) (tj : TypeId), lr[j]? = some tj → ∃ c, cs[o + j]? = some c ∧ Leaf enc P w tj c
  | [], o, lr, h, _, _, j, tj, hj => by
    injection h with h; subst h; simp at hj
  | f :: r, o, lr, h, hf, hl, j, tj, hj => by
    unfold leavesFs at h
    split at h
    · rename_i ho
      split at h
      · rename_i l hql
        split at h
        · rename_i hc
          split at h
          · rename_i l' hr
            injection h with h
            subst h
            rw [List.length_append] at hl
            by_cases hjl : j < l.length
            · obtain ⟨m, y, hy⟩ := hf f (.head _)
              rw [List.getElem?_append_left hjl] at hj
              obtain ⟨c, h1, h2⟩ := hq _ _ hql m _ y hy (by rw [List.length_take, List.length_drop, ho, hc]; omega) j tj hj
              refine ⟨c, ?_, h2⟩
              rw [List.getElem?_take, hc, if_pos hjl, List.getElem?_drop, ho] at h1
              exact h1
            · rw [List.getElem?_append_right (by omega)] at hj
              obtain ⟨c, h1, h2⟩ := leavesFs_ok hq r (o + l.length) l' hr (fun g hg => hf g (.tail _ hg)) (by omega) (j - l.length) tj hj
              exact ⟨c, by rw [← h1]; congr 1; omega, h2⟩
          · cases h
        · cases h
      · cases h
    · cases h
theorem flat_rep {α : Type} (l : List α) : ∀ (k j : Nat) (x : α), (List.replicate k l).flatten[j]? = some x → ∃ i s, i < k ∧ j = i * l.length + s ∧ s < l.length ∧ l[s]? = some x
  | 0, j, x, h => by simp at h
  | k + 1, j, x, h => by
    rw [List.replicate_succ, List.flatten_cons] at h
    by_cases hj : j < l.length
    · rw [List.getElem?_append_left hj] at h
      exact ⟨0, j, by omega, by simp, hj, h⟩
    · rw [List.getElem?_append_right (by omega)] at h
      obtain ⟨i, s, h1, h2, h3, h4⟩ := flat_rep l k _ x h
      exact ⟨i + 1, s, by omega, by rw [Nat.add_mul]; omega, h3, h4⟩
theorem leaves_ok : ∀ (d : Nat) (t : TypeId) (l : List TypeId), leaves P d t = some l → ∀ m cs y, DataW.trod enc P w 0 (fun _ => true) true m t cs = some y → cs.length = l.length → ∀ (j : Nat) (tj : TypeId), l[j]? = some tj → ∃ c, cs[j]? = some c ∧ Leaf enc P w tj c
  | 0, _, _, h, _, _, _, _, _, _, _, _ => by cases h
  | d + 1, t, l, h, m, cs, y, hy, hl, j, tj, hj => by
    unfold leaves at h
    split at h
    · rename_i fs hu
      obtain ⟨xs, n, _, _, hcl, hlen, hg⟩ := DataW.trod_struct hu hy
      have := leavesFs_ok (enc := enc) (P := P) (w := w) (cs := cs) (leaves_ok d) fs.toList 0 l h (fun f hf => by
        obtain ⟨i, hi, hfi⟩ := List.getElem_of_mem hf
        have h1 : fs[i]? = some f := by
          rw [← Array.getElem?_toList, List.getElem?_eq_getElem hi, hfi]
        have h2 := hg i f h1
        have h3 : i < xs.length := by rw [hlen]; simpa using hi
        exact ⟨n, _, h2.trans (List.getElem?_eq_getElem h3)⟩) (by omega) j tj hj
      simpa using this
    · rename_i k e hu
      split at h
      · rename_i l0 hl0
        split at h
        · rename_i hc
          injection h with h
          subst h
          obtain ⟨i, s, h1, h2, h3, h4⟩ := flat_rep l0 k j tj hj
          obtain ⟨xs, m', _, _, hcl, hlen, hg⟩ := DataW.trod_array hu hy
          have h5 := hg i h1
          rw [hc] at h5
          rw [List.length_flatten, List.map_replicate, List.sum_replicate_nat] at hl
          have h6 : (i + 1) * l0.length ≤ k * l0.length := Nat.mul_le_mul_right _ h1
          rw [Nat.add_mul, Nat.one_mul] at h6
          obtain ⟨c, h7, h8⟩ := leaves_ok d e l0 hl0 m' _ _ (h5.trans (List.getElem?_eq_getElem (by omega))) (by rw [List.length_take, List.length_drop]; omega) s tj h4
          refine ⟨c, ?_, h8⟩
          rw [List.getElem?_take, if_pos h3, List.getElem?_drop] at h7
          rw [h2]; exact h7
        · cases h
      · cases h
    · injection h with h
      subst h
      cases j with
      | succ j => simp at hj
      | zero =>
        simp at hj
        subst hj
        match cs, hl with
        | [c], _ => exact ⟨c, rfl, m, y, hy⟩
/-- A struct, or an array, by value. -/
theorem open_flat {t : TypeId} {l : List TypeId} {base : Nat} {v : Value} {d : DataW H} {p : List MemPlace} (hl : leaves P 8 t = some l) (hC : P.cellsOf t = l.length) (hu : (match P.underlying t with | some (.struct _) => true | some (.array _ _) => true | _ => false) = true)
    (hv : Value.okWide P w .any base t v) (h : DataW.Trod enc P w 0 (fun _ => true) true t v d p) :
    ∃ V : Nat → Value, v = .agg ((List.range l.length).map V).toArray ∧ ∀ (j : Nat) (tj : TypeId), l[j]? = some tj → Leaf enc P w tj (V j) := by
  have hagg : ∃ cs, v = .agg cs ∧ cs.size = P.cellsOf t := by
    split at hu
    · rename_i fs hu'
      exact okWide_struct hu' hv
    · rename_i n e hu'
      exact okWide_array hu' hv
    · cases hu
  obtain ⟨⟨cs⟩, rfl, hsz⟩ := hagg
  obtain ⟨fuel, hf⟩ := h
  have hlen : cs.length = l.length := by rw [← hC]; exact hsz
  refine ⟨fun i => cs.getD i undef, ?_, fun j tj hj => ?_⟩
  · congr 1
    show (⟨cs⟩ : Array Value) = (List.toArray _)
    congr 1
    rw [← hlen]; exact list_of cs
  · obtain ⟨c, h1, h2⟩ := leaves_ok 8 t l hl fuel cs _ hf hlen j tj hj
    have : cs.getD j undef = c := by rw [List.getD_eq_getElem?_getD, h1]; rfl
    simp only [this]
    exact h2
/-- A slice in a cell. -/
theorem leaf_slice {t e : TypeId} {l : List TypeId} {v : Value} (ht : P.underlying t = some (.slice e)) (hl : leaves P 8 e = some l) (hC : P.cellsOf e = l.length) (h0 : 0 < l.length) (h : Leaf enc P w t v) :
    ∃ (A : Option Addr) (n c : Nat) (F : Nat → Nat → Value), v = .slice A n c ∧ (Arr w A n l.length F ∧ n ≤ c ∧ c ≤ maxLen ∧ (A = none → n = 0 ∧ c = 0) ∧ ∀ i, i < n → ∀ (j : Nat) (tj : TypeId), l[j]? = some tj → Leaf enc P w tj (F i j)) := by
  obtain ⟨m0, y, hf⟩ := h
  rcases open_slice ht hf with ⟨hcs, hx⟩ | ⟨a, len', cap', m, n, D, Pl, hcs, hb, hle, hm, hmm, hx, hi⟩
  · injection hcs with hcs
    subst hcs
    exact ⟨none, 0, 0, fun _ _ => undef, rfl, Arr.nil, Nat.le_refl _, by unfold maxLen; omega, fun _ => ⟨rfl, rfl⟩, fun i hi => absurd hi (by omega)⟩
  · injection hcs with hcs
    subst hcs
    simp at hmm
    subst hmm
    have key : ∀ i, ∃ cs : List Value, i < m → cs.length = l.length ∧ (∀ j, j < l.length → w.cell? (a.add (i * l.length + j)) = cs[j]?) ∧ ∀ (j : Nat) (tj : TypeId), l[j]? = some tj → Leaf enc P w tj (cs.getD j undef) := by
      intro i
      by_cases him : i < m
      · obtain ⟨cs', hc, ht'⟩ := hi i him
        rw [hC] at hc
        obtain ⟨_, hcl, hat⟩ := World.cells?_some hc
        refine ⟨cs', fun _ => ⟨hcl, fun j hj => by rw [← Go.Deep.add_add]; exact hat j hj, fun j tj hj => ?_⟩⟩
        obtain ⟨c, h1, h2⟩ := leaves_ok 8 e l hl n cs' _ ht' hcl j tj hj
        have : cs'.getD j undef = c := by rw [List.getD_eq_getElem?_getD, h1]; rfl
        rw [this]
        exact h2
      · exact ⟨[], fun h => absurd h him⟩
    refine ⟨some a, len', m, fun i j => (Classical.choose (key i)).getD j undef, rfl, ?_, hle, hm, (fun h => by cases h), fun i him j tj hj => ((Classical.choose_spec (key i) (by omega)).2.2 j tj hj)⟩
    intro hn
    have hspot : a.spot = none := by
      have h1 := (Classical.choose_spec (key 0) (by omega)).2.1 0 h0
      have h2 := (Classical.choose_spec (key 0) (by omega)).1
      rw [List.getElem?_eq_getElem (by omega)] at h1
      simpa [Addr.add] using World.cell?_spot h1
    obtain ⟨b, off, spot⟩ := a
    subst hspot
    refine ⟨b, off, rfl, fun i him j hj => ?_⟩
    have h1 := (Classical.choose_spec (key i) (by omega)).2.1 j hj
    have h2 := (Classical.choose_spec (key i) (by omega)).1
    rw [List.getElem?_eq_getElem (by omega)] at h1
    show _ = some ((Classical.choose (key i)).getD j undef)
    rw [List.getD_eq_getElem?_getD, List.getElem?_eq_getElem (by omega)]
    have e : (⟨b, off, none⟩ : Addr).add (i * l.length + j) = ⟨b, off + i * l.length + j, none⟩ := by
      unfold Addr.add; split <;> simp <;> omega
    rw [← e]
    exact h1
theorem leaf_of {t : TypeId} {base : Nat} {v : Value} {d : DataW H} {p : List MemPlace} (hc : v.cells.toList = [v]) (h : DataW.Trod enc P w 0 (fun _ => true) true t v d p) : Leaf enc P w t v := by
  obtain ⟨fuel, hf⟩ := h
  exact ⟨fuel, _, by rw [← hc]; exact hf⟩
/-- A slice, as an argument. -/
theorem open_slices {t e : TypeId} {l : List TypeId} {base : Nat} {v : Value} {d : DataW H} {p : List MemPlace} (ht : P.underlying t = some (.slice e)) (hl : leaves P 8 e = some l) (hC : P.cellsOf e = l.length) (h0 : 0 < l.length)
    (hv : Value.okWide P w .any base t v) (h : DataW.Trod enc P w 0 (fun _ => true) true t v d p) :
    ∃ (A : Option Addr) (n c : Nat) (F : Nat → Nat → Value), v = .slice A n c ∧ (Arr w A n l.length F ∧ n ≤ c ∧ c ≤ maxLen ∧ (A = none → n = 0 ∧ c = 0) ∧ ∀ i, i < n → ∀ (j : Nat) (tj : TypeId), l[j]? = some tj → Leaf enc P w tj (F i j)) := by
  obtain ⟨a0, len, cap, rfl⟩ := okWide_slice ht hv
  exact leaf_slice ht hl hC h0 (leaf_of (base := base) rfl h)
theorem leaf_int {t : TypeId} {k : IntKind} {v : Value} (ht : P.underlying t = some (.int k)) (h : Leaf enc P w t v) : ∃ a, v = .int k a ∧ (Lit.int k a).wf = true := by
  obtain ⟨m, y, h⟩ := h
  exact int_field ht h
theorem leaf_bool {t : TypeId} {v : Value} (ht : P.underlying t = some .bool) (h : Leaf enc P w t v) : ∃ b, v = .bool b := by
  obtain ⟨m, y, h⟩ := h
  obtain ⟨b, e, _⟩ := DataW.trod_bool ht h
  exact ⟨b, by simpa using e⟩
theorem leaf_string {t : TypeId} {v : Value} (ht : P.underlying t = some .string) (h : Leaf enc P w t v) : ∃ s : ByteArray, v = .string s ∧ s.size ≤ maxLen := by
  obtain ⟨m, y, h⟩ := h
  obtain ⟨s, e, _, hs⟩ := DataW.trod_string ht h
  exact ⟨s, by simpa using e, hs⟩
end
end Go.Proofs.Ytgpfedmfbkhhcaa.Mem
namespace Go.Proofs.Ytgpfedmfbkhhcaa.Mem
open Go.RowKit Go.ChangeShapes Go.WideShapes Go.Deep
set_option linter.unusedVariables false
set_option linter.unusedSimpArgs false
section
variable {H : Type} {enc : TypeId × Value → H} {P : Program} {w : World}
theorem leaf_ints {t e : TypeId} {k : IntKind} {v : Value} (ht : P.underlying t = some (.slice e)) (he : P.underlying e = some (.int k)) (hC : P.cellsOf e = 1) (h : Leaf enc P w t v) :
    ∃ (A : Option Addr) (n c : Nat) (L : List Int), v = .slice A n c ∧ n = L.length ∧ Sl w A 1 (IE k) L ∧ n ≤ c ∧ c ≤ maxLen ∧ (A = none → c = 0) ∧ ∀ x ∈ L, (Lit.int k x).wf = true := by
  have hl : leaves P 8 e = some [e] := by unfold leaves; rw [he]
  obtain ⟨A, n, c, F, rfl, hA, h1, h2, h3, h4⟩ := leaf_slice ht hl (by rw [hC]; rfl) (by simp) h
  have key : ∀ i, ∃ a, i < n → F i 0 = .int k a ∧ (Lit.int k a).wf = true := by
    intro i
    by_cases hi : i < n
    · obtain ⟨a, e1, e2⟩ := leaf_int he (h4 i hi 0 e rfl)
      exact ⟨a, fun _ => ⟨e1, e2⟩⟩
    · exact ⟨0, fun h => absurd h hi⟩
  refine ⟨A, n, c, (List.range n).map fun i => Classical.choose (key i), rfl, by simp, ?_, h1, h2, fun h => (h3 h).2, ?_⟩
  · unfold Sl
    have hlen : ((List.range n).map fun i => Classical.choose (key i)).length = n := by simp
    rw [hlen]
    refine Arr.congr hA (fun i hi j hj => ?_)
    have hj0 : j = 0 := by
      have : j < 1 := hj
      omega
    subst hj0
    rw [LF_at (k := i) (x := Classical.choose (key i)) (by simp [hi])]
    exact (Classical.choose_spec (key i) hi).1
  · intro x hx
    obtain ⟨i, hi, rfl⟩ := List.mem_map.1 hx
    exact (Classical.choose_spec (key i) (by simpa using hi)).2
end
end Go.Proofs.Ytgpfedmfbkhhcaa.Mem
namespace Go.Proofs.Ytgpfedmfbkhhcaa.Mem
open Go.RowKit Go.ChangeShapes Go.WideShapes Go.Deep
set_option linter.unusedVariables false
set_option linter.unusedSimpArgs false
theorem arr_list {α : Type} [Inhabited α] {enc : α → Nat → Value} {sz : Nat} {Q : α → Prop} {F : Nat → Nat → Value} {A : Option Addr} {n : Nat} {w : World} (hA : Arr w A n sz F) (h : ∀ i, i < n → ∃ y, (∀ j, j < sz → F i j = enc y j) ∧ Q y) :
    ∃ L : List α, n = L.length ∧ Sl w A sz enc L ∧ ∀ y ∈ L, Q y := by
  have key : ∀ i, ∃ y, i < n → (∀ j, j < sz → F i j = enc y j) ∧ Q y := by
    intro i
    by_cases hi : i < n
    · obtain ⟨y, hy⟩ := h i hi
      exact ⟨y, fun _ => hy⟩
    · exact ⟨default, fun h => absurd h hi⟩
  refine ⟨(List.range n).map fun i => Classical.choose (key i), by simp, ?_, ?_⟩
  · unfold Sl
    have hlen : ((List.range n).map fun i => Classical.choose (key i)).length = n := by simp
    rw [hlen]
    refine Arr.congr hA (fun i hi j hj => ?_)
    rw [LF_at (k := i) (x := Classical.choose (key i)) (by simp [hi])]
    exact (Classical.choose_spec (key i) hi).1 j hj
  · intro x hx
    obtain ⟨i, hi, rfl⟩ := List.mem_map.1 hx
    exact (Classical.choose_spec (key i) (by simpa using hi)).2
end Go.Proofs.Ytgpfedmfbkhhcaa.Mem

