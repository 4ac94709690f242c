/- Which old points go, plain. -/
import Derived.Test.YtgpfedmfbkhhcaaCtE
import Derived.Test.YtgpfedmfbkhhcaaExP
namespace Go.Proofs.Ytgpfedmfbkhhcaa.Po
open Go.RowKit Mem Gx Ct Dd
set_option linter.unusedVariables false
set_option linter.unusedSimpArgs false
set_option maxRecDepth 100000
set_option maxHeartbeats 1000000
/-- Numbers rising, each once. -/
def setP (l : List Int) : List Int := dd (Ex.srt l)
theorem setP_rise (l : List Int) : (setP l).Pairwise (fun x y => x < y) := (Ex.ddN_rise (Ex.srt_rise l) (Ex.srt l).length (Nat.le_refl _)).1
theorem mem_setP {l : List Int} {x : Int} : x ∈ setP l ↔ x ∈ l := by
  unfold setP
  rw [mem_dd]
  exact (List.mergeSort_perm _ _).mem_iff
theorem nodup_of_rise {l : List Int} (h : l.Pairwise (fun x y => x < y)) : l.Nodup := h.imp fun h => by omega
theorem rise_uniq {l S : List Int} (hl : l.Pairwise (fun x y => x < y)) (hS : S.Pairwise (fun x y => x < y)) (h : ∀ x, x ∈ l ↔ x ∈ S) : l = S :=
  List.Perm.eq_of_pairwise (le := fun x y : Int => x ≤ y) (fun a b _ _ h1 h2 => by omega) (hl.imp fun h => by omega) (hS.imp fun h => by omega) ((List.perm_ext_iff_of_nodup (nodup_of_rise hl) (nodup_of_rise hS)).2 h)
theorem setP_len (l : List Int) : (setP l).length ≤ l.length := by
  unfold setP
  have := (ddN_len (L := Ex.srt l) (k := (Ex.srt l).length))
  rw [Ex.srt_len] at this
  have e : dd (Ex.srt l) = ddN (Ex.srt l) (Ex.srt l).length := rfl
  rw [e, Ex.srt_len]
  exact this
/-- A number more, in a row that rises. -/
def insU (x : Int) : List Int → List Int
  | [] => [x]
  | y :: l => if y < x then y :: insU x l else if y = x then y :: l else x :: y :: l
theorem mem_insU {x y : Int} : ∀ {l : List Int}, y ∈ insU x l ↔ y = x ∨ y ∈ l
  | [] => by simp [insU]
  | z :: l => by
    unfold insU
    split
    · rw [List.mem_cons, mem_insU, List.mem_cons]
      exact ⟨fun h => by rcases h with h | h | h; exact .inr (.inl h); exact .inl h; exact .inr (.inr h), fun h => by rcases h with h | h | h; exact .inr (.inl h); exact .inl h; exact .inr (.inr h)⟩
    · split
      · rename_i h
        subst h
        simp
      · simp
theorem insU_rise {x : Int} : ∀ {l : List Int}, l.Pairwise (fun x y => x < y) → (insU x l).Pairwise (fun x y => x < y)
  | [], _ => by simp [insU]
  | z :: l, h => by
    obtain ⟨h1, h2⟩ := List.pairwise_cons.1 h
    unfold insU
    split
    · refine List.pairwise_cons.2 ⟨fun y hy => ?_, insU_rise h2⟩
      rcases mem_insU.1 hy with rfl | hy
      · assumption
      · exact h1 y hy
    · split
      · exact h
      · refine List.pairwise_cons.2 ⟨fun y hy => ?_, h⟩
        rcases List.mem_cons.1 hy with rfl | hy
        · omega
        · have := h1 y hy
          omega
theorem insU_len {x : Int} : ∀ {l : List Int}, (insU x l).length ≤ l.length + 1
  | [] => by simp [insU]
  | z :: l => by
    unfold insU
    have := insU_len (x := x) (l := l)
    split
    · simp; omega
    · split <;> simp
theorem insU_at {x : Int} : ∀ {l : List Int} {i : Nat}, (∀ j y, j < i → l[j]? = some y → y < x) → (∀ y, l[i]? = some y → ¬ y < x) → i ≤ l.length → insU x l = if l[i]? = some x then l else l.take i ++ [x] ++ l.drop i
  | [], i, _, _, h => by
    obtain rfl : i = 0 := by simpa using h
    simp [insU]
  | z :: l, 0, _, h, _ => by
    have h0 := h z rfl
    unfold insU
    rw [if_neg h0]
    by_cases e : z = x
    · subst e; simp
    · rw [if_neg e]; simp [e]
  | z :: l, i + 1, h1, h2, h3 => by
    have h0 := h1 0 z (Nat.succ_pos _) rfl
    unfold insU
    rw [if_pos h0, insU_at (i := i) (fun j y hj hy => h1 (j + 1) y (Nat.succ_lt_succ hj) (by simpa using hy)) (fun y hy => h2 y (by simpa using hy)) (by simpa using h3)]
    simp only [List.getElem?_cons_succ, List.take_succ_cons, List.drop_succ_cons, List.cons_append]
    split <;> rfl
/-- The last number of a time, or of the last one ahead of it. -/
def atT (T : List MarkD) (u : Int) : Option Int := ((T.filter fun m => decide (m.n ≤ u)).getLast?).map MarkD.s
theorem take_snoc {α : Type} {L : List α} {k : Nat} {x : α} (h : L[k]? = some x) : L.take (k + 1) = L.take k ++ [x] := by
  rw [List.take_add_one, h]; rfl
theorem atT_step {T : List MarkD} {u : Int} {k : Nat} {m : MarkD} (h : T[k]? = some m) : atT (T.take (k + 1)) u = if m.n ≤ u then some m.s else atT (T.take k) u := by
  unfold atT
  rw [take_snoc h, List.filter_append]
  by_cases hm : m.n ≤ u
  · rw [if_pos hm, show [m].filter (fun m => decide (m.n ≤ u)) = [m] by simp [hm]]
    simp
  · rw [if_neg hm, show [m].filter (fun m => decide (m.n ≤ u)) = [] by simp [hm]]
    simp
theorem atT_pos {T : List MarkD} {u : Int} {p : Nat} (hp : p ≤ T.length) (h1 : ∀ i x, i < p → T[i]? = some x → x.n ≤ u) (h2 : ∀ i x, p ≤ i → T[i]? = some x → ¬ x.n ≤ u) : atT T u = if p = 0 then none else (T[p - 1]?).map MarkD.s := by
  have e : T.filter (fun m => decide (m.n ≤ u)) = T.take p := by
    conv => lhs; rw [← List.take_append_drop p T]
    rw [List.filter_append, List.filter_eq_self.2, List.filter_eq_nil_iff.2, List.append_nil]
    · intro x hx
      obtain ⟨i, hi⟩ := List.getElem?_of_mem hx
      rw [List.getElem?_drop] at hi
      have := h2 (p + i) x (Nat.le_add_right _ _) hi
      simpa using this
    · intro x hx
      obtain ⟨i, hi⟩ := List.getElem?_of_mem hx
      rw [List.getElem?_take] at hi
      split at hi
      · rename_i hlt
        simpa using h1 i x hlt hi
      · cases hi
  unfold atT
  rw [e, List.getLast?_eq_getElem?, List.length_take, Nat.min_eq_left hp, List.getElem?_take]
  by_cases h0 : p = 0
  · subst h0; simp
  · rw [if_neg h0, if_pos (by omega)]
/-- The floor. -/
def floorP (T : List MarkD) (fl now window : Int) : Int := if now < window then fl else match atT T (now - window) with
  | none => fl
  | some s => max fl s
/-- Multiples, from one down. -/
def moreD (fl ev : Int) : Nat → Int → List Int
  | 0, _ => []
  | k + 1, n => if n < fl then [] else n :: (if n < ev then [] else moreD fl ev k (n - ev))
theorem more_low {fl ev n : Int} (h : n < fl) : ∀ k, moreD fl ev k n = []
  | 0 => rfl
  | k + 1 => by unfold moreD; exact if_pos h
theorem more_end {fl ev n : Int} (h : ¬ n < fl) (h2 : n < ev) (k : Nat) : moreD fl ev (k + 1) n = [n] := by unfold moreD; rw [if_neg h, if_pos h2]
theorem more_go {fl ev n : Int} (h : ¬ n < fl) (h2 : ¬ n < ev) (k : Nat) : moreD fl ev (k + 1) n = n :: moreD fl ev k (n - ev) := by
  show (if n < fl then [] else n :: (if n < ev then [] else moreD fl ev k (n - ev))) = _
  rw [if_neg h, if_neg h2]
theorem more_len {fl ev : Int} : ∀ k n, (moreD fl ev k n).length ≤ k
  | 0, _ => Nat.le_refl _
  | k + 1, n => by
    have := more_len (fl := fl) (ev := ev) k (n - ev)
    unfold moreD
    split
    · exact Nat.zero_le _
    · rw [List.length_cons]
      split
      · simp
      · omega
def moreK (low fl ev : Int) : List Int := if 0 < ev ∧ 0 < low then moreD fl ev 32 (low - 1 - (low - 1) % ev) else []
theorem moreK_len (low fl ev : Int) : (moreK low fl ev).length ≤ 32 := by
  unfold moreK
  split
  · exact more_len _ _
  · exact Nat.zero_le _
/-- The points that stay. -/
def keptP (K : List Int) (low fl ev : Int) : List Int := (K ++ (moreK low fl ev).reverse).drop (K.length + (moreK low fl ev).length - 32)
theorem keptP_back (K : List Int) (low fl ev : Int) : ((moreK low fl ev ++ K.reverse).take 32).reverse = keptP K low fl ev := by
  unfold keptP
  rw [List.reverse_take, List.reverse_append, List.reverse_reverse, List.length_append, List.length_reverse, Nat.add_comm]
theorem keptP_len (K : List Int) (low fl ev : Int) : (keptP K low fl ev).length ≤ 32 := by
  unfold keptP
  rw [List.length_drop, List.length_append, List.length_reverse]
  omega
/-- Those of the numbers that one may go back to. -/
def ofP (K : List Int) (B : List (Int × Int × List Int)) (vol : Int) : List Int := setP (K ++ (B.filter fun b => decide (vol = 0 ∨ vol ∈ b.2.2)).map fun b => b.2.1)
/-- Which times stay. -/
def tkeepP (T : List MarkD) (P : List Int) (fl : Int) : List MarkD := T.filter fun m => decide (fl ≤ m.s ∨ m.s ∈ P)
theorem tkeep_step {T : List MarkD} {P : List Int} {fl : Int} {k : Nat} {m : MarkD} (h : T[k]? = some m) : tkeepP (T.take (k + 1)) P fl = if fl ≤ m.s ∨ m.s ∈ P then tkeepP (T.take k) P fl ++ [m] else tkeepP (T.take k) P fl := by
  unfold tkeepP
  rw [take_snoc h, List.filter_append]
  by_cases hm : fl ≤ m.s ∨ m.s ∈ P
  · rw [if_pos hm, show [m].filter (fun m => decide (fl ≤ m.s ∨ m.s ∈ P)) = [m] by simp [hm]]
  · rw [if_neg hm, show [m].filter (fun m => decide (fl ≤ m.s ∨ m.s ∈ P)) = [] by simp [hm], List.append_nil]
theorem tkeep_len {T : List MarkD} {P : List Int} {fl : Int} : (tkeepP T P fl).length ≤ T.length := List.length_filter_le _ _
/-- Is a size seen, ahead of the next one? -/
def SeenP (P : List Int) (fl : Int) (m m2 : MarkD) : Prop := fl < m2.s ∨ ∃ p, p ∈ P ∧ m.s ≤ p ∧ p < m2.s
instance (P : List Int) (fl : Int) (m m2 : MarkD) : Decidable (SeenP P fl m m2) := inferInstanceAs (Decidable (_ ∨ _))
/-- Which sizes stay. -/
def skeepP (P : List Int) (fl : Int) : List MarkD → List MarkD
  | [] => []
  | [m] => [m]
  | m :: m2 :: r => if SeenP P fl m m2 then m :: skeepP P fl (m2 :: r) else skeepP P fl (m2 :: r)
theorem skeep_at {P : List Int} {fl : Int} {L : List MarkD} {k : Nat} {m : MarkD} (h : L[k]? = some m) : skeepP P fl (L.drop k) = (match L[k + 1]? with
    | none => [m]
    | some m2 => if SeenP P fl m m2 then [m] else []) ++ skeepP P fl (L.drop (k + 1)) := by
  have hl := (List.getElem?_eq_some_iff.1 h).1
  have e1 : L.drop k = m :: L.drop (k + 1) := by
    rw [List.drop_eq_getElem_cons hl]
    obtain ⟨h1, h2⟩ := List.getElem?_eq_some_iff.1 h
    rw [h2]
  rw [e1]
  cases h2 : L[k + 1]? with
  | none =>
    rw [List.getElem?_eq_none_iff] at h2
    rw [List.drop_of_length_le h2]
    rfl
  | some m2 =>
    have hl2 := (List.getElem?_eq_some_iff.1 h2).1
    have e2 : L.drop (k + 1) = m2 :: L.drop (k + 2) := by
      rw [List.drop_eq_getElem_cons hl2]
      obtain ⟨h1, h3⟩ := List.getElem?_eq_some_iff.1 h2
      rw [h3]
    rw [e2]
    dsimp only
    rw [skeepP]
    split <;> rfl
theorem skeep_len {P : List Int} {fl : Int} : ∀ (L : List MarkD), (skeepP P fl L).length ≤ L.length
  | [] => Nat.le_refl _
  | [m] => Nat.le_refl _
  | m :: m2 :: r => by
    have := skeep_len (P := P) (fl := fl) (m2 :: r)
    rw [skeepP]
    split
    · simp only [List.length_cons] at *; omega
    · simp only [List.length_cons] at *; omega
theorem skeep_mem {P : List Int} {fl : Int} {x : MarkD} : ∀ (L : List MarkD), x ∈ skeepP P fl L → x ∈ L
  | [], h => h
  | [m], h => h
  | m :: m2 :: r, h => by
    rw [skeepP] at h
    split at h
    · rcases List.mem_cons.1 h with e | e
      · rw [e]; exact .head _
      · exact .tail _ (skeep_mem (m2 :: r) e)
    · exact .tail _ (skeep_mem (m2 :: r) h)
/-- A catalog in which old points are gone. -/
def retainP (c : CatP) (now window ev : Int) : CatP :=
  let fl := floorP c.T c.fl now window
  let K := keptP c.K fl c.fl ev
  { c with fl := fl, K := K, T := tkeepP c.T (ofP K c.B 0) fl, V := c.V.map fun v => (v.1, v.2.1, skeepP (ofP K c.B v.1) fl v.2.2) }
end Go.Proofs.Ytgpfedmfbkhhcaa.Po

