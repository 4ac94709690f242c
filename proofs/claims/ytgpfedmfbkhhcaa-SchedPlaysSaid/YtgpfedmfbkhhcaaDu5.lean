/- Timers in order: what a change leaves. -/
import Derived.Test.YtgpfedmfbkhhcaaDu2
namespace Go.Proofs.Ytgpfedmfbkhhcaa.Du
open Go.RowKit Mem Gx Hp
set_option linter.unusedVariables false
set_option linter.unusedSimpArgs false
set_option maxRecDepth 100000
set_option maxHeartbeats 1000000
def insT (x : Tim) : List Tim → List Tim
  | [] => [x]
  | y :: r => if ltT y x then y :: insT x r else x :: y :: r
/-- Without the timer of a kind and a number. -/
def wo (p : Int × Int) (S : List Tim) : List Tim := S.filter fun x => decide (x.key ≠ p)
def setP (x : Tim) (S : List Tim) : List Tim := insT x (wo x.key S)
theorem insT_perm (x : Tim) : ∀ S : List Tim, (insT x S).Perm (x :: S)
  | [] => List.Perm.refl _
  | y :: r => by
    unfold insT
    split
    · exact ((insT_perm x r).cons y).trans (List.Perm.swap x y r)
    · exact List.Perm.refl _
theorem insT_sorted (x : Tim) : ∀ S : List Tim, S.Pairwise ltT → x ∉ S → (insT x S).Pairwise ltT
  | [], _, _ => List.pairwise_singleton _ _
  | y :: r, h, hb => by
    obtain ⟨h1, h2⟩ := List.pairwise_cons.1 h
    unfold insT
    split
    · rename_i hx
      refine List.pairwise_cons.2 ⟨fun z hz => ?_, insT_sorted x r h2 fun h => hb (.tail _ h)⟩
      rcases List.mem_cons.1 ((insT_perm x r).mem_iff.1 hz) with e | e
      · rw [e]; exact hx
      · exact h1 z e
    · rename_i hx
      have hxy : ltT x y := Classical.byContradiction fun hn => hb (by rw [ltT_total hx hn]; exact .head _)
      exact List.pairwise_cons.2 ⟨fun z hz => by
        rcases List.mem_cons.1 hz with e | e
        · rw [e]; exact hxy
        · have := h1 z e
          rw [ltT_iff] at *
          omega, h⟩
theorem wo_mem {p : Int × Int} {S : List Tim} {x : Tim} : x ∈ wo p S ↔ x ∈ S ∧ x.key ≠ p := by
  unfold wo
  rw [List.mem_filter]
  simp
theorem Keys.wo {p : Int × Int} {S : List Tim} (h : Keys S) : Keys (wo p S) := h.sublist (List.filter_sublist.map _)
theorem wo_no {p : Int × Int} {S : List Tim} (h : p ∉ S.map Tim.key) : wo p S = S := by
  unfold Du.wo
  rw [List.filter_eq_self]
  intro x hx
  have : x.key ≠ p := fun e => h (List.mem_map.2 ⟨x, hx, e⟩)
  simpa using this
theorem Keys.mid {A B : List Tim} {y : Tim} (h : Keys (A ++ y :: B)) : Du.wo y.key (A ++ y :: B) = A ++ B := by
  unfold Keys at h
  rw [List.map_append, List.map_cons, List.nodup_append] at h
  obtain ⟨h1, h2, h3⟩ := h
  have h4 := List.nodup_cons.1 h2
  have e1 : Du.wo y.key A = A := wo_no fun hx => h3 _ hx _ (.head _) rfl
  have e2 : Du.wo y.key B = B := wo_no h4.1
  unfold Du.wo at *
  rw [List.filter_append, List.filter_cons_of_neg (by simp), e1, e2]
theorem split_at {L : List Tim} {i : Nat} {y : Tim} (hy : L[i]? = some y) : L = L.take i ++ y :: L.drop (i + 1) := by
  obtain ⟨hi, e⟩ := List.getElem?_eq_some_iff.1 hy
  rw [← e, List.getElem_cons_drop, List.take_append_drop]
theorem wo_perm {p : Int × Int} {L S : List Tim} (h : L.Perm S) : (wo p L).Perm (wo p S) := h.filter _
theorem set_perm {L : List Tim} {i : Nat} {x y : Tim} (hn : Keys L) (hy : L[i]? = some y) (hk : y.key = x.key) : (L.set i x).Perm (x :: wo x.key L) := by
  have e := split_at hy
  have hi := (List.getElem?_eq_some_iff.1 hy).1
  have e2 : L.set i x = L.take i ++ x :: L.drop (i + 1) := by rw [List.set_eq_take_append_cons_drop, if_pos hi]
  have e3 : wo x.key L = L.take i ++ L.drop (i + 1) := by
    rw [← hk]
    have hn' := hn
    rw [e] at hn'
    rw [← hn'.mid, ← e]
  rw [e2, e3]
  exact List.perm_middle
theorem cut_perm {L L1 : List Tim} {y : Tim} (hn : Keys L) (hp : (L1 ++ [y]).Perm L) : L1.Perm (wo y.key L) := by
  have h1 : Keys (L1 ++ [y]) := hn.perm hp
  have h2 := h1.mid (A := L1) (B := [])
  rw [List.append_nil] at h2
  rw [← h2]
  exact (wo_perm hp.symm).symm
theorem te_key {x y : Tim} (h : y.key = x.key) (b : Nat) (hb : b ≠ 0) : TE x b = TE y b := by
  obtain ⟨t, k, i⟩ := x
  obtain ⟨t', k', i'⟩ := y
  simp only [Tim.key, Prod.mk.injEq] at h
  obtain ⟨rfl, rfl⟩ := h
  match b with
  | 0 => exact absurd rfl hb
  | 1 => rfl
  | _ + 2 => rfl
/-- What a queue holds. -/
structure QuOk (mo : Option Nat) (L S : List Tim) : Prop where
  l : L.Perm S
  keys : Keys S
  sorted : S.Pairwise ltT
  heap : HeapN ltT L L.length
  nil : mo = none → S = []
  len : S.length ≤ 10000
theorem keys_cons_wo {x : Tim} {S : List Tim} (h : Keys S) : Keys (setP x S) := by
  refine Keys.perm (L := x :: wo x.key S) ?_ (insT_perm _ _)
  unfold Keys
  rw [List.map_cons, List.nodup_cons]
  refine ⟨fun hx => ?_, h.wo⟩
  obtain ⟨y, hy, e⟩ := List.mem_map.1 hx
  exact (wo_mem.1 hy).2 e
theorem sorted_set {x : Tim} {S : List Tim} (h : S.Pairwise ltT) : (setP x S).Pairwise ltT :=
  insT_sorted x _ (h.sublist List.filter_sublist) fun hx => (wo_mem.1 hx).2 rfl
theorem QuOk.setSome {r i : Nat} {L L' S : List Tim} {x y : Tim} {mo : Option Nat} (h : QuOk mo L S) (hy : L[i]? = some y) (hk : y.key = x.key) (hp : L'.Perm (L.set i x)) (hh : HeapN ltT L' L'.length) : QuOk (some r) L' (setP x S) where
  l := hp.trans ((set_perm (h.keys.perm h.l) hy hk).trans (((wo_perm h.l).cons x).trans (insT_perm _ _).symm))
  keys := keys_cons_wo h.keys
  sorted := sorted_set h.sorted
  heap := hh
  nil e := by cases e
  len := by
    have h1 := hp.length_eq
    rw [List.length_set, h.l.length_eq] at h1
    have h2 := (hp.trans ((set_perm (h.keys.perm h.l) hy hk).trans (((wo_perm h.l).cons x).trans (insT_perm _ _).symm))).length_eq
    have := h.len
    show (insT x (wo x.key S)).length ≤ 10000
    omega
theorem QuOk.setNone {r : Nat} {mo : Option Nat} {L L' S : List Tim} {x : Tim} (h : QuOk mo L S) (hi : idx L x.key = none) (hl : S.length < 10000) (hp : L'.Perm (L ++ [x])) (hh : HeapN ltT L' L'.length) : QuOk (some r) L' (setP x S) where
  l := by
    have hno : x.key ∉ S.map Tim.key := fun hx => idx_none.1 hi ((h.l.map Tim.key).mem_iff.2 hx)
    have e : setP x S = insT x S := by unfold setP; rw [wo_no hno]
    rw [e]
    exact hp.trans (List.perm_append_comm.trans ((h.l.cons x).trans (insT_perm _ _).symm))
  keys := keys_cons_wo h.keys
  sorted := sorted_set h.sorted
  heap := hh
  nil e := by cases e
  len := by
    have h1 : (setP x S).length = (wo x.key S).length + 1 := (insT_perm _ _).length_eq
    have h2 : (wo x.key S).length ≤ S.length := List.length_filter_le _ _
    omega
theorem QuOk.drop {mo mo' : Option Nat} {L L1 S : List Tim} {y : Tim} (h : QuOk mo L S) (hmo : mo' ≠ none) (hp : (L1 ++ [y]).Perm L) (hh : HeapN ltT L1 L1.length) : QuOk mo' L1 (wo y.key S) where
  l := (cut_perm (h.keys.perm h.l) hp).trans (wo_perm h.l)
  keys := h.keys.wo
  sorted := h.sorted.sublist List.filter_sublist
  heap := hh
  nil e := absurd e hmo
  len := Nat.le_trans (List.length_filter_le _ _) h.len
theorem QuOk.least {mo : Option Nat} {L S' : List Tim} {x x' : Tim} (h : QuOk mo L (x :: S')) (hx : L[0]? = some x') : x' = x := by
  have h1 : ∀ z, z ∈ L → ¬ ltT z x' := fun z hz => by
    obtain ⟨k, hk⟩ := List.getElem?_of_mem hz
    exact h.heap.root lt_tim (Nat.le_refl _) hx k (List.getElem?_eq_some_iff.1 hk).1 z hk
  have h2 := h1 x (h.l.mem_iff.2 (.head _))
  have h3 : x' ∈ x :: S' := h.l.mem_iff.1 (List.mem_of_getElem? hx)
  rcases List.mem_cons.1 h3 with e | e
  · exact e
  · exact absurd ((List.pairwise_cons.1 h.sorted).1 x' e) h2
theorem wo_head {x : Tim} {S : List Tim} (h : Keys (x :: S)) : wo x.key (x :: S) = S := by
  have := Keys.mid (A := []) h
  simpa using this
/-- What Pop hands back. -/
def popP (u : Int) : List Tim → List Tim × Tim × Bool
  | [] => ([], ⟨0, 0, 0⟩, false)
  | x :: r => if u < x.t then (x :: r, ⟨0, 0, 0⟩, false) else (r, x, true)
/-- When the timer of a kind and a number is due. -/
def atP (p : Int × Int) (S : List Tim) : Int × Bool := match S.find? fun x => decide (x.key = p) with | some x => (x.t, true) | none => (0, false)
theorem atP_some {p : Int × Int} {L S : List Tim} {i : Nat} {y : Tim} (hn : Keys S) (hp : L.Perm S) (hy : L[i]? = some y) (hk : y.key = p) : atP p S = (y.t, true) := by
  unfold atP
  have hm : y ∈ S := hp.mem_iff.1 (List.mem_of_getElem? hy)
  cases hf : S.find? fun x => decide (x.key = p) with
  | none =>
    have := List.find?_eq_none.1 hf y hm
    simp [hk] at this
  | some z =>
    have h1 := List.find?_some hf
    have h2 := List.mem_of_find?_eq_some hf
    have h3 : z.key = p := by simpa using h1
    have : z = y := by
      obtain ⟨a, ha⟩ := List.getElem?_of_mem h2
      obtain ⟨b, hb⟩ := List.getElem?_of_mem hm
      have e1 := idx_some hn ha
      have e2 := idx_some hn hb
      rw [h3] at e1
      rw [hk, e1] at e2
      obtain rfl := Option.some.inj e2
      rw [ha] at hb
      exact Option.some.inj hb
    rw [this]
theorem atP_none {p : Int × Int} {L S : List Tim} (hp : L.Perm S) (h : idx L p = none) : atP p S = (0, false) := by
  unfold atP
  have hno : p ∉ S.map Tim.key := fun hx => idx_none.1 h ((hp.map Tim.key).mem_iff.2 hx)
  have : (S.find? fun x => decide (x.key = p)) = none := by
    rw [List.find?_eq_none]
    intro x hx e
    exact hno (List.mem_map.2 ⟨x, hx, by simpa using e⟩)
  rw [this]
theorem lkv_some {K : Type} [DecidableEq K] {k : K} {M : List (K × Value)} {u z : Value} (h : mg k M = some u) : (if true = true then Value.tuple #[((lkG k M 0).map (·.2)).getD z, .bool (lkG k M 0).isSome] else ((lkG k M 0).map (·.2)).getD z) = .tuple #[u, .bool true] := by
  obtain ⟨j, hj, _⟩ := mg_lk h
  rw [hj]
  rfl
theorem lkv_none {K : Type} [DecidableEq K] {k : K} {M : List (K × Value)} {z : Value} (h : mg k M = none) : (if true = true then Value.tuple #[((lkG k M 0).map (·.2)).getD z, .bool (lkG k M 0).isSome] else ((lkG k M 0).map (·.2)).getD z) = .tuple #[z, .bool false] := by
  rw [mg_none.1 h]
  rfl
end Go.Proofs.Ytgpfedmfbkhhcaa.Du

