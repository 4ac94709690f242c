/- Names: rows and maps, plain. -/
import Derived.Test.YtdkgmgfadpnhbaaGxW
import Derived.Test.YtdkgmgfadpnhbaaGxE
import Derived.Test.YtdkgmgfadpnhbaaGxS
namespace Go.Proofs.Ytdkgmgfadpnhbaa.Nm
open Go.RowKit Mem Gx
set_option linter.unusedVariables false
set_option linter.unusedSimpArgs false
set_option maxRecDepth 100000
/-- A volume's name. -/
structure NmD where
  id : Int
  s : ByteArray
deriving Inhabited
def NE (y : NmD) : Nat → Value
  | 0 => .int .i64 y.id
  | _ => .string y.s
/-- The place of the first that is so; -1: there is none. -/
def posF {α : Type} (p : α → Bool) (l : List α) : Int := if l.findIdx p < l.length then (l.findIdx p : Nat) else -1
theorem posF_some {α : Type} {p : α → Bool} {l : List α} {i : Nat} {y : α} (hy : l[i]? = some y) (hp : p y = true) (hno : ∀ j z, j < i → l[j]? = some z → p z = false) : posF p l = (i : Int) := by
  obtain ⟨hi, e⟩ := List.getElem?_eq_some_iff.1 hy
  have h : l.findIdx p = i := (List.findIdx_eq hi).2 ⟨by rw [e]; exact hp, fun j hj => hno j _ hj (List.getElem?_eq_getElem (by omega))⟩
  unfold posF
  rw [h, if_pos hi]
theorem posF_none {α : Type} {p : α → Bool} {l : List α} (h : ∀ y, y ∈ l → p y = false) : posF p l = -1 := by
  unfold posF
  rw [if_neg]
  intro h2
  have := List.findIdx_getElem (w := h2)
  rw [h _ (List.getElem_mem _)] at this
  cases this
theorem posF_cases {α : Type} (p : α → Bool) (l : List α) : (posF p l = -1 ∧ ∀ y, y ∈ l → p y = false) ∨ ∃ (i : Nat) (y : α), posF p l = (i : Int) ∧ l[i]? = some y ∧ p y = true ∧ ∀ j z, j < i → l[j]? = some z → p z = false := by
  by_cases h : l.findIdx p < l.length
  · refine .inr ⟨l.findIdx p, l[l.findIdx p], ?_, List.getElem?_eq_getElem h, List.findIdx_getElem, fun j z hj hz => ?_⟩
    · unfold posF; rw [if_pos h]
    · have := List.not_of_lt_findIdx hj
      obtain ⟨h1, e⟩ := List.getElem?_eq_some_iff.1 hz
      rw [← e]
      simpa using this
  · refine .inl ⟨?_, fun y hy => ?_⟩
    · unfold posF; rw [if_neg h]
    · have h2 : ¬ ∃ x, x ∈ l ∧ p x = true := fun ⟨x, h3, h4⟩ => h (List.findIdx_lt_length_of_exists ⟨x, h3, h4⟩)
      cases hp : p y with
      | false => rfl
      | true => exact absurd ⟨y, hy, hp⟩ h2
abbrev pI (id : Int) (y : NmD) : Bool := decide (y.id = id)
abbrev pS (s : ByteArray) (y : NmD) : Bool := decide (y.s = s)
/-- A row without a volume. -/
def dropN (l : List NmD) (id : Int) : List NmD := l.filter fun y => decide (y.id ≠ id)
theorem dropN_no {l : List NmD} {id : Int} (h : ∀ y, y ∈ l → pI id y = false) : dropN l id = l :=
  List.filter_eq_self.2 fun y hy => by have := h y hy; simpa using this
theorem dropN_at {l : List NmD} {id : Int} {i : Nat} {y : NmD} (hn : (l.map (·.id)).Nodup) (hy : l[i]? = some y) (hid : y.id = id) : l.take i ++ l.drop (i + 1) = dropN l id := by
  have hi := (List.getElem?_eq_some_iff.1 hy).1
  have e : l = l.take i ++ y :: l.drop (i + 1) := by
    rw [← (List.getElem?_eq_some_iff.1 hy).2, ← List.drop_eq_getElem_cons hi, List.take_append_drop]
  rw [e, List.map_append, List.map_cons, List.nodup_append] at hn
  obtain ⟨_, h2, h3⟩ := hn
  rw [List.nodup_cons] at h2
  unfold dropN
  conv => rhs; rw [e]
  rw [List.filter_append, List.filter_cons, if_neg (by simp [hid])]
  rw [List.filter_eq_self.2, List.filter_eq_self.2]
  · intro z hz
    have : z.id ≠ y.id := fun h => h2.1 (h ▸ List.mem_map_of_mem hz)
    simpa [← hid] using this
  · intro z hz
    have : z.id ≠ y.id := h3 _ (List.mem_map_of_mem hz) _ (.head _)
    simpa [← hid] using this
theorem find_uniq {α : Type} [DecidableEq α] {f : NmD → α} : ∀ {l : List NmD} {a : α} {y : NmD}, (l.map f).Nodup → (l.find? (fun y => decide (f y = a)) = some y ↔ y ∈ l ∧ f y = a) := by
  intro l a y hn
  constructor
  · intro h
    exact ⟨List.mem_of_find?_eq_some h, by have := List.find?_some h; simpa using this⟩
  · rintro ⟨h1, h2⟩
    induction l with
    | nil => cases h1
    | cons z l ih =>
      rw [List.map_cons, List.nodup_cons] at hn
      rw [List.find?_cons]
      by_cases hz : f z = a
      · rw [decide_eq_true hz]
        rcases List.mem_cons.1 h1 with rfl | h1
        · rfl
        · exact absurd (List.mem_map_of_mem (f := f) h1) (by rw [h2, ← hz]; exact hn.1)
      · rw [decide_eq_false hz]
        rcases List.mem_cons.1 h1 with rfl | h1
        · exact absurd h2 hz
        · exact ih hn.2 h1
theorem find_none {α : Type} [DecidableEq α] {f : NmD → α} {l : List NmD} {a : α} : l.find? (fun y => decide (f y = a)) = none ↔ ∀ y, y ∈ l → f y ≠ a := by
  rw [List.find?_eq_none]
  exact ⟨fun h y hy => by have := h y hy; simpa using this, fun h y hy => by have := h y hy; simpa using this⟩
def gS (l : List NmD) (s : ByteArray) : Option Value := (l.find? (fun y => decide (y.s = s))).map fun y => .int .i64 y.id
def gI (l : List NmD) (i : Int) : Option Value := (l.find? (fun y => decide (y.id = i))).map fun y => .agg #[.string y.s]
/-- A table: its maps (if there are some). -/
structure NTab where
  r : Option (Nat × Nat)
  M1 : List (ByteArray × Value)
  M2 : List (Int × Value)
abbrev noS : ByteArray := { data := #[] }
/-- The table is of a row. -/
structure NtI (T : NTab) (l : List NmD) : Prop where
  nil : T.r = none → l = []
  ids : (l.map (·.id)).Nodup
  nms : (l.map (·.s)).Nodup
  m1 : MapIs T.M1 (gS l)
  m2 : MapIs T.M2 (gI l)
  ne : ∀ y, y ∈ l → y.s ≠ noS
  len : l.length ≤ 1000
theorem dropN_mem {l : List NmD} {id : Int} {y : NmD} : y ∈ dropN l id ↔ y ∈ l ∧ y.id ≠ id := by
  unfold dropN
  rw [List.mem_filter]
  simp
theorem dropN_len (l : List NmD) (id : Int) : (dropN l id).length ≤ l.length := List.length_filter_le _ _
theorem dropN_ids {l : List NmD} {id : Int} (h : (l.map (·.id)).Nodup) : ((dropN l id).map (·.id)).Nodup := h.sublist (List.filter_sublist.map _)
theorem dropN_nms {l : List NmD} {id : Int} (h : (l.map (·.s)).Nodup) : ((dropN l id).map (·.s)).Nodup := h.sublist (List.filter_sublist.map _)
theorem opt_ext {a b : Option NmD} (h : ∀ y, a = some y ↔ b = some y) : a = b := by
  cases a with
  | none =>
    cases b with
    | none => rfl
    | some y => exact (h y).2 rfl
  | some y => exact ((h y).1 rfl).symm
theorem gI_drop {l : List NmD} (hn : (l.map (·.id)).Nodup) (id i : Int) : gI (dropN l id) i = if i = id then none else gI l i := by
  unfold gI
  by_cases e : i = id
  · rw [if_pos e, (find_none (f := fun y : NmD => y.id)).2 fun y hy => by rw [e]; exact (dropN_mem.1 hy).2]
    rfl
  · rw [if_neg e]
    congr 1
    refine opt_ext fun y => ?_
    rw [find_uniq (f := fun y : NmD => y.id) (dropN_ids hn), find_uniq (f := fun y : NmD => y.id) hn, dropN_mem]
    exact ⟨fun h => ⟨h.1.1, h.2⟩, fun h => ⟨⟨h.1, by rw [h.2]; exact e⟩, h.2⟩⟩
/-- Of the volume's name nothing stays. -/
theorem gS_drop {l : List NmD} (hi : (l.map (·.id)).Nodup) (hn : (l.map (·.s)).Nodup) {id : Int} {y : NmD} (hy : y ∈ l) (hid : y.id = id) (s : ByteArray) : gS (dropN l id) s = if s = y.s then none else gS l s := by
  have huniq : ∀ z, z ∈ l → z.s = y.s → z = y := fun z hz e => by
    have h1 := (find_uniq (f := fun y : NmD => y.s) (a := y.s) (y := z) hn).2 ⟨hz, e⟩
    have h2 := (find_uniq (f := fun y : NmD => y.s) (a := y.s) (y := y) hn).2 ⟨hy, rfl⟩
    exact Option.some.inj (h1.symm.trans h2)
  have hiq : ∀ z, z ∈ l → z.id = y.id → z = y := fun z hz e => by
    have h1 := (find_uniq (f := fun y : NmD => y.id) (a := y.id) (y := z) hi).2 ⟨hz, e⟩
    have h2 := (find_uniq (f := fun y : NmD => y.id) (a := y.id) (y := y) hi).2 ⟨hy, rfl⟩
    exact Option.some.inj (h1.symm.trans h2)
  unfold gS
  by_cases e : s = y.s
  · rw [if_pos e, (find_none (f := fun y : NmD => y.s)).2 fun z hz h => (dropN_mem.1 hz).2 (by rw [huniq z (dropN_mem.1 hz).1 (h.trans e)]; exact hid)]
    rfl
  · rw [if_neg e]
    congr 1
    refine opt_ext fun z => ?_
    rw [find_uniq (f := fun y : NmD => y.s) (dropN_nms hn), find_uniq (f := fun y : NmD => y.s) hn, dropN_mem]
    exact ⟨fun h => ⟨h.1.1, h.2⟩, fun h => ⟨⟨h.1, fun h2 => e (by rw [← h.2, hiq z h.1 (h2.trans hid.symm)])⟩, h.2⟩⟩
theorem gS_add {l : List NmD} (d : NmD) (hd : ∀ y, y ∈ l → y.s ≠ d.s) (s : ByteArray) : gS (l ++ [d]) s = if s = d.s then some (.int .i64 d.id) else gS l s := by
  unfold gS
  rw [List.find?_append]
  by_cases e : s = d.s
  · rw [if_pos e, (find_none (f := fun y : NmD => y.s)).2 fun y hy => by rw [e]; exact hd y hy, Option.none_or, List.find?_cons, decide_eq_true e.symm]
    rfl
  · rw [if_neg e, List.find?_cons, decide_eq_false (fun h => e h.symm), List.find?_nil, Option.or_none]
theorem gI_add {l : List NmD} (d : NmD) (hd : ∀ y, y ∈ l → y.id ≠ d.id) (i : Int) : gI (l ++ [d]) i = if i = d.id then some (.agg #[.string d.s]) else gI l i := by
  unfold gI
  rw [List.find?_append]
  by_cases e : i = d.id
  · rw [if_pos e, (find_none (f := fun y : NmD => y.id)).2 fun y hy => by rw [e]; exact hd y hy, Option.none_or, List.find?_cons, decide_eq_true e.symm]
    rfl
  · rw [if_neg e, List.find?_cons, decide_eq_false (fun h => e h.symm), List.find?_nil, Option.or_none]
theorem gI_some {l : List NmD} (hn : (l.map (·.id)).Nodup) {y : NmD} (hy : y ∈ l) : gI l y.id = some (.agg #[.string y.s]) := by
  unfold gI
  rw [(find_uniq (f := fun y : NmD => y.id) hn).2 ⟨hy, rfl⟩]
  rfl
theorem gI_none {l : List NmD} {id : Int} (h : ∀ y, y ∈ l → y.id ≠ id) : gI l id = none := by
  unfold gI
  rw [(find_none (f := fun y : NmD => y.id)).2 h]
  rfl
theorem gS_some {l : List NmD} (hn : (l.map (·.s)).Nodup) {y : NmD} (hy : y ∈ l) : gS l y.s = some (.int .i64 y.id) := by
  unfold gS
  rw [(find_uniq (f := fun y : NmD => y.s) hn).2 ⟨hy, rfl⟩]
  rfl
theorem gS_none {l : List NmD} {s : ByteArray} (h : ∀ y, y ∈ l → y.s ≠ s) : gS l s = none := by
  unfold gS
  rw [(find_none (f := fun y : NmD => y.s)).2 h]
  rfl
theorem nodup_snoc {α : Type} {L : List α} {x : α} (h : L.Nodup) (hx : x ∉ L) : (L ++ [x]).Nodup := by
  rw [List.nodup_append]
  exact ⟨h, by simp, fun a ha b hb => by obtain rfl := List.mem_singleton.1 hb; exact fun e => hx (e ▸ ha)⟩
theorem nti0 : NtI ⟨none, [], []⟩ [] := ⟨fun _ => rfl, List.nodup_nil, List.nodup_nil, MapIs.nil.congr fun k => rfl, MapIs.nil.congr fun k => rfl, fun y h => (by cases h), Nat.zero_le _⟩
theorem NtI.drop {T : NTab} {l : List NmD} (h : NtI T l) {y : NmD} (hy : y ∈ l) {r : Option (Nat × Nat)} (hr : r = none → dropN l y.id = []) : NtI ⟨r, mdG y.s T.M1, mdG y.id T.M2⟩ (dropN l y.id) :=
  ⟨hr, dropN_ids h.ids, dropN_nms h.nms, h.m1.del fun k => gS_drop h.ids h.nms hy rfl k, h.m2.del fun k => gI_drop h.ids y.id k, fun z hz => h.ne z (dropN_mem.1 hz).1, Nat.le_trans (dropN_len _ _) h.len⟩
theorem mdG_no {K : Type} [DecidableEq K] {k : K} {M : List (K × Value)} (h : mg k M = none) : mdG k M = M := by
  unfold mdG
  rw [mg_none.1 h]
theorem NtI.no1 {T : NTab} {l : List NmD} (h : NtI T l) : mdG noS T.M1 = T.M1 := mdG_no ((h.m1.get noS).trans (gS_none h.ne))
theorem NtI.no2 {T : NTab} {l : List NmD} (h : NtI T l) {id : Int} (hid : ∀ y, y ∈ l → y.id ≠ id) : mdG id T.M2 = T.M2 := mdG_no ((h.m2.get id).trans (gI_none hid))
theorem NtI.add {T : NTab} {l : List NmD} (h : NtI T l) (d : NmD) (h1 : ∀ y, y ∈ l → y.s ≠ d.s) (h2 : ∀ y, y ∈ l → y.id ≠ d.id) (h3 : d.s ≠ noS) (h9 : l.length < 1000) {r : Nat × Nat} : NtI ⟨some r, T.M1 ++ [(d.s, .int .i64 d.id)], T.M2 ++ [(d.id, .agg #[.string d.s])]⟩ (l ++ [d]) :=
  ⟨fun e => (by cases e), by rw [List.map_append]; exact nodup_snoc h.ids fun hm => (by obtain ⟨y, hy, e⟩ := List.mem_map.1 hm; exact h2 y hy e), by rw [List.map_append]; exact nodup_snoc h.nms fun hm => (by obtain ⟨y, hy, e⟩ := List.mem_map.1 hm; exact h1 y hy e),
   by rw [← msG_none (v := .int .i64 d.id) (mg_none.1 ((h.m1.get d.s).trans (gS_none h1)))]; exact h.m1.set fun k => gS_add d h1 k,
   by rw [← msG_none (v := .agg #[.string d.s]) (mg_none.1 ((h.m2.get d.id).trans (gI_none h2)))]; exact h.m2.set fun k => gI_add d h2 k,
   fun y hy => by rcases List.mem_append.1 hy with hy | hy; exact h.ne y hy; obtain rfl := List.mem_singleton.1 hy; exact h3, by rw [List.length_append, List.length_singleton]; omega⟩
end Go.Proofs.Ytdkgmgfadpnhbaa.Nm

