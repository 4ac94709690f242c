/- Rows as one, by keys (plain): entries put in one by one; the least head first. -/
import Derived.Test.YtmbphmckakigaaaNdL
namespace Go.Proofs.Ytmbphmckakigaaa.Mg
open Nd Gx
set_option linter.unusedVariables false
set_option linter.unusedSimpArgs false
set_option maxRecDepth 100000
/-- Keys do not fall. -/
def Srt (l : List EntD) : Prop := l.Pairwise fun x y => ¬ klt y.k x.k
/-- An entry more, behind all that are not above it. -/
noncomputable def ins : List EntD → EntD → List EntD
  | [], x => [x]
  | y :: W, x => if tB (klt x.k y.k) = true then x :: y :: W else y :: ins W x
noncomputable def insRow (W : List EntD) (r : List EntD) : List EntD := r.foldl ins W
noncomputable def insAll (R : List (List EntD)) : List EntD := R.foldl insRow []
theorem klt_irr (a : KeyD) : ¬ klt a a := by unfold klt; omega
theorem klt_asym {a b : KeyD} (h : klt a b) : ¬ klt b a := by unfold klt at *; omega
theorem nlt_trans {a b c : KeyD} (h1 : ¬ klt b a) (h2 : ¬ klt c b) : ¬ klt c a := by unfold klt at *; omega
theorem klt_nlt {a b c : KeyD} (h1 : klt a b) (h2 : ¬ klt c b) : klt a c := by unfold klt at *; omega
theorem ins_gt {W : List EntD} {x : EntD} (h : ∀ y ∈ W, klt x.k y.k) : ins W x = x :: W := by
  cases W with
  | nil => rfl
  | cons y W => unfold ins; rw [if_pos (tB_true (h y (.head _)))]
theorem ins_le {W : List EntD} {e x : EntD} (h : ¬ klt x.k e.k) : ins (e :: W) x = e :: ins W x := by
  show (if tB (klt x.k e.k) = true then _ else _) = _
  rw [if_neg (by rw [tB_false h]; decide)]
theorem insRow_le {e : EntD} : ∀ (r W : List EntD), (∀ x ∈ r, ¬ klt x.k e.k) → insRow (e :: W) r = e :: insRow W r
  | [], W, _ => rfl
  | x :: r, W, h => by
    show insRow (ins (e :: W) x) r = _
    rw [ins_le (h x (.head _)), insRow_le r (ins W x) fun y hy => h y (.tail _ hy)]
    rfl
theorem foldRow_le {e : EntD} : ∀ (R : List (List EntD)) (W : List EntD), (∀ r ∈ R, ∀ x ∈ r, ¬ klt x.k e.k) → R.foldl insRow (e :: W) = e :: R.foldl insRow W
  | [], W, _ => rfl
  | r :: R, W, h => by
    show R.foldl insRow (insRow (e :: W) r) = _
    rw [insRow_le r W (h r (.head _)), foldRow_le R _ fun q hq => h q (.tail _ hq)]
    rfl
theorem ins_mem {W : List EntD} {x y : EntD} (h : y ∈ ins W x) : y = x ∨ y ∈ W := by
  induction W with
  | nil => exact .inl (List.mem_singleton.1 h)
  | cons z W ih =>
    unfold ins at h
    split at h
    · rcases List.mem_cons.1 h with h | h
      · exact .inl h
      · exact .inr h
    · rcases List.mem_cons.1 h with h | h
      · exact .inr (by rw [h]; exact .head _)
      · rcases ih h with h | h
        · exact .inl h
        · exact .inr (.tail _ h)
theorem insRow_mem {r : List EntD} : ∀ {W : List EntD} {y : EntD}, y ∈ insRow W r → y ∈ r ∨ y ∈ W := by
  induction r with
  | nil => intro W y h; exact .inr h
  | cons x r ih =>
    intro W y h
    rcases ih (W := ins W x) h with h | h
    · exact .inl (.tail _ h)
    · rcases ins_mem h with h | h
      · exact .inl (by rw [h]; exact .head _)
      · exact .inr h
theorem foldRow_mem {R : List (List EntD)} : ∀ {W : List EntD} {y : EntD}, y ∈ R.foldl insRow W → (∃ r, r ∈ R ∧ y ∈ r) ∨ y ∈ W := by
  induction R with
  | nil => intro W y h; exact .inr h
  | cons r R ih =>
    intro W y h
    rcases ih (W := insRow W r) h with ⟨q, h1, h2⟩ | h
    · exact .inl ⟨q, .tail _ h1, h2⟩
    · rcases insRow_mem h with h | h
      · exact .inl ⟨r, .head _, h⟩
      · exact .inr h
/-- The least head comes first. -/
theorem ins_next {A B : List (List EntD)} {e : EntD} {t : List EntD} (hA : ∀ r ∈ A, ∀ x ∈ r, klt e.k x.k) (ht : ∀ x ∈ t, ¬ klt x.k e.k) (hB : ∀ r ∈ B, ∀ x ∈ r, ¬ klt x.k e.k) : insAll (A ++ (e :: t) :: B) = e :: insAll (A ++ t :: B) := by
  unfold insAll
  rw [List.foldl_append, List.foldl_append]
  show B.foldl insRow (insRow (ins (A.foldl insRow []) e) t) = e :: B.foldl insRow (insRow (A.foldl insRow []) t)
  have h0 : ∀ y ∈ A.foldl insRow [], klt e.k y.k := fun y hy => by
    rcases foldRow_mem hy with ⟨r, h1, h2⟩ | h
    · exact hA r h1 y h2
    · cases h
  rw [ins_gt h0, insRow_le t _ ht, foldRow_le B _ hB]
theorem ins_len (W : List EntD) (x : EntD) : (ins W x).length = W.length + 1 := by
  induction W with
  | nil => rfl
  | cons y W ih =>
    unfold ins
    split
    · rfl
    · show (ins W x).length + 1 = _
      rw [ih]
      rfl
theorem insRow_len : ∀ (r W : List EntD), (insRow W r).length = W.length + r.length
  | [], W => rfl
  | x :: r, W => by
    show (insRow (ins W x) r).length = _
    rw [insRow_len r, ins_len, List.length_cons]
    omega
theorem foldRow_len : ∀ (R : List (List EntD)) (W : List EntD), (R.foldl insRow W).length = W.length + R.flatten.length
  | [], W => rfl
  | r :: R, W => by
    show (R.foldl insRow (insRow W r)).length = _
    rw [foldRow_len R, insRow_len, List.flatten_cons, List.length_append]
    omega
theorem insAll_len (R : List (List EntD)) : (insAll R).length = R.flatten.length := by
  unfold insAll
  rw [foldRow_len, List.length_nil, Nat.zero_add]
/-- Nothing is left: nothing comes. -/
theorem insAll_nil {R : List (List EntD)} (h : ∀ r ∈ R, r = []) : insAll R = [] := by
  have h1 := insAll_len R
  have h2 : R.flatten = [] := List.flatten_eq_nil_iff.2 h
  rw [h2] at h1
  exact List.length_eq_zero_iff.1 h1
theorem ins_srt {W : List EntD} {x : EntD} (h : Srt W) : Srt (ins W x) := by
  induction W with
  | nil => exact List.pairwise_singleton _ _
  | cons y W ih =>
    obtain ⟨h1, h2⟩ := List.pairwise_cons.1 h
    unfold ins
    split
    · rename_i hx
      have hxy := tB_iff.1 hx
      refine List.pairwise_cons.2 ⟨fun z hz => ?_, h⟩
      rcases List.mem_cons.1 hz with rfl | hz
      · exact klt_asym hxy
      · exact klt_asym (klt_nlt hxy (h1 z hz))
    · rename_i hx
      have hxy : ¬ klt x.k y.k := fun h => hx (tB_true h)
      refine List.pairwise_cons.2 ⟨fun z hz => ?_, ih h2⟩
      rcases ins_mem hz with rfl | hz
      · exact hxy
      · exact h1 z hz
theorem insRow_srt : ∀ (r : List EntD) {W : List EntD}, Srt W → Srt (insRow W r)
  | [], _, h => h
  | x :: r, _, h => insRow_srt r (ins_srt h)
theorem foldRow_srt : ∀ (R : List (List EntD)) {W : List EntD}, Srt W → Srt (R.foldl insRow W)
  | [], _, h => h
  | r :: R, _, h => foldRow_srt R (insRow_srt r h)
/-- Where an entry is put: found from behind. -/
theorem ins_at {W : List EntD} {x : EntD} (hs : Srt W) : ∀ p, p ≤ W.length → (∀ m y, p ≤ m → W[m]? = some y → klt x.k y.k) → (∀ y, 0 < p → W[p - 1]? = some y → ¬ klt x.k y.k) → ins W x = W.take p ++ x :: W.drop p := by
  induction W with
  | nil => intro p hp _ _; obtain rfl : p = 0 := by simpa using hp
           rfl
  | cons y W ih =>
    intro p hp h1 h2
    obtain ⟨s1, s2⟩ := List.pairwise_cons.1 hs
    cases p with
    | zero =>
      unfold ins
      rw [if_pos (tB_true (h1 0 y (Nat.le_refl _) rfl))]
      rfl
    | succ p =>
      have hxy : ¬ klt x.k y.k := by
        cases p with
        | zero => exact h2 y (by omega) rfl
        | succ p =>
          have hp' : p < W.length := by rw [List.length_cons] at hp; omega
          obtain ⟨z, hz⟩ : ∃ z, W[p]? = some z := ⟨W[p], List.getElem?_eq_getElem hp'⟩
          have h3 := h2 z (by omega) (by show (y :: W)[p + 1]? = _; rw [List.getElem?_cons_succ]; exact hz)
          exact fun h => h3 (klt_nlt h (s1 z (List.mem_of_getElem? hz)))
      rw [ins_le hxy, ih s2 p (by rw [List.length_cons] at hp; omega) (fun m z hm hz => h1 (m + 1) z (by omega) (by rw [List.getElem?_cons_succ]; exact hz)) (fun z h0 hz => h2 z (by omega) (by
        obtain ⟨q, rfl⟩ : ∃ q, p = q + 1 := ⟨p - 1, by omega⟩
        show (y :: W)[q + 1]? = _
        rw [List.getElem?_cons_succ]
        exact hz))]
      rfl
/-! ### of each key the last one -/
/-- One more: it takes the place of the last one, if that has its key. -/
noncomputable def lstep (out : List EntD) (e : EntD) : List EntD :=
  match out.getLast? with
  | some z => if tB (z.k = e.k) = true then out.dropLast ++ [e] else out ++ [e]
  | none => out ++ [e]
noncomputable def lastS (W : List EntD) : List EntD := W.foldl lstep []
theorem lstep_snoc (K : List EntD) (z e : EntD) : lstep (K ++ [z]) e = if tB (z.k = e.k) = true then K ++ [e] else K ++ [z] ++ [e] := by
  unfold lstep
  rw [List.getLast?_concat]
  show (if _ then _ else _) = _
  rw [List.dropLast_concat]
/-- Those whose key is another one than the next one's. -/
noncomputable def keepS (W : List EntD) : Nat → List EntD
  | 0 => []
  | i + 1 => match W[i]?, W[i + 1]? with
    | some x, some y => if tB (y.k = x.k) = true then keepS W i else keepS W i ++ [x]
    | some x, none => keepS W i ++ [x]
    | none, _ => keepS W i
theorem keep_last (W : List EntD) : ∀ i x, W[i]? = some x → lastS (W.take (i + 1)) = keepS W i ++ [x]
  | 0, x, h => by
    obtain ⟨h1, h2⟩ := List.getElem?_eq_some_iff.1 h
    rw [List.take_succ_eq_append_getElem h1, h2, List.take_zero]
    rfl
  | i + 1, x, h => by
    obtain ⟨h1, h2⟩ := List.getElem?_eq_some_iff.1 h
    obtain ⟨z, hz⟩ : ∃ z, W[i]? = some z := ⟨W[i], List.getElem?_eq_getElem (by omega)⟩
    rw [List.take_succ_eq_append_getElem h1, h2]
    unfold lastS
    rw [List.foldl_append]
    show lstep (lastS (W.take (i + 1))) x = _
    rw [keep_last W i z hz, lstep_snoc]
    show _ = (match W[i]?, W[i + 1]? with | some x, some y => if tB (y.k = x.k) = true then keepS W i else keepS W i ++ [x] | some x, none => keepS W i ++ [x] | none, _ => keepS W i) ++ [x]
    rw [hz, h]
    by_cases hk : z.k = x.k
    · rw [if_pos (tB_true hk)]
      show _ = (if _ then _ else _) ++ _
      rw [if_pos (tB_true hk.symm)]
    · rw [if_neg (by rw [tB_false hk]; decide)]
      show _ = (if _ then _ else _) ++ _
      rw [if_neg (by rw [tB_false fun h => hk h.symm]; decide)]
theorem keep_all (W : List EntD) : keepS W W.length = lastS W := by
  rcases List.eq_nil_or_concat W with rfl | ⟨L, x, rfl⟩
  · rfl
  · have hx : (L.concat x)[L.length]? = some x := by rw [List.concat_eq_append, List.getElem?_append_right (Nat.le_refl _), Nat.sub_self]; rfl
    have hl : (L.concat x).length = L.length + 1 := by simp
    have h1 := keep_last (L.concat x) L.length x hx
    rw [← hl, List.take_length] at h1
    rw [hl, h1]
    show (match (L.concat x)[L.length]?, (L.concat x)[L.length + 1]? with | some x', some y => if tB (y.k = x'.k) = true then keepS (L.concat x) L.length else keepS (L.concat x) L.length ++ [x'] | some x', none => keepS (L.concat x) L.length ++ [x'] | none, _ => keepS (L.concat x) L.length) = _
    rw [hx, List.getElem?_eq_none (by omega)]
end Go.Proofs.Ytmbphmckakigaaa.Mg

