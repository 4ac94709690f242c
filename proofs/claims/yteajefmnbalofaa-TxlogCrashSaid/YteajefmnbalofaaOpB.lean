/- op: the reference's Looks, members, may, Right; Great. -/
import Derived.Test.YteajefmnbalofaaOpA2
import Derived.Test.YteajefmnbalofaaTab
namespace Go.Proofs.Yteajefmnbalofaa.OpA
open Go.RowKit Mem Gx
set_option linter.unusedVariables false
set_option linter.unusedSimpArgs false
set_option maxRecDepth 100000
set_option maxHeartbeats 2000000
/-- An operation: its numbers, its bytes, its members. -/
structure OpD where
  k : Int
  v : Int
  i : Int
  b : Int
  c : Int
  p : Int
  a : SlV
  D : List Int
  m : SlV
  M : List Int
def OpD.val (o : OpD) : Value := opV o.k o.v o.i o.b o.c o.p o.a.v o.m.v
structure OpD.Ok (o : OpD) : Prop where
  a : o.a.Ok o.D.length
  m : o.m.Ok o.M.length
/-- Its two slices. -/
def OpD.fs (o : OpD) : List Fact := [sl o.a.A 1 (IE .u8) o.D, sl o.m.A 1 (IE .i64) o.M]
structure OpD.In (o : OpD) (w : World) : Prop where
  a : Sl w o.a.A 1 (IE .u8) o.D
  m : Sl w o.m.A 1 (IE .i64) o.M
/-- What a kind looks at. -/
def looks (k : Int) : List Nat :=
  if k = 1 then [110] else if k = 2 then [118] else if k = 3 then [118, 110] else if k = 4 then [118, 98, 100] else if k = 5 then [118, 98, 110] else if k = 6 then [109]
  else if k = 7 ∨ k = 8 ∨ k = 9 then [105] else if k = 10 ∨ k = 11 ∨ k = 13 then [118, 112] else if k = 12 then [118, 105] else if k = 15 then [118, 98] else if k = 16 then [118, 98, 112]
  else if k = 18 then [112] else []
def strOf (l : List Nat) : ByteArray := ⟨(l.map UInt8.ofNat).toArray⟩
theorem looks_any (k : Int) (w : World) : Calls Try.prog 35 [.int .i64 k].toArray w fun e w' => e = .returned (.tuple #[.string (strOf (looks k)), .bool (tB (1 ≤ k ∧ k ≤ 19))]) ∧ Below w.heap.size w w' := by
  by_cases h : 1 ≤ k ∧ k ≤ 19
  · rw [tB_true h]
    rcases (show k = 1 ∨ k = 2 ∨ k = 3 ∨ k = 4 ∨ k = 5 ∨ k = 6 ∨ k = 7 ∨ k = 8 ∨ k = 9 ∨ k = 10 ∨ k = 11 ∨ k = 12 ∨ k = 13 ∨ k = 14 ∨ k = 15 ∨ k = 16 ∨ k = 17 ∨ k = 18 ∨ k = 19 by omega) with rfl | rfl | rfl | rfl | rfl | rfl | rfl | rfl | rfl | rfl | rfl | rfl | rfl | rfl | rfl | rfl | rfl | rfl | rfl
    all_goals refine g_enter0 T [] [] [] Try.func35 rfl Try.ntmps35 rfl (Kn.start _) ?_
    all_goals (repeat' (first | (refine gG ?_; try intro _) | ((first | refine g_split rfl rfl tE (fun _ => ?_) (fun _ => ?_) | refine gk_cond rfl rfl tE (fun _ => ?_) (fun _ => ?_)) <;> (try first | (exfalso; omega; done) | (rename_i hx; exact absurd rfl hx) | (rename_i hx; cases hx; done)))))
    all_goals refine gk_ret hT rfl rfl (.tmp rfl (.tmp rfl .nil)) (fun w' hk => ?_)
    all_goals exact ⟨rfl, hk.toBelow⟩
  · rw [tB_false h]
    have hl : looks k = [] := by unfold looks; repeat (first | rw [if_neg (by omega)] | rfl)
    rw [hl]
    refine g_enter0 T [] [] [] Try.func35 rfl Try.ntmps35 rfl (Kn.start _) ?_
    (repeat' (first | (refine gG ?_; try intro _) | ((first | refine g_split rfl rfl tE (fun _ => ?_) (fun _ => ?_) | refine gk_cond rfl rfl tE (fun _ => ?_) (fun _ => ?_)) <;> (try first | (exfalso; omega; done) | (rename_i hx; exact absurd rfl hx) | (rename_i hx; cases hx; done)))))
    all_goals (refine gk_ret hT rfl rfl (.tmp rfl (.tmp rfl .nil)) (fun w' hk => ?_); exact ⟨rfl, hk.toBelow⟩)
theorem great_any (o : OpD) (w : World) (ho : o.Ok) : Calls Try.prog 9 [o.val].toArray w fun e w' => e = .returned (.bool (tB (300 < o.D.length ∨ 100 < o.M.length))) ∧ Below w.heap.size w w' := by
  obtain ⟨h1, h2⟩ := ho
  have e1 := h1.n
  have e2 := h2.n
  refine g_enter0 T [] [] [] Try.func9 rfl Try.ntmps9 rfl (Kn.start _) ?_
  (repeat' (first | (refine gG ?_; try intro _) | ((first | refine g_split rfl rfl tE (fun _ => ?_) (fun _ => ?_) | refine gk_cond rfl rfl tE (fun _ => ?_) (fun _ => ?_)) <;> (try first | (exfalso; omega; done) | (rename_i hx; exact absurd rfl hx) | (rename_i hx; cases hx; done)))))
  all_goals (refine gk_ret hT rfl rfl (.tmp rfl .nil) (fun w' hk => ?_); exact ⟨ret_bool (by simp [tB_eq]; omega), hk.toBelow⟩)
theorem okAt_step {L : List Int} {k : Nat} {y : Int} (hy : L[k]? = some y) (last : Int) (hl : (k = 0 ∧ last = 0) ∨ (0 < k ∧ last = L.getD (k - 1) 0)) (hp : ∀ i, i < k → okAt L i = true) : okAt L k = true ↔ last < y ∧ y ≤ 65535 := by
  have hg : L.getD k 0 = y := by rw [List.getD_eq_getElem?_getD, hy]; rfl
  unfold okAt
  rw [hg]
  rcases hl with ⟨rfl, rfl⟩ | ⟨h0, e⟩
  · simp [idB, tB_eq]; omega
  · have h1 := hp (k - 1) (by omega)
    unfold okAt at h1
    rw [← e] at h1
    rw [← e]
    simp [idB, tB_eq] at h1 ⊢
    omega
theorem rmembers_any (A : Option Addr) (m c : Nat) (L : List Int) (w : World) (hm : m = L.length) (hm9 : m ≤ 9223372036854775807) (hs : Sl w A 1 (IE .i64) L) :
    Calls Try.prog 60 [.slice A m c].toArray w fun e w' => e = .returned (.bool (memB L)) ∧ Below w.heap.size w w' := by
  refine g_enter0 T [] [] [sl A 1 (IE .i64) L] Try.func60 rfl Try.ntmps60 rfl ((Kn.start w).argR hs (by decide) (fun _ h => by cases h)) ?_
  (repeat (refine gG ?_; try intro _))
  refine gk_loop (fun s : Nat × Int => s.1 ≤ L.length ∧ (∀ i, i < s.1 → okAt L i = true) ∧ ((s.1 = 0 ∧ s.2 = 0) ∨ (0 < s.1 ∧ s.2 = L.getD (s.1 - 1) 0))) (fun s => [(0, .slice A m c), (3, .int .i64 s.2), (4, .int .i64 s.1)]) (fun _ => []) (fun _ => [sl A 1 (IE .i64) L]) (fun s => L.length - s.1) (0, 0) rfl ⟨Nat.zero_le _, fun i hi => absurd hi (Nat.not_lt_zero _), .inl ⟨rfl, rfl⟩⟩ ⟨rfl, rfl, rfl, trivial⟩ sL sS ?_
  rintro ⟨k, last⟩ ⟨hk, hok, hlast⟩
  dsimp only at hk hok hlast
  (repeat (refine gG ?_; try intro _))
  refine gk_cond rfl rfl (tells_tB _) (fun h1 => ?_) (fun h1 => ?_)
  · refine gk_elem (enc := IE .i64) (L := L) k mE (by omega) (by decide) (fun b off y eA hy => ?_)
    subst eA
    have hst := okAt_step hy last hlast hok
    (repeat' (first | (refine gG ?_; try intro _) | ((first | refine g_split rfl rfl tE (fun _ => ?_) (fun _ => ?_) | refine gk_cond rfl rfl tE (fun _ => ?_) (fun _ => ?_)) <;> (try first | (exfalso; omega; done) | (rename_i hx; exact absurd rfl hx) | (rename_i hx; cases hx; done)))))
    all_goals first
      | (refine gk_ret hT rfl rfl (.tmp rfl .nil) (fun w' hk => ?_)
         refine ⟨?_, hk.toBelow⟩
         rw [mem_no (k := k) (by omega) (by rw [Bool.eq_false_iff]; exact fun h => absurd (hst.1 h) (by omega))]
         rfl)
      | (refine gk_again rfl (k + 1, y) ⟨by dsimp only; omega, fun i hi => ?_, .inr ⟨Nat.succ_pos _, ?_⟩⟩ (by dsimp only; omega) ⟨rfl, rfl, rfl, trivial⟩ sL sS
         · by_cases hik : i = k
           · subst hik; exact hst.2 (by omega)
           · exact hok i (by dsimp only at hi; omega)
         · show y = L.getD k 0
           rw [List.getD_eq_getElem?_getD, hy]; rfl)
  · have hkL : k = L.length := by omega
    have he := mem_end (L := L) (by rw [← hkL]; exact hok)
    (repeat' (first | (refine gG ?_; try intro _) | ((first | refine g_split rfl rfl tE (fun _ => ?_) (fun _ => ?_) | refine gk_cond rfl rfl tE (fun _ => ?_) (fun _ => ?_)) <;> (try first | (exfalso; omega; done) | (rename_i hx; exact absurd rfl hx) | (rename_i hx; cases hx; done)))))
    all_goals (refine gk_ret hT rfl rfl (.tmp rfl .nil) (fun w' hk => ?_); refine ⟨?_, hk.toBelow⟩; rw [he]; exact ret_bool (by simp [tB_eq]; omega))
/-- May what a letter stands for be? -/
noncomputable def mayB (o : OpD) (c : Int) : Bool :=
  if c = 118 then idB o.v else if c = 105 then idB o.i else if c = 98 then placeB o.b else if c = 110 then countB o.c
  else if c = 100 then tB (1 ≤ o.D.length ∧ o.D.length ≤ 64) else if c = 109 then memB o.M else true
theorem may_any (o : OpD) (c : Int) (w : World) (ho : o.Ok) (hi : o.In w) (h9 : o.M.length ≤ 9223372036854775807) : Calls Try.prog 36 [o.val, .int .u8 c].toArray w fun e w' => e = .returned (.bool (mayB o c)) ∧ Below w.heap.size w w' := by
  obtain ⟨h1, h2⟩ := ho
  have e1 := h1.n
  have e2 := h2.n
  refine g_enter0 T [] [] [sl o.m.A 1 (IE .i64) o.M] Try.func36 rfl Try.ntmps36 rfl ((Kn.start w).argR hi.m (by decide) (fun _ h => by cases h)) ?_
  (repeat' (first | (refine gG ?_; try intro _) | (refine g_mv rfl ?_; first | refine mv_call_bel (fun w hk => rmembers_any _ _ _ o.M w e2 (by omega) (hk.pR (sl o.m.A 1 (IE .i64) o.M) mE)) rfl rfl rfl rfl rfl (by kernel_rfl) ?_) | ((first | refine g_split rfl rfl tE (fun _ => ?_) (fun _ => ?_) | refine gk_cond rfl rfl tE (fun _ => ?_) (fun _ => ?_)) <;> (try first | (exfalso; omega; done) | (rename_i hx; exact absurd rfl hx) | (rename_i hx; cases hx; done)))))
  all_goals (refine gk_ret hT rfl rfl (.tmp rfl .nil) (fun w' hk => ?_); refine ⟨ret_bool ?_, hk.toBelow⟩; (simp [mayB, idB, placeB, countB, tB_eq, *] <;> omega))
theorem all_take {α : Type} {p : α → Bool} {l : List α} {k : Nat} {x : α} (h : l[k]? = some x) : (l.take (k + 1)).all p = ((l.take k).all p && p x) := by
  have hk : k < l.length := by
    rcases Nat.lt_or_ge k l.length with h1 | h1
    · exact h1
    · rw [List.getElem?_eq_none h1] at h; cases h
  rw [List.take_succ_eq_append_getElem hk, List.all_append]
  rw [List.getElem?_eq_getElem hk] at h
  injection h with h
  simp [h]
theorem looks_lt (k : Int) : ∀ x ∈ looks k, x < 256 := by
  unfold looks
  intro x hx
  repeat' (split at hx)
  all_goals first | (simp at hx; done) | (simp at hx; omega)
theorem strOf_get {l : List Nat} {k x : Nat} (h : l[k]? = some x) : (strOf l).data.toList[k]? = some (UInt8.ofNat x) := by
  simp [strOf, h]
theorem strOf_size (l : List Nat) : (strOf l).size = l.length := by simp [strOf, ByteArray.size]
theorem ofNat_toNat {x : Nat} (h : x < 256) : (UInt8.ofNat x).toNat = x := by
  rw [UInt8.toNat_ofNat']; omega
/-- The reference's Right. -/
noncomputable def rrightB (o : OpD) : Bool := tB (1 ≤ o.k ∧ o.k ≤ 19) && (looks o.k).all (fun c => mayB o c)
end Go.Proofs.Yteajefmnbalofaa.OpA
