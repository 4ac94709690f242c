/- Law 58: rules and timers, call by call, plain. -/
import Derived.Test.YtgpfedmfbkhhcaaSd6
namespace Go.Proofs.Ytgpfedmfbkhhcaa.Sd
open Go.RowKit Mem Gx Hp Du Dv OpA
set_option linter.unusedVariables false
set_option linter.unusedSimpArgs false
set_option maxRecDepth 100000
set_option maxHeartbeats 1000000
/-- What is known of the plan and of the law's rules. -/
structure SdI (i : Nat) (s : QuS) (PL : List RuD) (S : List Tim) (L : List LrD) : Prop where
  q : QuOk s.mo s.L S
  rel : RelL L S
  len : PL.length = L.length
  ls : S.length ≤ L.length
  b : L.length ≤ i
  r : ∀ (j : Nat) (x : RuD) (y : LrD), PL[j]? = some x → L[j]? = some y → x.e = y.r.e ∧ PlainAt y.r.o (looks y.r.o.k) x.o
  ok : ∀ y, y ∈ L → LrOk y
section
variable {i : Nat} {s q : QuS} {PL : List RuD} {S : List Tim} {L : List LrD}
theorem SdI.same (h : SdI i s PL S L) : SdI (i + 1) s PL S L := ⟨h.q, h.rel, h.len, h.ls, Nat.le_succ_of_le h.b, h.r, h.ok⟩
theorem SdI.tok (h : SdI i s PL S L) : TOk S PL.length := fun x hx => by
  obtain ⟨b1, b2, y, b3, b4, b5⟩ := h.rel.b x hx
  have hl := (List.getElem?_eq_some_iff.1 b3).1
  have ho := h.ok y (List.mem_of_getElem? b3)
  have h1 := ho.t0
  have h2 := ho.t9
  have h3 := h.len
  exact ⟨b1, b2, by omega, by omega, by omega⟩
theorem SdI.okP (h : SdI i s PL S L) : ∀ x, x ∈ PL → RuOk x := fun x hx => by
  obtain ⟨j, hj⟩ := List.getElem?_of_mem hx
  have hl := (List.getElem?_eq_some_iff.1 hj).1
  have hl2 : j < L.length := by have := h.len; omega
  have hy : L[j]? = some L[j] := List.getElem?_eq_getElem hl2
  obtain ⟨h1, h2⟩ := h.r j x _ hj hy
  have ho := h.ok _ (List.mem_of_getElem? hy)
  have hd := PlainAt.lenD h2
  have hm := PlainAt.lenM h2
  have h3 := ho.r.d
  have h4 := ho.r.m
  exact ⟨by rw [h1]; exact ho.r.e0, by rw [h1]; exact ho.r.e9, h2.ok, by omega, by omega⟩
theorem SdI.es (h : SdI i s PL S L) : PL.map RuD.e = L.map fun x => x.r.e := by
  refine List.ext_getElem? fun j => ?_
  rw [List.getElem?_map, List.getElem?_map]
  cases h1 : PL[j]? with
  | none =>
    have h2 : L[j]? = none := by
      rw [List.getElem?_eq_none_iff] at h1 ⊢
      have := h.len
      omega
    rw [h2]; rfl
  | some x =>
    have hl := (List.getElem?_eq_some_iff.1 h1).1
    have hl2 : j < L.length := by have := h.len; omega
    have hy : L[j]? = some L[j] := List.getElem?_eq_getElem hl2
    rw [hy]
    exact congrArg some (h.r j x _ h1 hy).1
theorem untP_n (E : List Int) (u : Int) : ∀ (n : Nat) (S : List Tim) (now : Int), (untP E u n S now).2.1.length ≤ n ∧ (untP E u n S now).1.length ≤ S.length
  | 0, S, now => ⟨Nat.le_refl _, Nat.le_refl _⟩
  | n + 1, [], now => ⟨Nat.zero_le _, Nat.le_refl _⟩
  | n + 1, x :: S, now => by
    by_cases hx : u < x.t
    · rw [untP_stop _ _ _ _ _ _ hx]
      exact ⟨Nat.zero_le _, Nat.le_refl _⟩
    · rw [untP_go _ _ _ _ _ _ hx]
      have h1 := untP_n E u n (againP E x S) x.t
      have h2 := againP_len (E := E) (x := x) (S := S)
      exact ⟨by rw [List.length_cons]; omega, by dsimp only; omega⟩
/-- Both have told the same. -/
structure UnR (i most : Nat) (q : UnD) (PL : List RuD) (S : List Tim) (p : LuD) : Prop where
  i : SdI i q.s PL S p.L
  same : SameL q.out p.out
  nw : q.now = p.now
  n : q.out.length ≤ most
  ok : ∀ o, o ∈ q.out → o.Ok ∧ o.D.length ≤ 100000 ∧ o.M.length ≤ 100000
  ok' : ∀ o, o ∈ p.out → o.Ok
  sok : p.s.Ok p.L.length
  on : p.o.n = p.out.length
theorem SdI.until (h : SdI i s PL S L) {u most now : Int} {q : UnD} {p : LuD} (hu : ¬ u < now) (h1 : UnI PL u most S now q) (h2 : LuI L u most.toNat S now p) : ∃ S', UnR (i + 1) most.toNat q PL S' p := by
  have e0 : unP (PL.map RuD.e) u most S now = untP (L.map fun x => x.r.e) u most.toNat S now := by rw [← h.es]; exact if_neg hu
  obtain ⟨q1, q2, q3⟩ := h1
  rw [e0] at q1 q2 q3
  have hN := untP_n (L.map fun x => x.r.e) u most.toNat S now
  have hle := h2.same.len
  have hb := h.b
  have hls := h.ls
  refine ⟨_, ⟨q1, h2.rel, by rw [h.len, hle], by omega, by omega, fun j x y hx hy => ?_, h2.ok⟩, ⟨?_, fun j a b ha hb => ?_⟩, by rw [q2, h2.nw], by rw [← q3.len]; exact hN.1, fun o ho => ?_, fun o ho => ?_, h2.sok, h2.on⟩
  · obtain ⟨y', hy', e⟩ := h2.same.at hy
    rw [← e]
    exact h.r j x y' hx hy'
  · rw [← q3.len, h2.told.len]
  · have hl := (List.getElem?_eq_some_iff.1 ha).1
    have hl2 : j < (untP (L.map fun x => x.r.e) u most.toNat S now).2.1.length := by rw [q3.len]; exact hl
    have hi : (untP (L.map fun x => x.r.e) u most.toNat S now).2.1[j]? = some _ := List.getElem?_eq_getElem hl2
    obtain ⟨x, hx, hp⟩ := q3.all j _ a hi ha
    obtain ⟨y, hy, hp'⟩ := h2.told.all j _ b hi hb
    exact plain_same (h.r _ x y hx hy).2 hp hp'
  · obtain ⟨j, _, x, hx, hp⟩ := q3.mem ho
    have hok := h.okP x (List.mem_of_getElem? hx)
    have hd := PlainAt.lenD hp
    have hm := PlainAt.lenM hp
    have h3 := hok.d
    have h4 := hok.m
    exact ⟨hp.ok, by omega, by omega⟩
  · obtain ⟨j, _, x, hx, hp⟩ := h2.told.mem ho
    exact hp.ok
theorem SdI.early (h : SdI i s PL S L) {u most now : Int} {q : UnD} (hu : u < now) (h1 : UnI PL u most S now q) : SdI (i + 1) q.s PL S L ∧ q.now = now ∧ q.out = [] := by
  have e0 : unP (PL.map RuD.e) u most S now = (S, [], now) := if_pos hu
  obtain ⟨q1, q2, q3⟩ := h1
  rw [e0] at q1 q2 q3
  exact ⟨⟨q1, h.rel, h.len, h.ls, Nat.le_succ_of_le h.b, h.r, h.ok⟩, q2, List.eq_nil_of_length_eq_zero q3.len.symm⟩
theorem RelL.due (h : RelL L S) (I : Int) : (0, I) ∈ S.map Tim.key ↔ 0 ≤ I ∧ ∃ x, L[I.toNat]? = some x ∧ x.due = true := by
  constructor
  · intro hm
    obtain ⟨y, hy, e⟩ := List.mem_map.1 hm
    have e2 : y.i = I := congrArg Prod.snd e
    obtain ⟨_, b2, x, b3, b4, _⟩ := h.b y hy
    rw [e2] at b2 b3
    exact ⟨b2, x, b3, b4⟩
  · rintro ⟨h0, x, hx, hd⟩
    have hy := h.a I.toNat x hx hd
    refine List.mem_map.2 ⟨_, hy, ?_⟩
    show ((0 : Int), ((I.toNat : Nat) : Int)) = (0, I)
    rw [Int.toNat_of_nonneg h0]
theorem wo_keys {p : Int × Int} (h : Keys S) : Keys (wo p S) := by
  unfold Keys wo
  exact List.Nodup.sublist (List.Sublist.map _ List.filter_sublist) h
theorem wo_sorted {p : Int × Int} (h : S.Pairwise ltT) : (wo p S).Pairwise ltT := List.Pairwise.sublist List.filter_sublist h
theorem SdI.stop (h : SdI i s PL S L) {I : Nat} {x : LrD} (hx : L[I]? = some x) (hq : QuOk q.mo q.L (wo (0, (I : Int)) S)) : SdI (i + 1) q PL (wo (0, (I : Int)) S) (L.set I ⟨x.r, x.t, false⟩) := by
  have hl := (List.getElem?_eq_some_iff.1 hx).1
  have hw : (wo (0, (I : Int)) S).length ≤ S.length := List.length_filter_le _ _
  have hls := h.ls
  have hb := h.b
  refine ⟨hq, ⟨fun j z hz hd => ?_, fun y hy => ?_, wo_keys h.rel.keys, wo_sorted h.rel.sorted⟩, by rw [List.length_set]; exact h.len, by rw [List.length_set]; omega, by rw [List.length_set]; omega, fun j a b ha hb => ?_, fun y hy => ?_⟩
  · by_cases e : I = j
    · subst e
      rw [List.getElem?_set_self hl] at hz
      obtain rfl := Option.some.inj hz
      cases hd
    · rw [List.getElem?_set_ne e] at hz
      exact wo_mem.2 ⟨h.rel.a j z hz hd, fun e2 => e (by have e3 : ((j : Nat) : Int) = (I : Int) := congrArg Prod.snd e2; omega)⟩
  · obtain ⟨hy, hne⟩ := wo_mem.1 hy
    obtain ⟨b1, b2, z, b3, b4, b5⟩ := h.rel.b y hy
    refine ⟨b1, b2, z, ?_, b4, b5⟩
    rw [List.getElem?_set_ne (fun e => hne ?_)]
    · exact b3
    · show (y.k, y.i) = _
      rw [b1, e, Int.toNat_of_nonneg b2]
  · by_cases e : I = j
    · subst e
      rw [List.getElem?_set_self hl] at hb
      obtain rfl := Option.some.inj hb
      exact h.r I a x ha hx
    · rw [List.getElem?_set_ne e] at hb
      exact h.r j a b ha hb
  · rcases List.mem_or_eq_of_mem_set hy with e | e
    · exact h.ok y e
    · subst e
      have := h.ok x (List.mem_of_getElem? hx)
      exact ⟨this.r, this.t0, this.t9⟩
theorem SdI.nostop (h : SdI i s PL S L) {I : Int} (hn : (0, I) ∉ S.map Tim.key) (hq : QuOk q.mo q.L (wo (0, I) S)) : SdI (i + 1) q PL S L := by
  rw [wo_no hn] at hq
  exact ⟨hq, h.rel, h.len, h.ls, Nat.le_succ_of_le h.b, h.r, h.ok⟩
theorem SdI.add (h : SdI i s PL S L) {r : RuD} {p : OpD} (hr : RuOk r) (h0 : 0 ≤ r.f) (h9 : r.f ≤ 18446744073709551615) (hp : PlainAt r.o (looks r.o.k) p) (hq : QuOk q.mo q.L (setP ⟨r.f, 0, (PL.length : Int)⟩ S)) : SdI (i + 1) q (PL ++ [⟨r.f, r.e, p⟩]) (setP ⟨r.f, 0, (PL.length : Int)⟩ S) (L ++ [⟨r, r.f, true⟩]) := by
  have hlen := h.len
  have hls := h.ls
  have hb := h.b
  have hset := setP_len (x := ⟨r.f, 0, (PL.length : Int)⟩) (S := S)
  have hno : ∀ y, y ∈ S → y.key ≠ (0, (L.length : Int)) := fun y hy e => by
    obtain ⟨_, b2, z, b3, _⟩ := h.rel.b y hy
    have hl := (List.getElem?_eq_some_iff.1 b3).1
    have e2 : y.i = (L.length : Int) := congrArg Prod.snd e
    omega
  have hmem : ∀ z, z ∈ setP ⟨r.f, 0, (PL.length : Int)⟩ S ↔ z = ⟨r.f, 0, (PL.length : Int)⟩ ∨ z ∈ S := fun z => by
    unfold setP
    rw [(insT_perm _ _).mem_iff, List.mem_cons, wo_no (S := S) (fun hm => by
      obtain ⟨y, hy, e⟩ := List.mem_map.1 hm
      refine hno y hy ?_
      rw [e]
      show ((0 : Int), (PL.length : Int)) = _
      rw [hlen])]
  refine ⟨hq, ⟨fun j z hz hd => (hmem _).2 ?_, fun y hy => ?_, keys_cons_wo h.rel.keys, sorted_set h.rel.sorted⟩, by simp [hlen], by rw [List.length_append]; simp; omega, by rw [List.length_append]; simp; omega, fun j a b ha hb => ?_, fun y hy => ?_⟩
  · rcases Nat.lt_trichotomy j L.length with h1 | h1 | h1
    · rw [List.getElem?_append_left h1] at hz
      exact .inr (h.rel.a j z hz hd)
    · subst h1
      rw [List.getElem?_append_right (Nat.le_refl _), Nat.sub_self] at hz
      obtain rfl := Option.some.inj hz
      rw [hlen]
      exact .inl rfl
    · rw [List.getElem?_eq_none (by simp; omega)] at hz
      cases hz
  · rcases (hmem y).1 hy with e | e
    · subst e
      refine ⟨rfl, by dsimp only; omega, ⟨r, r.f, true⟩, ?_, rfl, rfl⟩
      dsimp only
      rw [hlen, Int.toNat_natCast, List.getElem?_append_right (Nat.le_refl _), Nat.sub_self]
      rfl
    · obtain ⟨b1, b2, z, b3, b4, b5⟩ := h.rel.b y e
      have hl := (List.getElem?_eq_some_iff.1 b3).1
      exact ⟨b1, b2, z, by rw [List.getElem?_append_left hl]; exact b3, b4, b5⟩
  · rcases Nat.lt_trichotomy j L.length with h1 | h1 | h1
    · rw [List.getElem?_append_left h1] at hb
      rw [List.getElem?_append_left (by omega)] at ha
      exact h.r j a b ha hb
    · subst h1
      rw [List.getElem?_append_right (Nat.le_refl _), Nat.sub_self] at hb
      rw [← hlen, List.getElem?_append_right (Nat.le_refl _), Nat.sub_self] at ha
      obtain rfl := Option.some.inj ha
      obtain rfl := Option.some.inj hb
      exact ⟨rfl, hp⟩
    · rw [List.getElem?_eq_none (by simp; omega)] at hb
      cases hb
  · rcases List.mem_append.1 hy with e | e
    · exact h.ok y e
    · obtain rfl := List.mem_singleton.1 e
      exact ⟨hr, h0, h9⟩
theorem SdI.next (h : SdI i s PL S L) {b : Int} (hf : FstR L L.length b) : (S = [] ∧ b = -1) ∨ ∃ (y : Tim) (S' : List Tim) (j : Nat) (x : LrD), S = y :: S' ∧ b = (j : Int) ∧ L[j]? = some x ∧ x.t = y.t := by
  cases S with
  | nil => exact .inl ⟨rfl, h.rel.first_nil hf⟩
  | cons y S' =>
    have e := h.rel.first_cons hf
    obtain ⟨b1, b2, x, b3, b4, b5⟩ := h.rel.b y (.head _)
    exact .inr ⟨y, S', y.i.toNat, x, rfl, by rw [e, Int.toNat_of_nonneg b2], b3, b5⟩
end
end Go.Proofs.Ytgpfedmfbkhhcaa.Sd

