/- Law 58: until. -/
import Derived.Test.YtgpfedmfbkhhcaaSd5
namespace Go.Proofs.Ytgpfedmfbkhhcaa.Sd
open Go.RowKit Mem Gx Hp Du Dv OpA
set_option linter.unusedVariables false
set_option linter.unusedSimpArgs false
set_option maxRecDepth 100000
set_option maxHeartbeats 4000000
/-- The law's rules and the timers. -/
structure RelL (L : List LrD) (S : List Tim) : Prop where
  a : ∀ (i : Nat) (x : LrD), L[i]? = some x → x.due = true → (⟨x.t, 0, (i : Int)⟩ : Tim) ∈ S
  b : ∀ y, y ∈ S → y.k = 0 ∧ 0 ≤ y.i ∧ ∃ x, L[y.i.toNat]? = some x ∧ x.due = true ∧ x.t = y.t
  keys : Keys S
  sorted : S.Pairwise ltT
theorem RelL.first_nil {L : List LrD} {b : Int} (h : RelL L []) (hf : FstR L L.length b) : b = -1 := by
  rcases hf with ⟨h1, _⟩ | ⟨i, y, _, _, h3, h4, _⟩
  · exact h1
  · have := h.a i y h3 h4
    cases this
theorem RelL.first_cons {L : List LrD} {y : Tim} {S : List Tim} {b : Int} (h : RelL L (y :: S)) (hf : FstR L L.length b) : b = y.i := by
  obtain ⟨k0, i0, x, hx, hd, ht⟩ := h.b y (.head _)
  have hl := (List.getElem?_eq_some_iff.1 hx).1
  rcases hf with ⟨_, h2⟩ | ⟨i, z, rfl, h2, h3, h4, h5⟩
  · rw [h2 _ x hl hx] at hd
    cases hd
  · have hz := h.a i z h3 h4
    have h6 := h5 _ x hl hx hd
    rcases List.mem_cons.1 hz with e | e
    · rw [← e]
    · have h7 := (List.pairwise_cons.1 h.sorted).1 _ e
      rw [ltT_iff] at h7
      dsimp only at h7
      omega
/-- A rule that was due, when it was told. -/
noncomputable def nextL (x : LrD) : LrD := ⟨x.r, IntKind.u64.wrap (x.t + x.r.e), tB (0 < x.r.e ∧ x.r.e ≤ 18446744073709551615 - x.t)⟩
theorem RelL.step {L : List LrD} {y : Tim} {S : List Tim} {x : LrD} {E : List Int} (h : RelL L (y :: S)) (hx : L[y.i.toNat]? = some x) (hE : E.getD y.i.toNat 0 = x.r.e) (ht : x.t = y.t) (h0 : 0 ≤ x.t) (he : 0 ≤ x.r.e) : RelL (L.set y.i.toNat (nextL x)) (againP E y S) := by
  obtain ⟨k0, i0, x', hx', _, _⟩ := h.b y (.head _)
  have hl := (List.getElem?_eq_some_iff.1 hx).1
  obtain ⟨yt, yk, yi⟩ := y
  dsimp only at k0 i0 hx hE ht hl
  subst k0
  obtain ⟨i, rfl⟩ := Int.eq_ofNat_of_zero_le i0
  simp only [Int.toNat_natCast] at hx hE hl
  subst ht
  have hKS : ∀ z, z ∈ S → z.key ≠ (0, (i : Int)) := fun z hz e => (List.nodup_cons.1 (show ((⟨x.t, 0, (i : Int)⟩ : Tim) :: S).map Tim.key |>.Nodup from h.keys)).1 (by
    show (0, (i : Int)) ∈ S.map Tim.key
    rw [← e]; exact List.mem_map_of_mem hz)
  have hkS : Keys S := (List.nodup_cons.1 (show ((⟨x.t, 0, (i : Int)⟩ : Tim) :: S).map Tim.key |>.Nodup from h.keys)).2
  have hsS : S.Pairwise ltT := (List.pairwise_cons.1 h.sorted).2
  have hij : ∀ z, z ∈ S → z.i.toNat ≠ i := fun z hz e => by
    have hb := h.b z (.tail _ hz)
    exact hKS z hz (by show (z.k, z.i) = _; rw [hb.1, show z.i = (i : Int) by have := hb.2.1; omega])
  unfold againP
  dsimp only
  rw [Int.toNat_natCast, hE]
  split
  · rename_i hc
    have hw : IntKind.u64.wrap (x.t + x.r.e) = x.t + x.r.e := by
      rw [show IntKind.u64.wrap (x.t + x.r.e) = (x.t + x.r.e) % 18446744073709551616 from rfl]; omega
    have hset : setP ⟨x.t + x.r.e, 0, (i : Int)⟩ S = insT ⟨x.t + x.r.e, 0, (i : Int)⟩ S := by
      unfold setP
      rw [wo_no (S := S) (fun hm => by obtain ⟨z, hz, e⟩ := List.mem_map.1 hm; exact hKS z hz e)]
    have hmem : ∀ z, z ∈ setP ⟨x.t + x.r.e, 0, (i : Int)⟩ S ↔ z = ⟨x.t + x.r.e, 0, (i : Int)⟩ ∨ z ∈ S := fun z => by
      rw [hset, (insT_perm _ _).mem_iff, List.mem_cons]
    refine ⟨fun j z hz hd => (hmem _).2 ?_, fun z hz => ?_, keys_cons_wo hkS, sorted_set hsS⟩
    · by_cases e : i = j
      · subst e
        rw [List.getElem?_set_self hl] at hz
        obtain rfl := Option.some.inj hz
        left
        unfold nextL
        dsimp only
        rw [hw]
      · rw [List.getElem?_set_ne e] at hz
        rcases List.mem_cons.1 (h.a j z hz hd) with e2 | e2
        · injection e2 with _ _ e3
          exact absurd (by omega) e
        · exact .inr e2
    · rcases (hmem z).1 hz with e | e
      · subst e
        refine ⟨rfl, by dsimp only; omega, nextL x, ?_, ?_, ?_⟩
        · dsimp only
          rw [Int.toNat_natCast]
          exact List.getElem?_set_self hl
        · exact tB_true (by omega)
        · exact hw
      · obtain ⟨b1, b2, z', b3, b4, b5⟩ := h.b z (.tail _ e)
        exact ⟨b1, b2, z', by rw [List.getElem?_set_ne (fun e2 => hij z e e2.symm)]; exact b3, b4, b5⟩
  · rename_i hc
    refine ⟨fun j z hz hd => ?_, fun z hz => ?_, hkS, hsS⟩
    · by_cases e : i = j
      · subst e
        rw [List.getElem?_set_self hl] at hz
        obtain rfl := Option.some.inj hz
        have : (nextL x).due = false := tB_false (by omega)
        rw [this] at hd
        cases hd
      · rw [List.getElem?_set_ne e] at hz
        rcases List.mem_cons.1 (h.a j z hz hd) with e2 | e2
        · injection e2 with _ _ e3
          exact absurd (by omega) e
        · exact e2
    · obtain ⟨b1, b2, z', b3, b4, b5⟩ := h.b z (.tail _ hz)
      exact ⟨b1, b2, z', by rw [List.getElem?_set_ne (fun e2 => hij z hz e2.symm)]; exact b3, b4, b5⟩
theorem oneLr : ∀ (x : LrD) (j : Nat), (LrE x j).oneCell' = true := by
  intro x j
  unfold LrE
  split
  · exact oneRu x.r j
  · split <;> rfl
theorem elt_Lr : Elt Try.prog 34 50 12 128 := Elt.mk' (z := .agg #[.int .u64 0, .int .u64 0, .int .i64 0, .int .i64 0, .int .i64 0, .int .i64 0, .int .i64 0, .int .u64 0, .slice none 0 0, .slice none 0 0, .int .u64 0, .bool false]) Try.underlying34 (by kernel_rfl) rfl (by decide)
/-- A rule of the law's that may be. -/
structure LrOk (x : LrD) : Prop where
  r : RuOk x.r
  t0 : 0 ≤ x.t
  t9 : x.t ≤ 18446744073709551615
def ToldL (L : List LrD) (i : Nat) (p : OpD) : Prop := ∃ x, L[i]? = some x ∧ PlainAt x.r.o (looks x.r.o.k) p
/-- The same rules. -/
def SameR (L L' : List LrD) : Prop := L'.map LrD.r = L.map LrD.r
structure LuD where
  s : SlV
  L : List LrD
  now : Int
  o : SlV
  out : List OpD
structure LuI (L : List LrD) (u : Int) (n : Nat) (S : List Tim) (now : Int) (q : LuD) : Prop where
  rel : RelL q.L (untP (L.map fun x => x.r.e) u n S now).1
  nw : q.now = (untP (L.map fun x => x.r.e) u n S now).2.2
  told : OutP (ToldL L) (untP (L.map fun x => x.r.e) u n S now).2.1 q.out
  same : SameR L q.L
  ok : ∀ x, x ∈ q.L → LrOk x
  sok : q.s.Ok q.L.length
  on : q.o.n = q.out.length
/-- Within the loop. -/
structure LuW (w : World) (A : Option Addr) (L0 : List LrD) (u : Int) (n : Nat) (S0 : List Tim) (now0 : Int) (s : SlV) (L : List LrD) (S : List Tim) (now : Int) (l : List Nat) (out : List OpD) : Prop where
  rel : RelL L S
  le : l.length ≤ n
  eq : untP (L0.map fun x => x.r.e) u n S0 now0 = ((untP (L0.map fun x => x.r.e) u (n - l.length) S now).1, l ++ (untP (L0.map fun x => x.r.e) u (n - l.length) S now).2.1, (untP (L0.map fun x => x.r.e) u (n - l.length) S now).2.2)
  out : OutP (ToldL L0) l out
  same : SameR L0 L
  ok : ∀ x, x ∈ L → LrOk x
  sok : s.Ok L.length
  new : New w [sl A 12 LrE L0] (sl s.A 12 LrE L)
theorem SameR.len {L L' : List LrD} (h : SameR L L') : L'.length = L.length := by
  have := congrArg List.length h
  simpa using this
theorem SameR.at {L L' : List LrD} (h : SameR L L') {i : Nat} {x : LrD} (hx : L'[i]? = some x) : ∃ x', L[i]? = some x' ∧ x'.r = x.r := by
  have h1 : (L'.map LrD.r)[i]? = some x.r := by rw [List.getElem?_map, hx]; rfl
  rw [h, List.getElem?_map] at h1
  cases h2 : L[i]? with
  | none => rw [h2] at h1; cases h1
  | some x' => rw [h2] at h1; exact ⟨x', rfl, Option.some.inj h1⟩
theorem SameR.set {L L' : List LrD} (h : SameR L L') {i : Nat} {x z : LrD} (hx : L'[i]? = some x) (hz : z.r = x.r) : SameR L (L'.set i z) := by
  unfold SameR
  rw [← h, List.map_set, hz]
  have hl := (List.getElem?_eq_some_iff.1 hx)
  refine List.ext_getElem? fun j => ?_
  by_cases e : i = j
  · subst e
    rw [List.getElem?_set_self (by simpa using hl.1), List.getElem?_map, hx]
    rfl
  · rw [List.getElem?_set_ne e]
theorem getEL {L : List LrD} {i : Nat} {x : LrD} (h : L[i]? = some x) : (L.map fun x => x.r.e).getD i 0 = x.r.e := by
  rw [List.getD_eq_getElem?_getD, List.getElem?_map, h]; rfl
section
variable {w : World} {A : Option Addr} {L0 L : List LrD} {u : Int} {n : Nat} {S0 S : List Tim} {now0 now : Int} {s s' : SlV} {l : List Nat} {out : List OpD} {x : Tim} {p : OpD}
theorem LuW.full (h : LuW w A L0 u n S0 now0 s L S now l out) (hn : ¬ out.length < n) : untP (L0.map fun x => x.r.e) u n S0 now0 = (S, l, now) := by
  have h1 := h.out.len
  have h2 := h.le
  rw [h.eq, show n - l.length = 0 by omega]
  simp [untP]
theorem LuW.stop0 (h : LuW w A L0 u n S0 now0 s L [] now l out) (hn : out.length < n) : untP (L0.map fun x => x.r.e) u n S0 now0 = ([], l, u) := by
  have h1 := h.out.len
  obtain ⟨m, hm⟩ : ∃ m, n - l.length = m + 1 := ⟨n - l.length - 1, by omega⟩
  rw [h.eq, hm]
  simp [untP]
theorem LuW.stop (h : LuW w A L0 u n S0 now0 s L (x :: S) now l out) (hn : out.length < n) (hx : u < x.t) : untP (L0.map fun x => x.r.e) u n S0 now0 = (x :: S, l, u) := by
  have h1 := h.out.len
  obtain ⟨m, hm⟩ : ∃ m, n - l.length = m + 1 := ⟨n - l.length - 1, by omega⟩
  rw [h.eq, hm, untP_stop _ _ _ _ _ _ hx]
  simp
theorem wrap_in (a : Int) : 0 ≤ IntKind.u64.wrap a ∧ IntKind.u64.wrap a ≤ 18446744073709551615 := by
  rw [show IntKind.u64.wrap a = a % 18446744073709551616 from rfl]
  omega
theorem LuW.step (h : LuW w A L0 u n S0 now0 s L (x :: S) now l out) (hn : out.length < n) (hx : ¬ u < x.t) {z : LrD} (hz : L[x.i.toNat]? = some z) (hp : PlainAt z.r.o (looks z.r.o.k) p) (hs : s'.Ok L.length) (hnew : New w [sl A 12 LrE L0] (sl s'.A 12 LrE (L.set x.i.toNat (nextL z)))) : LuW w A L0 u n S0 now0 s' (L.set x.i.toNat (nextL z)) (againP (L0.map fun x => x.r.e) x S) x.t (l ++ [x.i.toNat]) (out ++ [p]) := by
  have h1 := h.out.len
  obtain ⟨m, hm⟩ : ∃ m, n - l.length = m + 1 := ⟨n - l.length - 1, by omega⟩
  obtain ⟨z0, hz0, hzr⟩ := h.same.at hz
  have hzo := h.ok z (List.mem_of_getElem? hz)
  obtain ⟨b1, b2, z', b3, b4, b5⟩ := h.rel.b x (.head _)
  obtain rfl : z = z' := by rw [hz] at b3; exact Option.some.inj b3
  refine ⟨h.rel.step hz (by rw [getEL hz0, hzr]) b5 hzo.t0 hzo.r.e0, by rw [List.length_append]; simp; omega, ?_, h.out.snoc ⟨z0, hz0, by rw [hzr]; exact hp⟩, h.same.set hz rfl, fun y hy => ?_, by rw [List.length_set]; exact hs, hnew⟩
  · rw [h.eq, hm, untP_go _ _ _ _ _ _ hx, show n - (l ++ [x.i.toNat]).length = m by simp; omega]
    simp
  · rcases List.mem_or_eq_of_mem_set hy with e | e
    · exact h.ok y e
    · subst e
      exact ⟨hzo.r, (wrap_in _).1, (wrap_in _).2⟩
end
end Go.Proofs.Ytgpfedmfbkhhcaa.Sd

