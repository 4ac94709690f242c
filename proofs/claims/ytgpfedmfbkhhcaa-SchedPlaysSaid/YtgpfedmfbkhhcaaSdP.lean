/- Rules, call by call: what is due up to a time, plain; the plan's block apart from the queue. -/
import Derived.Test.YtgpfedmfbkhhcaaSd4
namespace Go.Proofs.Ytgpfedmfbkhhcaa.Sd
open Go.RowKit Mem Gx Hp Du Dv OpA
set_option linter.unusedVariables false
set_option linter.unusedSimpArgs false
set_option maxRecDepth 100000
set_option maxHeartbeats 1000000
/-- A timer that came is set again, or not. -/
def againP (E : List Int) (x : Tim) (S : List Tim) : List Tim := if 0 < E.getD x.i.toNat 0 ∧ x.t + E.getD x.i.toNat 0 ≤ 18446744073709551615 then setP ⟨x.t + E.getD x.i.toNat 0, 0, x.i⟩ S else S
/-- What is due up to a time: the timers then, whose it was, and the time. -/
def untP (E : List Int) (u : Int) : Nat → List Tim → Int → List Tim × List Nat × Int
  | 0, S, now => (S, [], now)
  | _ + 1, [], _ => ([], [], u)
  | n + 1, x :: S, now => if u < x.t then (x :: S, [], u) else
      ((untP E u n (againP E x S) x.t).1, x.i.toNat :: (untP E u n (againP E x S) x.t).2.1, (untP E u n (againP E x S) x.t).2.2)
theorem untP_stop (E : List Int) (u : Int) (n : Nat) (x : Tim) (S : List Tim) (now : Int) (h : u < x.t) : untP E u (n + 1) (x :: S) now = (x :: S, [], u) := by
  unfold untP; exact if_pos h
theorem untP_go (E : List Int) (u : Int) (n : Nat) (x : Tim) (S : List Tim) (now : Int) (h : ¬ u < x.t) : untP E u (n + 1) (x :: S) now = ((untP E u n (againP E x S) x.t).1, x.i.toNat :: (untP E u n (againP E x S) x.t).2.1, (untP E u n (againP E x S) x.t).2.2) := by
  rw [untP]; exact if_neg h
/-- Timers are rules', in their bounds. -/
def TOk (S : List Tim) (n : Nat) : Prop := ∀ x, x ∈ S → x.k = 0 ∧ 0 ≤ x.i ∧ x.i < (n : Int) ∧ 0 ≤ x.t ∧ x.t ≤ 18446744073709551615
theorem TOk.k {S : List Tim} {n : Nat} (h : TOk S n) : KOk' S n := fun x hx => ⟨(h x hx).1, (h x hx).2.1, (h x hx).2.2.1⟩
theorem setP_mem {x y : Tim} {S : List Tim} (h : y ∈ setP x S) : y = x ∨ y ∈ S := by
  have h1 := (insT_perm x (wo x.key S)).mem_iff.1 h
  rcases List.mem_cons.1 h1 with e | e
  · exact .inl e
  · exact .inr (wo_mem.1 e).1
theorem setP_len {x : Tim} {S : List Tim} : (setP x S).length ≤ S.length + 1 := by
  have h1 := (insT_perm x (wo x.key S)).length_eq
  have h2 : (wo x.key S).length ≤ S.length := List.length_filter_le _ _
  unfold setP
  rw [h1, List.length_cons]
  omega
theorem againP_len {E : List Int} {x : Tim} {S : List Tim} : (againP E x S).length ≤ (x :: S).length := by
  unfold againP
  split
  · exact setP_len
  · simp
theorem TOk.tail {x : Tim} {S : List Tim} {n : Nat} (h : TOk (x :: S) n) : TOk S n := fun y hy => h y (.tail _ hy)
theorem TOk.set {x : Tim} {S : List Tim} {n : Nat} (h : TOk S n) (hx : x.k = 0 ∧ 0 ≤ x.i ∧ x.i < (n : Int) ∧ 0 ≤ x.t ∧ x.t ≤ 18446744073709551615) : TOk (setP x S) n := fun y hy => by
  rcases setP_mem hy with e | e
  · rw [e]; exact hx
  · exact h y e
theorem TOk.again {E : List Int} {x : Tim} {S : List Tim} {n : Nat} (h : TOk (x :: S) n) : TOk (againP E x S) n := by
  unfold againP
  split
  · rename_i h1
    have hx := h x (.head _)
    exact h.tail.set ⟨rfl, hx.2.1, hx.2.2.1, by dsimp only; omega, h1.2⟩
  · exact h.tail
/-- Rows told at the same places. -/
structure OutP (P : Nat → OpD → Prop) (l : List Nat) (L : List OpD) : Prop where
  len : l.length = L.length
  all : ∀ (j i : Nat) (p : OpD), l[j]? = some i → L[j]? = some p → P i p
theorem OutP.nil {P : Nat → OpD → Prop} : OutP P [] [] := ⟨rfl, fun j i p h => by simp at h⟩
theorem OutP.snoc {P : Nat → OpD → Prop} {l : List Nat} {L : List OpD} {i : Nat} {p : OpD} (h : OutP P l L) (hp : P i p) : OutP P (l ++ [i]) (L ++ [p]) := by
  refine ⟨by simp [h.len], fun j a b ha hb => ?_⟩
  rcases Nat.lt_trichotomy j l.length with h1 | h1 | h1
  · rw [List.getElem?_append_left h1] at ha
    rw [List.getElem?_append_left (by rw [← h.len]; exact h1)] at hb
    exact h.all j a b ha hb
  · subst h1
    rw [List.getElem?_append_right (Nat.le_refl _), Nat.sub_self] at ha
    rw [h.len, List.getElem?_append_right (Nat.le_refl _), Nat.sub_self] at hb
    simp at ha hb
    subst ha
    subst hb
    exact hp
  · rw [List.getElem?_eq_none (by simp; omega)] at ha
    cases ha
theorem OutP.mem {P : Nat → OpD → Prop} {l : List Nat} {L : List OpD} (h : OutP P l L) {p : OpD} (hp : p ∈ L) : ∃ i, i ∈ l ∧ P i p := by
  obtain ⟨j, hj⟩ := List.getElem?_of_mem hp
  have hl := (List.getElem?_eq_some_iff.1 hj).1
  have hjl : j < l.length := by rw [h.len]; exact hl
  have hi : l[j]? = some l[j] := List.getElem?_eq_getElem hjl
  exact ⟨_, List.mem_of_getElem? hi, h.all j _ p hi hj⟩
theorem OutP.mono {P Q : Nat → OpD → Prop} {l : List Nat} {L : List OpD} (h : OutP P l L) (hq : ∀ i p, P i p → Q i p) : OutP Q l L := ⟨h.len, fun j i p h1 h2 => hq i p (h.all j i p h1 h2)⟩
/-- What is plain stays. -/
theorem plain_same {a r p q : OpD} (h1 : PlainAt a (looks a.k) r) (h2 : PlainAt r (looks r.k) p) (h3 : PlainAt a (looks a.k) q) : sameP p q := by
  have e1 := h1.ek
  rw [e1] at h2
  have t1 {α : Type} {c : Prop} [Decidable c] {x y z : α} (h : y = if c then x else z) : (if c then y else z) = if c then x else z := by rw [h]; by_cases hc : c <;> simp [hc]
  exact ⟨by rw [h2.ek, h3.ek, e1], by rw [h2.ev, h3.ev, t1 h1.ev], by rw [h2.ei, h3.ei, t1 h1.ei], by rw [h2.eb, h3.eb, t1 h1.eb], by rw [h2.ec, h3.ec, t1 h1.ec], by rw [h2.ep, h3.ep, t1 h1.ep], by rw [h2.eD, h3.eD, t1 h1.eD], by rw [h2.eM, h3.eM, t1 h1.eM]⟩
theorem PlainAt.lenD {o p : OpD} {l : List Nat} (h : PlainAt o l p) : p.D.length ≤ o.D.length := by rw [h.eD]; split <;> simp
theorem PlainAt.lenM {o p : OpD} {l : List Nat} (h : PlainAt o l p) : p.M.length ≤ o.M.length := by rw [h.eM]; split <;> simp
/-- A queue apart from the plan's block. -/
def qrL (s : QuS) : List Fact := match s.mo with
  | some r => [own 0 87 3 s.v TE s.L, mpx r s.L]
  | none => [own 0 87 3 s.v TE s.L]
def qrF (s : QuS) : Fact := packF (qrL s)
section
variable {X : Cx} {f : Fr} {O R : List Fact} {ks k : List KI} {ops lo : List Oper} {E : List Nat} {w0 w : World}
theorem Kn.quB {g : Nat} {ru nw : Value} {s : QuS} (r : List Fact) (h : Kn E w0 w O R) (hs : SelAll (quF g ru nw s :: r) O) : Kn E w0 w (blk g [ru, s.v, .map s.mo, nw] 33 :: qrF s :: r) R := by
  have h1 := h.sel hs (List.Subset.refl _)
  obtain ⟨mo, v, L⟩ := s
  cases mo with
  | none =>
    have h2 : Kn E w0 w ([blk g [ru, v, .map none, nw] 33, own 0 87 3 v TE L] ++ r) R := h1.unpack
    have h3 : Kn E w0 w (qrF ⟨none, v, L⟩ :: blk g [ru, v, .map none, nw] 33 :: r) R := Kn.pack (l := [own 0 87 3 v TE L]) (h2.sel (L := [own 0 87 3 v TE L] ++ (blk g [ru, v, .map none, nw] 33 :: r)) (.cons (.there .here) (.cons .here (SelAll.refl _))) (List.Subset.refl _))
    exact h3.sel (.cons (.there .here) (.cons .here (SelAll.refl _))) (List.Subset.refl _)
  | some q =>
    have h2 : Kn E w0 w ([blk g [ru, v, .map (some q), nw] 33, own 0 87 3 v TE L, mpx q L] ++ r) R := h1.unpack
    have h3 : Kn E w0 w (qrF ⟨some q, v, L⟩ :: blk g [ru, v, .map (some q), nw] 33 :: r) R := Kn.pack (l := [own 0 87 3 v TE L, mpx q L]) (h2.sel (L := [own 0 87 3 v TE L, mpx q L] ++ (blk g [ru, v, .map (some q), nw] 33 :: r)) (.cons (.there .here) (.cons (.there .here) (.cons .here (SelAll.refl _)))) (List.Subset.refl _))
    exact h3.sel (.cons (.there .here) (.cons .here (SelAll.refl _))) (List.Subset.refl _)
theorem Kn.quI {g : Nat} {ru nw : Value} {s : QuS} (r : List Fact) (h : Kn E w0 w O R) (hs : SelAll (blk g [ru, s.v, .map s.mo, nw] 33 :: qrF s :: r) O) : Kn E w0 w (quF g ru nw s :: r) R := by
  have h1 := h.sel hs (List.Subset.refl _)
  obtain ⟨mo, v, L⟩ := s
  cases mo with
  | none =>
    have h0 : Kn E w0 w (packF [own 0 87 3 v TE L] :: blk g [ru, v, .map none, nw] 33 :: r) R := h1.sel (.cons (.there .here) (.cons .here (SelAll.refl _))) (List.Subset.refl _)
    have h2 : Kn E w0 w ([own 0 87 3 v TE L] ++ blk g [ru, v, .map none, nw] 33 :: r) R := h0.unpack
    exact Kn.pack (l := [blk g [ru, v, .map none, nw] 33, own 0 87 3 v TE L]) (h2.sel (.cons (.there .here) (.cons .here (SelAll.refl _))) (List.Subset.refl _))
  | some q =>
    have h0 : Kn E w0 w (packF [own 0 87 3 v TE L, mpx q L] :: blk g [ru, v, .map (some q), nw] 33 :: r) R := h1.sel (.cons (.there .here) (.cons .here (SelAll.refl _))) (List.Subset.refl _)
    have h2 : Kn E w0 w ([own 0 87 3 v TE L, mpx q L] ++ blk g [ru, v, .map (some q), nw] 33 :: r) R := h0.unpack
    exact Kn.pack (l := [blk g [ru, v, .map (some q), nw] 33, own 0 87 3 v TE L, mpx q L]) (h2.sel (.cons (.there (.there .here)) (.cons .here (.cons .here (SelAll.refl _)))) (List.Subset.refl _))
theorem gk_quB {g : Nat} {ru nw : Value} {s : QuS} (r : List Fact) (hs : SelAll (quF g ru nw s :: r) O) (hg : GK X ks f (blk g [ru, s.v, .map s.mo, nw] 33 :: qrF s :: r) R) : GK X ks f O R := .mk fun a w hr hk => hg.out a w hr (Kn.quB r hk hs)
theorem g_quB {g : Nat} {ru nw : Value} {s : QuS} (r : List Fact) (hs : SelAll (quF g ru nw s :: r) O) (hg : G X ops lo k f (blk g [ru, s.v, .map s.mo, nw] 33 :: qrF s :: r) R) : G X ops lo k f O R := .mk fun a w hr hk => hg.out a w hr (Kn.quB r hk hs)
theorem gk_quI {g : Nat} {ru nw : Value} {s : QuS} (r : List Fact) (hs : SelAll (blk g [ru, s.v, .map s.mo, nw] 33 :: qrF s :: r) O) (hg : GK X ks f (quF g ru nw s :: r) R) : GK X ks f O R := .mk fun a w hr hk => hg.out a w hr (Kn.quI r hk hs)
theorem g_quI {g : Nat} {ru nw : Value} {s : QuS} (r : List Fact) (hs : SelAll (blk g [ru, s.v, .map s.mo, nw] 33 :: qrF s :: r) O) (hg : G X ops lo k f (quF g ru nw s :: r) R) : G X ops lo k f O R := .mk fun a w hr hk => hg.out a w hr (Kn.quI r hk hs)
end
end Go.Proofs.Ytgpfedmfbkhhcaa.Sd

