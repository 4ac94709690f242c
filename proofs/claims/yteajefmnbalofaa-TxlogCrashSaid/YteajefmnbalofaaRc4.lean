/- record: what is written is read; the chapter's example; the law RecordPuts. -/
import Derived.Test.YteajefmnbalofaaRc3
import Derived.Test.YteajefmnbalofaaPage8
namespace Go.Proofs.Yteajefmnbalofaa.Rec
open Go.RowKit Mem Gx Sls Bytes Rd OpA
set_option linter.unusedVariables false
set_option linter.unusedSimpArgs false
set_option maxRecDepth 100000
set_option maxHeartbeats 4000000
theorem looks_one (k : Int) : ¬ (100 ∈ looks k ∧ 109 ∈ looks k) := by
  unfold looks
  repeat' split
  all_goals simp
theorem put_len {o p : OpD} (hp : PlainAt o (looks o.k) p) (hf : Fits p) : (putL p).length ≤ 96 := by
  rw [putL_len]
  have h1 := hf.fD
  have h2 := hf.fM
  have h3 := looks_one o.k
  have e1 := hp.eD
  have e2 := hp.eM
  by_cases h : 100 ∈ looks o.k
  · have : ¬ 109 ∈ looks o.k := fun h' => h3 ⟨h, h'⟩
    rw [if_neg this] at e2
    rw [e2]
    simp only [List.length_nil]; omega
  · rw [if_neg h] at e1
    rw [e1]
    simp only [List.length_nil]; omega
theorem pg_page {L : List Int} (h : L.length ≤ 120) : pgR (Page.page 2 L) = (L, 0) := by
  unfold pgR Page.ofR
  rw [Page.getS_page (by omega) (by omega) h]
  simp
theorem num8 {x : Int} (h : 0 ≤ x ∧ x ≤ 18446744073709551615) : num (le x 8) = x := by
  rw [num_le x h.1, Int.emod_eq_of_lt h.1]
  have : (256 : Int) ^ 8 = 18446744073709551616 := by decide
  omega
theorem take_app {α : Type} {A B : List α} {n : Nat} (h : n = A.length) : (A ++ B).take n = A := by subst h; simp
theorem drop_app {α : Type} {A B : List α} {n : Nat} (h : n = A.length) : (A ++ B).drop n = B := by subst h; simp
theorem decR_recL (r : RecD) (hb : r.Bd) (B : List Int) : decR (recL r B) = ⟨r.g, r.l, r.t, dec B nS nS⟩ ∧ (recL r B).drop 24 = B := by
  have e : recL r B = le r.g 8 ++ (le r.l 8 ++ (le r.t 8 ++ B)) := by
    unfold recL; simp only [List.nil_append, List.append_assoc]
  have d8 : (recL r B).drop 8 = le r.l 8 ++ (le r.t 8 ++ B) := by rw [e, drop_app (le_length _ _).symm]
  have d16 : (recL r B).drop 16 = le r.t 8 ++ B := by
    rw [show 16 = 8 + 8 from rfl, ← List.drop_drop, d8, drop_app (le_length _ _).symm]
  have d24 : (recL r B).drop 24 = B := by
    rw [show 24 = 16 + 8 from rfl, ← List.drop_drop, d16, drop_app (le_length _ _).symm]
  refine ⟨?_, d24⟩
  unfold decR
  rw [d8, d16, d24, e, take_app (le_length _ _).symm, take_app (le_length _ _).symm, take_app (le_length _ _).symm, num8 hb.g, num8 hb.l, num8 hb.t]
theorem sector_isB (r : RecD) {B : List Int} (h : IsB B) (hl : B.length ≤ 96) : IsB (Page.page 2 (recL r B)) :=
  Page.page_isB (by omega) (by rw [recL_len]; omega) (recL_isB r h)
/-- A record that may be, as a sector, is read as it looks. -/
theorem rc_back (r : RecD) (hb : r.Bd) {p : OpD} (hk : 1 ≤ r.o.k ∧ r.o.k ≤ 14) (hr : rrightB r.o = true) (hp : PlainAt r.o (looks r.o.k) p) (hf : Fits p) :
    rcode (Page.page 2 (recL r (putL p))) = 0 ∧ sameR (decR (pgR (Page.page 2 (recL r (putL p)))).1) ⟨r.g, r.l, r.t, p⟩ := by
  obtain ⟨c1, c2⟩ := code_put hk hr hp hf
  have hl := put_len hp hf
  have hpg := pg_page (L := recL r (putL p)) (by rw [recL_len]; omega)
  obtain ⟨d1, d2⟩ := decR_recL r hb (putL p)
  unfold rcode
  rw [hpg]
  dsimp only
  rw [if_neg (by simp), if_neg (by rw [recL_len]; omega), d2, d1]
  exact ⟨c1, rfl, rfl, rfl, c2⟩
theorem oc_back (r : RecD) (hb : r.Bd) {p : OpD} (hk : 1 ≤ r.o.k ∧ r.o.k ≤ 14) (hr : rrightB r.o = true) (hp : PlainAt r.o (looks r.o.k) p) (hf : Fits p) (g l : Int) :
    ocode (Page.page 2 (recL r (putL p))) g l = if r.g ≠ g ∨ r.l ≠ l then 23 else 0 := by
  obtain ⟨e1, e2⟩ := rc_back r hb hk hr hp hf
  unfold ocode
  rw [if_neg (by simpa using e1), e2.1, e2.2.1]
def recA : RecD := ⟨1, 2, 0, kindO 14⟩
theorem recA_bd : recA.Bd := ⟨⟨by decide, by decide⟩, ⟨by decide, by decide⟩, ⟨by decide, by decide⟩, ⟨⟨by decide, by decide⟩, ⟨by decide, by decide⟩, ⟨by decide, by decide⟩, ⟨by decide, by decide⟩, ⟨by decide, by decide⟩, ⟨by decide, by decide⟩, IsB.nil⟩⟩
theorem rc_few {s r : RecD} (h : sameR s r) (h1 : r.o.D.length ≤ 100000000) (h2 : r.o.M.length ≤ 100000000) : s.o.D.length ≤ 100000000 ∧ s.o.M.length ≤ 100000000 := by
  obtain ⟨_, _, _, _, _, _, _, _, _, e7, e8⟩ := h
  rw [e7, e8]; exact ⟨h1, h2⟩
end Go.Proofs.Yteajefmnbalofaa.Rec
