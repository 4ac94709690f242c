/- op: what is put is read. -/
import Derived.Test.YtkdphoacniigjaaOpI
namespace Go.Proofs.Ytkdphoacniigjaa.OpA
open Go.RowKit Mem Gx Sls Bytes
set_option linter.unusedVariables false
set_option linter.unusedSimpArgs false
set_option maxRecDepth 100000
set_option maxHeartbeats 1000000
theorem at_skip {x : Int} {k : Nat} {Y : List Int} {o j : Nat} (o' : Nat) (h : o = k + o') : at_ (le x k ++ Y) o j = at_ Y o' j := by
  subst h
  unfold at_
  rw [← List.drop_drop, List.drop_left' (le_length x k)]
theorem at_here {x : Int} {k : Nat} {Y : List Int} (m : Int) (hm : (256 : Int) ^ k = m) (h : 0 ≤ x ∧ x < m) : at_ (le x k ++ Y) 0 k = x := by
  unfold at_
  rw [List.drop_zero, List.take_left' (le_length x k), num_le x h.1 k, hm, Int.emod_eq_of_lt h.1 h.2]
theorem drop_skip {x : Int} {k : Nat} {Y : List Int} {o : Nat} (o' : Nat) (h : o = k + o') : (le x k ++ Y).drop o = Y.drop o' := by
  subst h
  rw [← List.drop_drop, List.drop_left' (le_length x k)]
theorem le_one {x : Int} (h : 0 ≤ x ∧ x < 256) : [x] = le x 1 := by rw [le_cons, le_zero, Int.emod_eq_of_lt h.1 h.2]
theorem putL_nest {p : OpD} (h : Rg p) : putL p = le p.k 1 ++ (le p.v 2 ++ (le p.i 2 ++ (le p.b 1 ++ (le p.c 1 ++ (le p.p 8 ++ (le (p.D.length : Int) 1 ++ (le (p.M.length : Int) 1 ++ (p.D ++ memL p.M)))))))) := by
  obtain ⟨rk, rv, ri, rb, rc, rp, rD, rM, rm⟩ := h
  unfold putL headL
  rw [← le_one rk, ← le_one rb, ← le_one rc, ← le_one (x := (p.D.length : Int)) (by omega), ← le_one (x := (p.M.length : Int)) (by omega)]
  simp only [List.append_assoc, List.cons_append, List.nil_append]
theorem dec_put {p : OpD} (h : Rg p) (a m : SlV) : dn (putL p) = p.D.length ∧ dm (putL p) = p.M.length ∧ sameP (dec (putL p) a m) p := by
  have hn := putL_nest h
  obtain ⟨rk, rv, ri, rb, rc, rp, rD, rM, rm⟩ := h
  have q1 : (256 : Int) ^ 1 = 256 := by decide
  have q2 : (256 : Int) ^ 2 = 65536 := by decide
  have q8 : (256 : Int) ^ 8 = 18446744073709551616 := by decide
  have e15 : at_ (putL p) 15 1 = (p.D.length : Int) := by
    rw [hn, at_skip 14 rfl, at_skip 12 rfl, at_skip 10 rfl, at_skip 9 rfl, at_skip 8 rfl, at_skip 0 rfl, at_here 256 q1 (by omega)]
  have e16 : at_ (putL p) 16 1 = (p.M.length : Int) := by
    rw [hn, at_skip 15 rfl, at_skip 13 rfl, at_skip 11 rfl, at_skip 10 rfl, at_skip 9 rfl, at_skip 1 rfl, at_skip 0 rfl, at_here 256 q1 (by omega)]
  have d1 : dn (putL p) = p.D.length := by unfold dn; rw [e15]; rfl
  have d2 : dm (putL p) = p.M.length := by unfold dm; rw [e16]; rfl
  refine ⟨d1, d2, ?_, ?_, ?_, ?_, ?_, ?_, ?_, ?_⟩
  · show at_ (putL p) 0 1 = p.k
    rw [hn, at_here 256 q1 rk]
  · show at_ (putL p) 1 2 = p.v
    rw [hn, at_skip 0 rfl, at_here 65536 q2 rv]
  · show at_ (putL p) 3 2 = p.i
    rw [hn, at_skip 2 rfl, at_skip 0 rfl, at_here 65536 q2 ri]
  · show at_ (putL p) 5 1 = p.b
    rw [hn, at_skip 4 rfl, at_skip 2 rfl, at_skip 0 rfl, at_here 256 q1 rb]
  · show at_ (putL p) 6 1 = p.c
    rw [hn, at_skip 5 rfl, at_skip 3 rfl, at_skip 1 rfl, at_skip 0 rfl, at_here 256 q1 rc]
  · show at_ (putL p) 7 8 = p.p
    rw [hn, at_skip 6 rfl, at_skip 4 rfl, at_skip 2 rfl, at_skip 1 rfl, at_skip 0 rfl, at_here _ q8 rp]
  · show ((putL p).drop 17).take (dn (putL p)) = p.D
    rw [d1, hn, drop_skip 16 rfl, drop_skip 14 rfl, drop_skip 12 rfl, drop_skip 11 rfl, drop_skip 10 rfl, drop_skip 2 rfl, drop_skip 1 rfl, drop_skip 0 rfl, List.drop_zero, List.take_left' rfl]
  · show decM ((putL p).drop (17 + dn (putL p))) (dm (putL p)) = p.M
    rw [d1, d2, hn, ← List.drop_drop, drop_skip 16 rfl, drop_skip 14 rfl, drop_skip 12 rfl, drop_skip 11 rfl, drop_skip 10 rfl, drop_skip 2 rfl, drop_skip 1 rfl, drop_skip 0 rfl, List.drop_zero, List.drop_left' rfl]
    have := decM_memL p.M [] rm
    rwa [List.append_nil] at this
/-- Bytes tell which operation they are of. -/
theorem putL_inj {p q : OpD} (hp : Rg p) (hq : Rg q) (e : putL p = putL q) : sameP p q := by
  obtain ⟨_, _, h1⟩ := dec_put hp ⟨none, 0, 0⟩ ⟨none, 0, 0⟩
  obtain ⟨_, _, h2⟩ := dec_put hq ⟨none, 0, 0⟩ ⟨none, 0, 0⟩
  rw [e] at h1
  obtain ⟨a1, a2, a3, a4, a5, a6, a7, a8⟩ := h1
  obtain ⟨b1, b2, b3, b4, b5, b6, b7, b8⟩ := h2
  exact ⟨a1.symm.trans b1, a2.symm.trans b2, a3.symm.trans b3, a4.symm.trans b4, a5.symm.trans b5, a6.symm.trans b6, a7.symm.trans b7, a8.symm.trans b8⟩
theorem putL_same {p q : OpD} (h : sameP p q) : putL p = putL q := by
  obtain ⟨a1, a2, a3, a4, a5, a6, a7, a8⟩ := h
  unfold putL headL
  rw [a1, a2, a3, a4, a5, a6, a7, a8]
theorem fits_rg {p : OpD} (h : Fits p) : Rg p := by
  obtain ⟨f1, f2, f3, f4, f5, f6, f7, f8, f9⟩ := h
  exact ⟨by omega, by omega, by omega, by omega, by omega, by omega, by omega, by omega, fun x hx => by have := f9 x hx; omega⟩
theorem decM_isB (m : Nat) : ∀ {L : List Int}, IsB L → ∀ x ∈ decM L m, 0 ≤ x ∧ x ≤ 65535 := by
  induction m with
  | zero => intro L _ x hx; cases hx
  | succ m ih =>
    intro L h x hx
    rcases List.mem_cons.1 hx with rfl | hx
    · have := at_bd h 0 2 65536 (by decide)
      unfold at_ at this
      rw [List.drop_zero] at this
      omega
    · exact ih (h.drop 2) x hx
theorem dec_rg {L : List Int} (h : IsB L) (a m : SlV) : Rg (dec L a m) := by
  have hn := at_bd h 15 1 256 (by decide)
  have hm := at_bd h 16 1 256 (by decide)
  refine ⟨at_bd h 0 1 256 (by decide), at_bd h 1 2 65536 (by decide), at_bd h 3 2 65536 (by decide), at_bd h 5 1 256 (by decide), at_bd h 6 1 256 (by decide), at_bd h 7 8 _ (by decide), ?_, ?_, decM_isB _ (h.drop _)⟩
  · show ((L.drop 17).take (dn L)).length < 256
    rw [List.length_take]
    have : dn L < 256 := by unfold dn; omega
    omega
  · show (decM (L.drop (17 + dn L)) (dm L)).length < 256
    rw [decM_len]
    unfold dm; omega
/-- An operation that may be, as it stands, of these bytes. -/
noncomputable def goodP (L : List Int) : Prop := (1 ≤ (dec L ⟨none, 0, 0⟩ ⟨none, 0, 0⟩).k ∧ (dec L ⟨none, 0, 0⟩ ⟨none, 0, 0⟩).k ≤ 14) ∧ rrightB (dec L ⟨none, 0, 0⟩ ⟨none, 0, 0⟩) = true ∧ ∀ p, PlainAt (dec L ⟨none, 0, 0⟩ ⟨none, 0, 0⟩) (looks (dec L ⟨none, 0, 0⟩ ⟨none, 0, 0⟩).k) p → sameP (dec L ⟨none, 0, 0⟩ ⟨none, 0, 0⟩) p
/-- An error, or 0. -/
noncomputable def getC (L : List Int) : Int := if L.length < 17 ∨ L.length < 17 + dn L + 2 * dm L then 20 else if 17 + dn L + 2 * dm L < L.length ∨ ¬ tB (goodP L) = true then 21 else 0
end Go.Proofs.Ytkdphoacniigjaa.OpA
