/- op: alive; the law OpTells. The law OpTells; an operation as an argument. op: bytes read as an operation, in plain words. op: what is put is read. -/
import Derived.Test.YteajefmnbalofaaOpF
import Derived.Test.YteajefmnbalofaaTab
import Derived.Test.YteajefmnbalofaaSl
namespace Go.Proofs.Yteajefmnbalofaa.OpA
open Go.RowKit Mem Gx Sls Bytes
set_option linter.unusedVariables false
set_option linter.unusedSimpArgs false
set_option maxRecDepth 100000
set_option maxHeartbeats 4000000
/-- An operation of a kind alone. -/
def kindO (k : Int) : OpD := ⟨k, 0, 0, 0, 0, 0, ⟨none, 0, 0⟩, [], ⟨none, 0, 0⟩, []⟩
theorem kind_ok (k : Int) : (kindO k).Ok := ⟨⟨rfl, Nat.le_refl _, Nat.zero_le _, fun _ => rfl⟩, ⟨rfl, Nat.le_refl _, Nat.zero_le _, fun _ => rfl⟩⟩
theorem kind_in (k : Int) (w : World) : (kindO k).In w := ⟨Sl.nil, Sl.nil⟩
def B14 : List Int := [14, 0, 0, 0, 0, 0, 0, 0, 0, 0, 0, 0, 0, 0, 0, 0, 0]
theorem put14 (p : OpD) (hp : PlainAt (kindO 14) (looks (kindO 14).k) p) : putL p = B14 := by
  have hl : looks (kindO 14).k = [] := by unfold looks kindO; simp
  rw [hl] at hp
  obtain ⟨ek, ev, ei, eb, ec, ep, eD, eM, ok⟩ := hp
  simp only [List.not_mem_nil, if_false] at ev ei eb ec ep eD eM
  unfold putL headL
  rw [ek, ev, ei, eb, ec, ep, eD, eM]
  decide
theorem rr_kind {k : Int} (h : k = 14 ∨ k = 17) : rrightB (kindO k) = true := by
  rcases h with rfl | rfl <;> simp [rrightB, kindO, looks, tB_eq]
theorem plain_same {o p q : OpD} {l : List Nat} (hp : PlainAt o l p) (hq : PlainAt o l q) : sameP p q :=
  ⟨hp.ek.trans hq.ek.symm, hp.ev.trans hq.ev.symm, hp.ei.trans hq.ei.symm, hp.eb.trans hq.eb.symm, hp.ec.trans hq.ec.symm, hp.ep.trans hq.ep.symm, hp.eD.trans hq.eD.symm, hp.eM.trans hq.eM.symm⟩
theorem plain_few {o p : OpD} {l : List Nat} (hp : PlainAt o l p) (h1 : o.D.length ≤ 100000000) (h2 : o.M.length ≤ 100000000) : p.D.length ≤ 100000000 ∧ p.M.length ≤ 100000000 := by
  rw [hp.eD, hp.eM]
  constructor
  · split
    · exact h1
    · simp
  · split
    · exact h2
    · simp
end Go.Proofs.Yteajefmnbalofaa.OpA
namespace Go.Proofs.Yteajefmnbalofaa.OpA
open Go.RowKit Mem Gx Sls Bytes
set_option linter.unusedVariables false
set_option linter.unusedSimpArgs false
set_option maxRecDepth 100000
set_option maxHeartbeats 4000000
/-- What is known of an operation that is handed in. -/
structure OpD.Bd (o : OpD) : Prop where
  bp : 0 ≤ o.p ∧ o.p ≤ 18446744073709551615
  bk : -9223372036854775808 ≤ o.k ∧ o.k ≤ 9223372036854775807
  bv : -9223372036854775808 ≤ o.v ∧ o.v ≤ 9223372036854775807
  bi : -9223372036854775808 ≤ o.i ∧ o.i ≤ 9223372036854775807
  bb : -9223372036854775808 ≤ o.b ∧ o.b ≤ 9223372036854775807
  bc : -9223372036854775808 ≤ o.c ∧ o.c ≤ 9223372036854775807
  bD : IsB o.D
theorem op_leaves {H : Type} {enc : TypeId × Value → H} {W : World} {V : Nat → Value} {l : List TypeId} (o : Nat) (hl : l = [3, 3, 3, 3, 3, 22, 36, 37]) (hV : ∀ (j : Nat) (tj : TypeId), l[j]? = some tj → Leaf enc Try.prog W tj (V (o + j))) :
    ∃ p : OpD, [V o, V (o + 1), V (o + 2), V (o + 3), V (o + 4), V (o + 5), V (o + 6), V (o + 7)] = p.cells ∧ p.Ok ∧ p.In W ∧ p.Bd := by
  subst hl
  obtain ⟨a0, e0, w0⟩ := leaf_int Try.underlying3 (hV 0 _ rfl)
  obtain ⟨a1, e1, w1⟩ := leaf_int Try.underlying3 (hV 1 _ rfl)
  obtain ⟨a2, e2, w2⟩ := leaf_int Try.underlying3 (hV 2 _ rfl)
  obtain ⟨a3, e3, w3⟩ := leaf_int Try.underlying3 (hV 3 _ rfl)
  obtain ⟨a4, e4, w4⟩ := leaf_int Try.underlying3 (hV 4 _ rfl)
  obtain ⟨a5, e5, w5⟩ := leaf_int Try.underlying22 (hV 5 _ rfl)
  obtain ⟨A, n, c, D, e6, k1, k2, k3, k4, k5, k6⟩ := leaf_ints Try.underlying36 Try.underlying5 (by kernel_rfl) (hV 6 _ rfl)
  obtain ⟨B, m, c', M, e7, q1, q2, q3, q4, q5, q6⟩ := leaf_ints Try.underlying37 Try.underlying3 (by kernel_rfl) (hV 7 _ rfl)
  refine ⟨⟨a0, a1, a2, a3, a4, a5, ⟨A, n, c⟩, D, ⟨B, m, c'⟩, M⟩, ?_, ⟨⟨k1, k3, k4, k5⟩, ⟨q1, q3, q4, q5⟩⟩, ⟨k2, q2⟩, ⟨u64_bd w5, i64_bd w0, i64_bd w1, i64_bd w2, i64_bd w3, i64_bd w4, fun x hx => ?_⟩⟩
  · rw [show V o = .int .i64 a0 from e0, e1, e2, e3, e4, e5, e6, e7]; rfl
  · have := k6 x hx
    simp [Lit.wf, IntKind.min, IntKind.max, IntKind.signed, IntKind.bits] at this
    omega
theorem op_of {H : Type} {enc : TypeId × Value → H} {W : World} {base : Nat} {v : Value} {d : DataW H} {p : List MemPlace} (hv : Value.okWide Try.prog W .any base 39 v) (h : DataW.Trod enc Try.prog W 0 (fun _ => true) true 39 v d p) :
    ∃ o : OpD, v = o.val ∧ o.Ok ∧ o.In W ∧ o.Bd := by
  have hl : leaves Try.prog 8 39 = some [3, 3, 3, 3, 3, 22, 36, 37] := by decide +kernel
  obtain ⟨V, rfl, hV⟩ := open_flat hl (by kernel_rfl) (by kernel_rfl) hv h
  obtain ⟨o, e, h1, h2, h3⟩ := op_leaves (V := V) 0 rfl (fun j tj hj => by rw [Nat.zero_add]; exact hV j tj hj)
  refine ⟨o, ?_, h1, h2, h3⟩
  have e' : (List.range 8).map V = o.cells := by rw [← e]; rfl
  show Value.agg ((List.range 8).map V).toArray = _
  rw [e']
  rfl
end Go.Proofs.Yteajefmnbalofaa.OpA
namespace Go.Proofs.Yteajefmnbalofaa.OpA
open Go.RowKit Mem Gx Sls Bytes
set_option linter.unusedVariables false
set_option linter.unusedSimpArgs false
set_option maxRecDepth 100000
set_option maxHeartbeats 1000000
/-- The number at a place. -/
def at_ (L : List Int) (o k : Nat) : Int := num ((L.drop o).take k)
def dn (L : List Int) : Nat := (at_ L 15 1).toNat
def dm (L : List Int) : Nat := (at_ L 16 1).toNat
/-- m numbers of two bytes. -/
def decM (L : List Int) : Nat → List Int
  | 0 => []
  | m + 1 => num (L.take 2) :: decM (L.drop 2) m
def dec (L : List Int) (a m : SlV) : OpD := ⟨at_ L 0 1, at_ L 1 2, at_ L 3 2, at_ L 5 1, at_ L 6 1, at_ L 7 8, a, (L.drop 17).take (dn L), m, decM (L.drop (17 + dn L)) (dm L)⟩
theorem decM_len (m : Nat) : ∀ L, (decM L m).length = m := by
  induction m with
  | zero => intro L; rfl
  | succ m ih => intro L; show (decM (L.drop 2) m).length + 1 = _; rw [ih]
theorem at_bd {L : List Int} (h : IsB L) (o k : Nat) (m : Int) (hm : (256 : Int) ^ k = m) : 0 ≤ at_ L o k ∧ at_ L o k < m := by
  have h1 := num_bd ((h.drop o).take k)
  refine ⟨h1.1, Int.lt_of_lt_of_le h1.2 ?_⟩
  have hl : ((L.drop o).take k).length ≤ k := by rw [List.length_take]; omega
  rw [← hm, pow_split _ k hl]
  have h2 : (0 : Int) < 256 ^ ((L.drop o).take k).length := pow_pos' _
  have h3 : (0 : Int) < 256 ^ (k - ((L.drop o).take k).length) := pow_pos' _
  have h4 : (256 : Int) ^ ((L.drop o).take k).length * 1 ≤ 256 ^ ((L.drop o).take k).length * 256 ^ (k - ((L.drop o).take k).length) := Int.mul_le_mul_of_nonneg_left (by omega) (by omega)
  omega
theorem le_at {L : List Int} (h : IsB L) (o k : Nat) (hl : o + k ≤ L.length) : le (at_ L o k) k = (L.drop o).take k := by
  have h1 : ((L.drop o).take k).length = k := by rw [List.length_take, List.length_drop]; omega
  have h2 := le_num ((h.drop o).take k)
  rw [h1] at h2
  exact h2
theorem one_at {L : List Int} (h : IsB L) (o : Nat) (hl : o + 1 ≤ L.length) : [at_ L o 1] = (L.drop o).take 1 := by
  rw [← le_at h o 1 hl]
  have := at_bd h o 1 256 (by decide)
  rw [le_cons, le_zero, Int.emod_eq_of_lt this.1 this.2]
theorem memL_dec {L : List Int} (h : IsB L) : ∀ (m : Nat), 2 * m ≤ L.length → memL (decM L m) = L.take (2 * m) := by
  intro m
  induction m generalizing L with
  | zero => intro _; rfl
  | succ m ih =>
    intro hl
    show memL (num (L.take 2) :: decM (L.drop 2) m) = _
    have h1 := le_at h 0 2 (by omega)
    rw [List.drop_zero] at h1
    have h2 : le (num (L.take 2)) 2 = L.take 2 := by
      have : at_ L 0 2 = num (L.take 2) := by unfold at_; rw [List.drop_zero]
      rw [← this]; exact h1
    have e : memL (num (L.take 2) :: decM (L.drop 2) m) = le (num (L.take 2)) 2 ++ memL (decM (L.drop 2) m) := rfl
    rw [e, h2, ih (h.drop 2) (by rw [List.length_drop]; omega)]
    have h3 : 2 * (m + 1) = 2 + 2 * m := by omega
    rw [h3, List.take_add]
theorem decM_memL : ∀ (M R : List Int), (∀ x ∈ M, 0 ≤ x ∧ x ≤ 65535) → decM (memL M ++ R) M.length = M
  | [], R, _ => rfl
  | x :: r, R, h => by
    have hx := h x (.head _)
    have e : memL (x :: r) ++ R = le x 2 ++ (memL r ++ R) := by
      show (le x 2 ++ memL r) ++ R = _
      rw [List.append_assoc]
    show num ((memL (x :: r) ++ R).take 2) :: decM ((memL (x :: r) ++ R).drop 2) r.length = _
    rw [e, List.take_left' (le_length x 2), List.drop_left' (le_length x 2), decM_memL r R (fun y hy => h y (.tail _ hy)), num_le x hx.1 2, Int.emod_eq_of_lt hx.1 (by omega)]
/-- Fields that have room. -/
structure Rg (p : OpD) : Prop where
  rk : 0 ≤ p.k ∧ p.k < 256
  rv : 0 ≤ p.v ∧ p.v < 65536
  ri : 0 ≤ p.i ∧ p.i < 65536
  rb : 0 ≤ p.b ∧ p.b < 256
  rc : 0 ≤ p.c ∧ p.c < 256
  rp : 0 ≤ p.p ∧ p.p < 18446744073709551616
  rD : p.D.length < 256
  rM : p.M.length < 256
  rm : ∀ x ∈ p.M, 0 ≤ x ∧ x ≤ 65535
theorem take_add' {α : Type} (L : List α) (a b : Nat) : L.take (a + b) = L.take a ++ (L.drop a).take b := List.take_add
/-- What is read, put again. -/
theorem put_dec {L : List Int} (h : IsB L) (a m : SlV) (hl : L.length = 17 + dn L + 2 * dm L) : putL (dec L a m) = L := by
  have hn := at_bd h 15 1 256 (by decide)
  have hm := at_bd h 16 1 256 (by decide)
  have eD : ((L.drop 17).take (dn L)).length = dn L := by rw [List.length_take, List.length_drop]; omega
  unfold putL headL dec
  dsimp only
  rw [eD, decM_len, memL_dec (h.drop _) (dm L) (by rw [List.length_drop]; omega), one_at h 0 (by omega), le_at h 1 2 (by omega), le_at h 3 2 (by omega), le_at h 7 8 (by omega)]
  have e1 : [at_ L 5 1, at_ L 6 1] = (L.drop 5).take 1 ++ (L.drop 6).take 1 := by rw [← one_at h 5 (by omega), ← one_at h 6 (by omega)]; rfl
  have e2 : [((dn L : Nat) : Int), ((dm L : Nat) : Int)] = (L.drop 15).take 1 ++ (L.drop 16).take 1 := by
    rw [← one_at h 15 (by omega), ← one_at h 16 (by omega)]
    unfold dn dm
    rw [Int.toNat_of_nonneg hn.1, Int.toNat_of_nonneg hm.1]; rfl
  rw [e1, e2]
  have t : ∀ (a b : Nat), (L.take a) ++ (L.drop a).take b = L.take (a + b) := fun a b => (take_add' L a b).symm
  have e0 : (L.drop 0).take 1 = L.take 1 := by rw [List.drop_zero]
  rw [e0]
  simp only [← List.append_assoc]
  rw [t 1 2, t 3 2, t 5 1, t 6 1, t 7 8, t 15 1, t 16 1, t 17 (dn L), t (17 + dn L) (2 * dm L), ← hl, List.take_length]
end Go.Proofs.Yteajefmnbalofaa.OpA
namespace Go.Proofs.Yteajefmnbalofaa.OpA
open Go.RowKit Mem Gx Sls Bytes
set_option linter.unusedVariables false
set_option linter.unusedSimpArgs false
set_option maxRecDepth 100000
set_option maxHeartbeats 1000000
theorem at_skip {x : Int} {k : Nat} {Y : List Int} {o j : Nat} (o' : Nat) (h : o = k + o') : at_ (le x k ++ Y) o j = at_ Y o' j := by
  subst h
  unfold at_
  rw [← List.drop_drop, List.drop_left' (le_length x k)]
theorem at_here {x : Int} {k : Nat} {Y : List Int} (m : Int) (hm : (256 : Int) ^ k = m) (h : 0 ≤ x ∧ x < m) : at_ (le x k ++ Y) 0 k = x := by
  unfold at_
  rw [List.drop_zero, List.take_left' (le_length x k), num_le x h.1 k, hm, Int.emod_eq_of_lt h.1 h.2]
theorem drop_skip {x : Int} {k : Nat} {Y : List Int} {o : Nat} (o' : Nat) (h : o = k + o') : (le x k ++ Y).drop o = Y.drop o' := by
  subst h
  rw [← List.drop_drop, List.drop_left' (le_length x k)]
theorem le_one {x : Int} (h : 0 ≤ x ∧ x < 256) : [x] = le x 1 := by rw [le_cons, le_zero, Int.emod_eq_of_lt h.1 h.2]
theorem putL_nest {p : OpD} (h : Rg p) : putL p = le p.k 1 ++ (le p.v 2 ++ (le p.i 2 ++ (le p.b 1 ++ (le p.c 1 ++ (le p.p 8 ++ (le (p.D.length : Int) 1 ++ (le (p.M.length : Int) 1 ++ (p.D ++ memL p.M)))))))) := by
  obtain ⟨rk, rv, ri, rb, rc, rp, rD, rM, rm⟩ := h
  unfold putL headL
  rw [← le_one rk, ← le_one rb, ← le_one rc, ← le_one (x := (p.D.length : Int)) (by omega), ← le_one (x := (p.M.length : Int)) (by omega)]
  simp only [List.append_assoc, List.cons_append, List.nil_append]
theorem dec_put {p : OpD} (h : Rg p) (a m : SlV) : dn (putL p) = p.D.length ∧ dm (putL p) = p.M.length ∧ sameP (dec (putL p) a m) p := by
  have hn := putL_nest h
  obtain ⟨rk, rv, ri, rb, rc, rp, rD, rM, rm⟩ := h
  have q1 : (256 : Int) ^ 1 = 256 := by decide
  have q2 : (256 : Int) ^ 2 = 65536 := by decide
  have q8 : (256 : Int) ^ 8 = 18446744073709551616 := by decide
  have e15 : at_ (putL p) 15 1 = (p.D.length : Int) := by
    rw [hn, at_skip 14 rfl, at_skip 12 rfl, at_skip 10 rfl, at_skip 9 rfl, at_skip 8 rfl, at_skip 0 rfl, at_here 256 q1 (by omega)]
  have e16 : at_ (putL p) 16 1 = (p.M.length : Int) := by
    rw [hn, at_skip 15 rfl, at_skip 13 rfl, at_skip 11 rfl, at_skip 10 rfl, at_skip 9 rfl, at_skip 1 rfl, at_skip 0 rfl, at_here 256 q1 (by omega)]
  have d1 : dn (putL p) = p.D.length := by unfold dn; rw [e15]; rfl
  have d2 : dm (putL p) = p.M.length := by unfold dm; rw [e16]; rfl
  refine ⟨d1, d2, ?_, ?_, ?_, ?_, ?_, ?_, ?_, ?_⟩
  · show at_ (putL p) 0 1 = p.k
    rw [hn, at_here 256 q1 rk]
  · show at_ (putL p) 1 2 = p.v
    rw [hn, at_skip 0 rfl, at_here 65536 q2 rv]
  · show at_ (putL p) 3 2 = p.i
    rw [hn, at_skip 2 rfl, at_skip 0 rfl, at_here 65536 q2 ri]
  · show at_ (putL p) 5 1 = p.b
    rw [hn, at_skip 4 rfl, at_skip 2 rfl, at_skip 0 rfl, at_here 256 q1 rb]
  · show at_ (putL p) 6 1 = p.c
    rw [hn, at_skip 5 rfl, at_skip 3 rfl, at_skip 1 rfl, at_skip 0 rfl, at_here 256 q1 rc]
  · show at_ (putL p) 7 8 = p.p
    rw [hn, at_skip 6 rfl, at_skip 4 rfl, at_skip 2 rfl, at_skip 1 rfl, at_skip 0 rfl, at_here _ q8 rp]
  · show ((putL p).drop 17).take (dn (putL p)) = p.D
    rw [d1, hn, drop_skip 16 rfl, drop_skip 14 rfl, drop_skip 12 rfl, drop_skip 11 rfl, drop_skip 10 rfl, drop_skip 2 rfl, drop_skip 1 rfl, drop_skip 0 rfl, List.drop_zero, List.take_left' rfl]
  · show decM ((putL p).drop (17 + dn (putL p))) (dm (putL p)) = p.M
    rw [d1, d2, hn, ← List.drop_drop, drop_skip 16 rfl, drop_skip 14 rfl, drop_skip 12 rfl, drop_skip 11 rfl, drop_skip 10 rfl, drop_skip 2 rfl, drop_skip 1 rfl, drop_skip 0 rfl, List.drop_zero, List.drop_left' rfl]
    have := decM_memL p.M [] rm
    rwa [List.append_nil] at this
/-- Bytes tell which operation they are of. -/
theorem putL_inj {p q : OpD} (hp : Rg p) (hq : Rg q) (e : putL p = putL q) : sameP p q := by
  obtain ⟨_, _, h1⟩ := dec_put hp ⟨none, 0, 0⟩ ⟨none, 0, 0⟩
  obtain ⟨_, _, h2⟩ := dec_put hq ⟨none, 0, 0⟩ ⟨none, 0, 0⟩
  rw [e] at h1
  obtain ⟨a1, a2, a3, a4, a5, a6, a7, a8⟩ := h1
  obtain ⟨b1, b2, b3, b4, b5, b6, b7, b8⟩ := h2
  exact ⟨a1.symm.trans b1, a2.symm.trans b2, a3.symm.trans b3, a4.symm.trans b4, a5.symm.trans b5, a6.symm.trans b6, a7.symm.trans b7, a8.symm.trans b8⟩
theorem putL_same {p q : OpD} (h : sameP p q) : putL p = putL q := by
  obtain ⟨a1, a2, a3, a4, a5, a6, a7, a8⟩ := h
  unfold putL headL
  rw [a1, a2, a3, a4, a5, a6, a7, a8]
theorem fits_rg {p : OpD} (h : Fits p) : Rg p := by
  obtain ⟨f1, f2, f3, f4, f5, f6, f7, f8, f9⟩ := h
  exact ⟨by omega, by omega, by omega, by omega, by omega, by omega, by omega, by omega, fun x hx => by have := f9 x hx; omega⟩
theorem decM_isB (m : Nat) : ∀ {L : List Int}, IsB L → ∀ x ∈ decM L m, 0 ≤ x ∧ x ≤ 65535 := by
  induction m with
  | zero => intro L _ x hx; cases hx
  | succ m ih =>
    intro L h x hx
    rcases List.mem_cons.1 hx with rfl | hx
    · have := at_bd h 0 2 65536 (by decide)
      unfold at_ at this
      rw [List.drop_zero] at this
      omega
    · exact ih (h.drop 2) x hx
theorem dec_rg {L : List Int} (h : IsB L) (a m : SlV) : Rg (dec L a m) := by
  have hn := at_bd h 15 1 256 (by decide)
  have hm := at_bd h 16 1 256 (by decide)
  refine ⟨at_bd h 0 1 256 (by decide), at_bd h 1 2 65536 (by decide), at_bd h 3 2 65536 (by decide), at_bd h 5 1 256 (by decide), at_bd h 6 1 256 (by decide), at_bd h 7 8 _ (by decide), ?_, ?_, decM_isB _ (h.drop _)⟩
  · show ((L.drop 17).take (dn L)).length < 256
    rw [List.length_take]
    have : dn L < 256 := by unfold dn; omega
    omega
  · show (decM (L.drop (17 + dn L)) (dm L)).length < 256
    rw [decM_len]
    unfold dm; omega
/-- An operation that may be, as it stands, of these bytes. -/
noncomputable def goodP (L : List Int) : Prop := (1 ≤ (dec L ⟨none, 0, 0⟩ ⟨none, 0, 0⟩).k ∧ (dec L ⟨none, 0, 0⟩ ⟨none, 0, 0⟩).k ≤ 14) ∧ rrightB (dec L ⟨none, 0, 0⟩ ⟨none, 0, 0⟩) = true ∧ ∀ p, PlainAt (dec L ⟨none, 0, 0⟩ ⟨none, 0, 0⟩) (looks (dec L ⟨none, 0, 0⟩ ⟨none, 0, 0⟩).k) p → sameP (dec L ⟨none, 0, 0⟩ ⟨none, 0, 0⟩) p
/-- An error, or 0. -/
noncomputable def getC (L : List Int) : Int := if L.length < 17 ∨ L.length < 17 + dn L + 2 * dm L then 20 else if 17 + dn L + 2 * dm L < L.length ∨ ¬ tB (goodP L) = true then 21 else 0
end Go.Proofs.Yteajefmnbalofaa.OpA
