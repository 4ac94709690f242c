/- Sixteenth part: bytes as a string; strings that are the same. -/
import Derived.Test.YtkdphoacniigjaaGx15
import Derived.Laws.BytesArg
import Derived.Laws.Strings
namespace Go.Proofs.Ytkdphoacniigjaa.Gx
open Go.RowKit Mem
set_option linter.unusedVariables false
set_option linter.unusedSimpArgs false
theorem beq_str (a b : ByteArray) : (a.toList == b.toList) = decide (a = b) := by
  rw [Bool.eq_iff_iff, beq_iff_eq, decide_eq_true_iff, ByteArray.toList_eq, ByteArray.toList_eq]
  constructor
  · intro h
    obtain ⟨⟨a⟩⟩ := a
    obtain ⟨⟨b⟩⟩ := b
    have h : a = b := h
    rw [h]
  · intro h; rw [h]
theorem bin_str_eql {P : Program} {t : Nat} (a b : ByteArray) (w : World) : (binOp .eql t (.string a) (.string b)).run P w = .ok (.bool (tB (a = b))) w := by
  have e : (a.toList == b.toList) = decide (a = b) := beq_str a b
  rw [tB_eq]
  simp [binOp, Op.stringOp, e]
theorem bin_str_neq {P : Program} {t : Nat} (a b : ByteArray) (w : World) : (binOp .neq t (.string a) (.string b)).run P w = .ok (.bool (tB (¬ a = b))) w := by
  have e : (a.toList == b.toList) = decide (a = b) := beq_str a b
  rw [tB_eq]
  simp [binOp, Op.stringOp, e]
section
variable {X : Cx} {f : Fr} {O R : List Fact} {ks k : List KI} {ops rest : List Oper} {o : Oper} {S : List Fact} {N : Fr → List Fact → List Fact → Prop}
theorem ys_str_eql (hT : TabOk X.P X.T) {t tt s : Nat} {z : List Value} {x y : Operand} {yt : TypeId} {a b : ByteArray} (ho : o.op = .binOp .eql t x y yt) (hx : look X.n f x = some (.string a)) (hy : look X.n f y = some (.string b)) (hty : tfind X.T t = some ⟨tt, .str, s, z⟩) : Ys X S f o (.bool (tB (a = b))) := fun ac w hr _ => by
  obtain ⟨ht, hk1⟩ := tfind_ok hT hty
  simp only at ht
  subst ht
  have hg : (eqGuard .eql tt x y (.string a) (.string b)).run X.P w = .ok () w := by
    unfold eqGuard
    split <;> rfl
  have h3 := bin_str_eql (P := X.P) (t := tt) a b w
  simp only [execOp, ho, hr.look hx, hr.look hy, Sem.run_bind, hg, Result.andThen_ok, h3]
  rfl
theorem ys_str_neq (hT : TabOk X.P X.T) {t tt s : Nat} {z : List Value} {x y : Operand} {yt : TypeId} {a b : ByteArray} (ho : o.op = .binOp .neq t x y yt) (hx : look X.n f x = some (.string a)) (hy : look X.n f y = some (.string b)) (hty : tfind X.T t = some ⟨tt, .str, s, z⟩) : Ys X S f o (.bool (tB (¬ a = b))) := fun ac w hr _ => by
  obtain ⟨ht, hk1⟩ := tfind_ok hT hty
  simp only at ht
  subst ht
  have hg : (eqGuard .neq tt x y (.string a) (.string b)).run X.P w = .ok () w := by
    unfold eqGuard
    split <;> rfl
  have h3 := bin_str_neq (P := X.P) (t := tt) a b w
  simp only [execOp, ho, hr.look hx, hr.look hy, Sem.run_bind, hg, Result.andThen_ok, h3]
  rfl
theorem run_conv_bytes {P : Program} {src dst e : Nat} (h1 : P.underlying src = some (.slice e)) (h2 : P.underlying e = some (.int .u8)) (h3 : P.underlying dst = some .string) {w : World} {A : Option Addr} {m : Nat} {L : List Int} (hm : m = L.length) (h : Sl w A 1 (IE .u8) L) (c : Nat) : (convert src dst (.slice A m c)).run P w = .ok (.string (strOfNums L)) w := by
  rcases Nat.eq_zero_or_pos L.length with h0 | h0
  · have hL : L = [] := List.length_eq_zero_iff.1 h0
    subst hL
    subst hm
    show (convert src dst (.slice A 0 c)).run P w = _
    rw [run_convert_bytes_string w src dst e A 0 c h1 h2 h3]
    cases A <;> simp [Conv.bytesToString, loadCells]
    all_goals rfl
  · obtain ⟨b, off, rfl, hc⟩ := h h0
    refine run_convert_bytes_arg w src e h1 h2 b off m c L hm.symm (fun i hi => ?_) dst h3
    have := hc i (by omega) 0 (by omega)
    rw [Nat.mul_one, Nat.add_zero] at this
    rw [this]
    show some (IE .u8 ((L.getD i default)) 0) = _
    rfl
theorem yd_conv_bytes (hT : TabOk X.P X.T) {src dst e t1 t2 t3 s1 s2 s3 : Nat} {z1 z2 z3 : List Value} {x : Operand} {A : Option Addr} {n c : Nat} {L : List Int} (hm : sl A 1 (IE .u8) L ∈ O ∨ sl A 1 (IE .u8) L ∈ R) (hn : n = L.length) (ho : o.op = .convert src dst x) (hx : look X.n f x = some (.slice A n c))
    (h1 : tfind X.T src = some ⟨t1, .slice e 1, s1, z1⟩) (h2 : tfind X.T e = some ⟨t2, .int .u8, s2, z2⟩) (h3 : tfind X.T dst = some ⟨t3, .str, s3, z3⟩) : Yd X f O R o (.string (strOfNums L)) := fun a w hr hk => by
  obtain ⟨e1, k1⟩ := tfind_ok hT h1
  obtain ⟨e2, k2⟩ := tfind_ok hT h2
  obtain ⟨e3, k3⟩ := tfind_ok hT h3
  simp only at e1 e2 e3
  subst e1 e2 e3
  have hs : Sl w A 1 (IE .u8) L := by
    rcases hm with h | h
    · exact hk.pO _ h
    · exact hk.pR _ h
  have := run_conv_bytes (P := X.P) (chk_slice k1.d).1 (chk_int k2.d) (chk_str k3.d) hn hs c
  simp [execOp, ho, hr.look hx, this]
end
theorem strOf_inj {L M : List Int} (h : ∀ x ∈ L, 0 ≤ x ∧ x ≤ 255) (h' : ∀ x ∈ M, 0 ≤ x ∧ x ≤ 255) (e : strOfNums L = strOfNums M) : L = M := by
  have e1 := congrArg (fun s => s.data.toList) e
  simp only [strOfNums_data] at e1
  have hl : L.length = M.length := by
    have := congrArg List.length e1
    simpa using this
  apply List.ext_getElem?
  intro i
  by_cases hi : i < L.length
  · have h1 := congrArg (fun l => l[i]?) e1
    simp only [List.getElem?_map, List.getElem?_eq_getElem hi, List.getElem?_eq_getElem (show i < M.length by omega), Option.map_some, Option.some.injEq] at h1
    have h2 := h _ (List.getElem_mem hi)
    have h3 := h' _ (List.getElem_mem (show i < M.length by omega))
    have h4 := congrArg UInt8.toNat h1
    rw [UInt8.toNat_ofNat', UInt8.toNat_ofNat'] at h4
    rw [List.getElem?_eq_getElem hi, List.getElem?_eq_getElem (show i < M.length by omega)]
    congr 1
    omega
  · rw [List.getElem?_eq_none (by omega), List.getElem?_eq_none (by omega)]
end Go.Proofs.Ytkdphoacniigjaa.Gx
