/- maps.Keys, and what is made of it (uint32). -/
import Derived.Test.YtokhfkbbhdaghaaGreatGxY
namespace Go.Proofs.YtokhfkbbhdaghaaGreat.KyU
open Go.RowKit Mem Gx
set_option linter.unusedVariables false
set_option linter.unusedSimpArgs false
set_option maxRecDepth 100000
set_option maxHeartbeats 1000000
theorem elt_K : Elt Tryz.prog 45 22 1 4 := Elt.mk' (z := .int .u32 0) Tryz.underlying45 (by kernel_rfl) rfl (by decide)
theorem oneK : ∀ (x : Int) (j : Nat), ((IE .u32) x j).oneCell' = true := by intro x j; rfl
/-- Keys that have come, and their places. -/
structure GoodK (M : List (Int × Value)) (q : List Nat × List (Int)) : Prop where
  nd : q.1.Nodup
  lt : ∀ i, i ∈ q.1 → i < M.length
  pm : q.2.Perm (q.1.filterMap fun i => (M[i]?).map (·.1))
theorem good_nil (M : List (Int × Value)) : GoodK M ([], []) := ⟨List.nodup_nil, fun i h => (by cases h), List.Perm.refl _⟩
theorem GoodK.step {M : List (Int × Value)} {Q : List Nat} {ys : List (Int)} {i : Nat} {x : Int} {v : Value} (g : GoodK M (Q, ys)) (hi : M[i]? = some (x, v)) (hq : i ∉ Q) : GoodK M (i :: Q, ys ++ [x]) :=
  ⟨List.nodup_cons.2 ⟨hq, g.nd⟩, fun j hj => by
    rcases List.mem_cons.1 hj with rfl | hj
    · exact (List.getElem?_eq_some_iff.1 hi).1
    · exact g.lt j hj, by
    have e : (i :: Q).filterMap (fun i => (M[i]?).map (·.1)) = x :: Q.filterMap (fun i => (M[i]?).map (·.1)) := by rw [List.filterMap_cons, hi]; rfl
    show (ys ++ [x]).Perm ((i :: Q).filterMap fun i => (M[i]?).map (·.1))
    rw [e]
    exact (List.perm_append_singleton x ys).trans (g.pm.cons x)⟩
theorem range_keys (M : List (Int × Value)) (k : Nat) (hk : k ≤ M.length) : (List.range k).filterMap (fun i => (M[i]?).map (·.1)) = (M.take k).map (·.1) := by
  induction k with
  | zero => rfl
  | succ k ih =>
    have e : M[k]? = some M[k] := List.getElem?_eq_getElem (by omega)
    rw [List.range_succ, List.filterMap_append, ih (by omega), List.take_succ_eq_append_getElem (by omega), List.map_append, List.filterMap_cons, e]
    rfl
theorem GoodK.fin {M : List (Int × Value)} {q : List Nat × List (Int)} (g : GoodK M q) (h : ∀ i, i < M.length → i ∈ q.1) : q.2.Perm (M.map (·.1)) := by
  have h1 : q.1.Perm (List.range M.length) := (List.perm_ext_iff_of_nodup g.nd List.nodup_range).2 fun i => by
    rw [List.mem_range]
    exact ⟨g.lt i, h i⟩
  have h2 := range_keys M M.length (Nat.le_refl _)
  rw [List.take_length] at h2
  rw [← h2]
  exact g.pm.trans (h1.filterMap _)
abbrev LbK (M : List (Int × Value)) := { q : List Nat × List (Int) // GoodK M q }
/-- A key that hasn't come comes. -/
def StK (M : List (Int × Value)) (q : LbK M) (x : Int) (q' : LbK M) : Prop := ∃ i v, M[i]? = some (x, v) ∧ i ∉ q.1.1 ∧ q'.1 = (i :: q.1.1, q.1.2 ++ [x])
def FinK (M : List (Int × Value)) (q : LbK M) : Prop := ∀ i, i < M.length → i ∈ q.1.1
theorem rds_of {w : World} : ∀ {l : List Fact}, (∀ φ, φ ∈ l → Rd1 w φ) → Rds w l
  | [], _ => .nil
  | _ :: _, h => .cons (h _ (.head _)) (rds_of fun φ hφ => h φ (.tail _ hφ))
theorem Kn.rds {E : List Nat} {w0 w : World} {O R l : List Fact} (h : Kn E w0 w O R) (hl : l ⊆ R) : Rds w l := rds_of fun φ hφ => h.rR (hl hφ)
end Go.Proofs.YtokhfkbbhdaghaaGreat.KyU
