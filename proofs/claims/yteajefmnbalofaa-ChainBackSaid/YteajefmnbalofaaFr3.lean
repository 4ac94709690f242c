/- Blocks that are free: the list's state; Len, Has, Give, Take. -/
import Derived.Test.YteajefmnbalofaaFr2
import Derived.Test.YteajefmnbalofaaGxN
namespace Go.Proofs.Yteajefmnbalofaa.Hp
open Go.RowKit Mem Gx
set_option linter.unusedVariables false
set_option linter.unusedSimpArgs false
set_option maxRecDepth 100000
set_option maxHeartbeats 1000000
abbrev one : Value := .int .i64 1
def kv (K : List Int) : List (Int × Value) := K.map fun k => (k, one)
theorem lkp_out {b : Int} : ∀ {K : List Int} {i : Nat}, b ∉ K → lkp b (kv K) i = none
  | [], _, _ => rfl
  | x :: r, i, h => by
    show (if b = x then _ else _) = _
    rw [if_neg (fun e => h (by rw [e]; exact .head _))]
    exact lkp_out (K := r) (i := i + 1) fun h1 => h (.tail _ h1)
theorem lkp_in {b : Int} : ∀ {K : List Int} {i : Nat}, b ∈ K → ∃ n, lkp b (kv K) i = some (i + n, one) ∧ K[n]? = some b
  | [], _, h => by cases h
  | x :: r, i, h => by
    by_cases e : b = x
    · refine ⟨0, ?_, by simp [e]⟩
      show (if b = x then _ else _) = _
      rw [if_pos e]
      rfl
    · obtain ⟨n, h1, h2⟩ := lkp_in (K := r) (i := i + 1) (by cases h with | head => exact absurd rfl e | tail _ h => exact h)
      refine ⟨n + 1, ?_, by simpa using h2⟩
      show (if b = x then _ else lkp b (kv r) (i + 1)) = _
      rw [if_neg e, h1, show i + 1 + n = i + (n + 1) by omega]
theorem kv_set {b : Int} {K : List Int} (h : b ∉ K) : mset b one (kv K) = kv (K ++ [b]) := by
  rw [mset_none (lkp_out (i := 0) h)]
  unfold kv
  rw [List.map_append]
  rfl
theorem perm_eraseIdx {α : Type} : ∀ {L : List α} {n : Nat} {x : α}, L[n]? = some x → (x :: L.eraseIdx n).Perm L
  | [], n, x, h => by simp at h
  | y :: r, 0, x, h => by
    obtain rfl : y = x := by simpa using h
    exact List.Perm.refl _
  | y :: r, n + 1, x, h => by
    have := perm_eraseIdx (L := r) (n := n) (by simpa using h)
    exact (List.Perm.swap y x _).trans (this.cons y)
theorem kv_del {b : Int} {K : List Int} (h : b ∈ K) : ∃ K', mdel b (kv K) = kv K' ∧ (b :: K').Perm K := by
  obtain ⟨n, h1, h2⟩ := lkp_in (i := 0) h
  refine ⟨K.eraseIdx n, ?_, perm_eraseIdx h2⟩
  unfold mdel
  rw [h1]
  simp only [Nat.zero_add]
  unfold kv
  apply List.ext_getElem?
  intro k
  simp only [List.getElem?_eraseIdx, List.getElem?_map]
  split <;> rfl
theorem has_val {b : Int} {K : List Int} : ((lkp b (kv K) 0).map (·.2)).getD (.int .i64 0) = .int .i64 (if b ∈ K then 1 else 0) := by
  by_cases h : b ∈ K
  · obtain ⟨n, h1, _⟩ := lkp_in (i := 0) h
    rw [h1, if_pos h]
    rfl
  · rw [lkp_out h, if_neg h]
    rfl
/-- The map, if there is one. -/
def mpo (mo : Option Nat) (K : List Int) : Fact := match mo with
  | some r => mp r .u32 (kv K)
  | none => ⟨fun _ => False, fun _ => K = [], fun _ _ _ h => h⟩
/-- Where a list of blocks lies. -/
structure FrS where
  mo : Option Nat
  v : Value
  L : List Int
  K : List Int
def frF (g : Nat) (s : FrS) : List Fact := [packF (frL g [.map s.mo] 129 s.v s.L), mpo s.mo s.K]
/-- What it says. -/
structure FrOk (s : FrS) (S : List Int) : Prop where
  l : s.L.Perm S
  k : s.K.Perm S
  sorted : S.Pairwise (· < ·)
  heap : HeapN (fun x y : Int => x < y) s.L s.L.length
  nil : s.mo = none → S = []
  len : S.length ≤ 10000
theorem frF_fin (g : Nat) (s : FrS) : ∀ b, (packF (frF g s)).S b ↔ b ∈ (g :: ownE s.v) ++ s.mo.toList := fun b => by
  obtain ⟨mo, v, L, K⟩ := s
  constructor
  · rintro ⟨φ, hφ, hb⟩
    rcases List.mem_cons.1 hφ with rfl | hφ
    · exact List.mem_append_left _ ((fr_fin g [.map mo] 129 v L b).1 hb)
    · obtain rfl := List.mem_singleton.1 hφ
      cases mo with
      | none => exact hb.elim
      | some r =>
        have : b = r := hb
        subst this
        exact List.mem_append_right _ (.head _)
  · intro hb
    rcases List.mem_append.1 hb with hb | hb
    · exact ⟨_, .head _, (fr_fin g [.map mo] 129 v L b).2 hb⟩
    · cases mo with
      | none => cases hb
      | some r =>
        obtain rfl := List.mem_singleton.1 hb
        exact ⟨_, .tail _ (.head _), rfl⟩
theorem z_int : ∀ w, (zeroValue 3).run Try.prog w = .ok (.int .i64 0) w := fun w => by kernel_rfl
theorem llen_any (g : Nat) (s : FrS) (w : World) (h : Rd1 w (packF (frF g s))) (hl : s.L.length ≤ 100000) :
    Calls Try.prog 53 [.pointer (some ⟨g, 0, none⟩)].toArray w fun e w' => e = .returned (.int .i64 (s.L.length : Int)) ∧ Below w.heap.size w w' := by
  obtain ⟨mo, v, L, K⟩ := s
  obtain ⟨A, c, hv, hc, hm, hA, hs⟩ := own_rdv ((h.unpack (.head _)).unpack (.tail _ (.head _)))
  replace hv : v = .slice A L.length c := hv
  subst hv
  have hb : Rd1 w (blk g [.slice A L.length c, .map mo] 129) := (h.unpack (.head _)).unpack (.head _)
  refine g_enter0 T [] [] [row g 0 [.slice A L.length c, .map mo]] Try.func53 rfl Try.ntmps53 rfl (Rds.cons hb.row .nil).kn ?_
  (repeat' (first | (refine gG ?_; try intro _) | ((first | refine g_split rfl rfl tE (fun _ => ?_) (fun _ => ?_) | refine gk_cond rfl rfl tE (fun _ => ?_) (fun _ => ?_)) <;> (try first | (exfalso; omega; done) | (rename_i hx; exact absurd rfl hx) | (rename_i hx; cases hx; done)))))
  refine gk_ret hT rfl rfl (.tmp rfl .nil) (fun w' hk => ?_)
  exact ⟨rfl, hk.toBelow⟩
end Go.Proofs.Yteajefmnbalofaa.Hp

