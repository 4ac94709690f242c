/- Where a volume, a group, a book is; Find. -/
import Derived.Test.YtgpfedmfbkhhcaaCtB
import Derived.Test.YtgpfedmfbkhhcaaGxL
namespace Go.Proofs.Ytgpfedmfbkhhcaa.Ct
open Go.RowKit Mem Gx
set_option linter.unusedVariables false
set_option linter.unusedSimpArgs false
set_option maxRecDepth 100000
set_option maxHeartbeats 2000000
abbrev VolD.val (x : VolD) : Value := .agg #[.int .i64 x.id, .int .u64 x.q, .slice x.s.A x.s.n x.s.c]
abbrev GrpD.val (x : GrpD) : Value := .agg #[.int .i64 x.id, .slice x.s.A x.s.n x.s.c]
abbrev BokD.val (x : BokD) : Value := .agg #[.int .i64 x.id, .int .u64 x.q, .slice x.s.A x.s.n x.s.c]
abbrev CatD.cs (c : CatD) : List Value := [.int .i64 c.nv, .int .i64 c.ng, .int .i64 c.nb, .int .u64 c.fl, .slice c.v.A c.v.n c.v.c, .slice c.g.A c.g.n c.g.c, .slice c.b.A c.b.n c.b.c, .slice c.k.A c.k.n c.k.c, .slice c.t.A c.t.n c.t.c]
theorem d_v {c : CatD} : Der [catF c] (sl c.v.A 3 VE c.V) := cat_part (.head _)
theorem d_V {c : CatD} : Der [catF c] (allF c.V VolD.f) := cat_part (.tail _ (.head _))
theorem d_g {c : CatD} : Der [catF c] (sl c.g.A 2 GE c.G) := cat_part (.tail _ (.tail _ (.head _)))
theorem d_G {c : CatD} : Der [catF c] (allF c.G GrpD.f) := cat_part (.tail _ (.tail _ (.tail _ (.head _))))
theorem d_b {c : CatD} : Der [catF c] (sl c.b.A 3 BE c.B) := cat_part (.tail _ (.tail _ (.tail _ (.tail _ (.head _)))))
theorem d_B {c : CatD} : Der [catF c] (allF c.B BokD.f) := cat_part (.tail _ (.tail _ (.tail _ (.tail _ (.tail _ (.head _))))))
theorem d_k {c : CatD} : Der [catF c] (sl c.k.A 1 (IE .u64) c.K) := cat_part (.tail _ (.tail _ (.tail _ (.tail _ (.tail _ (.tail _ (.head _)))))))
theorem d_t {c : CatD} : Der [catF c] (sl c.t.A 2 ME c.T) := cat_part (.tail _ (.tail _ (.tail _ (.tail _ (.tail _ (.tail _ (.tail _ (.head _))))))))
/-- The first place of a number. -/
def pos : List Int → Int → Option Nat
  | [], _ => none
  | x :: r, y => if x = y then some 0 else (pos r y).map (· + 1)
def posV (l : List Int) (y : Int) : Int := match pos l y with | some i => (i : Int) | none => -1
theorem pos_none : ∀ {l : List Int} {y : Int}, (∀ i, i < l.length → l[i]? ≠ some y) → pos l y = none
  | [], _, _ => rfl
  | x :: r, y, h => by
    have h0 : x ≠ y := fun e => h 0 (by simp) (by simp [e])
    unfold pos
    rw [if_neg h0, pos_none (l := r) fun i hi => by have := h (i + 1) (by simpa using hi); simpa using this]
    rfl
theorem pos_at : ∀ {l : List Int} {y : Int} {i : Nat}, l[i]? = some y → (∀ k, k < i → l[k]? ≠ some y) → pos l y = some i
  | [], _, _, h, _ => by simp at h
  | x :: r, y, 0, h, _ => by
    have : x = y := by simpa using h
    unfold pos
    rw [if_pos this]
  | x :: r, y, i + 1, h, hk => by
    have h0 : x ≠ y := fun e => hk 0 (Nat.succ_pos _) (by simp [e])
    unfold pos
    rw [if_neg h0, pos_at (l := r) (i := i) (by simpa using h) fun k hk' => by have := hk (k + 1) (by omega); simpa using this]
    rfl
theorem pos_some : ∀ {l : List Int} {y : Int} {i : Nat}, pos l y = some i → l[i]? = some y ∧ ∀ k, k < i → l[k]? ≠ some y
  | [], _, _, h => by cases h
  | x :: r, y, i, h => by
    unfold pos at h
    by_cases e : x = y
    · rw [if_pos e] at h
      injection h with h
      subst h
      exact ⟨by simp [e], fun k hk => absurd hk (Nat.not_lt_zero _)⟩
    · rw [if_neg e] at h
      cases hp : pos r y with
      | none => rw [hp] at h; cases h
      | some j =>
        rw [hp] at h
        injection h with h
        subst h
        obtain ⟨h1, h2⟩ := pos_some hp
        refine ⟨by simpa using h1, fun k hk => ?_⟩
        cases k with
        | zero => simpa using e
        | succ k => have := h2 k (Nat.lt_of_succ_lt_succ hk); simpa using this
theorem pos_no : ∀ {l : List Int} {y : Int}, pos l y = none → y ∉ l
  | [], _, _ => by simp
  | x :: r, y, h => by
    unfold pos at h
    by_cases e : x = y
    · rw [if_pos e] at h; cases h
    · rw [if_neg e] at h
      cases hp : pos r y with
      | none =>
        have := pos_no hp
        simp [this, Ne.symm e]
      | some j => rw [hp] at h; cases h
end Go.Proofs.Ytgpfedmfbkhhcaa.Ct

