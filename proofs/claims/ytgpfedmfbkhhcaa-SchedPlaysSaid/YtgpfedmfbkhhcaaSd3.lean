/- Rows of operations: ref29.Same. -/
import Derived.Test.YtgpfedmfbkhhcaaSd2
import Derived.Test.YtgpfedmfbkhhcaaOpE
namespace Go.Proofs.Ytgpfedmfbkhhcaa.Sd
open Go.RowKit Mem Gx Hp Du Dv OpA
set_option linter.unusedVariables false
set_option linter.unusedSimpArgs false
set_option maxRecDepth 100000
set_option maxHeartbeats 2000000
abbrev faF (o : OpD) : Fact := sl o.a.A 1 (IE .u8) o.D
abbrev fmF (o : OpD) : Fact := sl o.m.A 1 (IE .i64) o.M
instance : Inhabited OpD := ⟨⟨0, 0, 0, 0, 0, 0, ⟨none, 0, 0⟩, [], ⟨none, 0, 0⟩, []⟩⟩
/-- Rows of operations that are the same. -/
structure SameL (L L' : List OpD) : Prop where
  len : L.length = L'.length
  all : ∀ (i : Nat) (a b : OpD), L[i]? = some a → L'[i]? = some b → sameP a b
theorem same29_any (A A' : Option Addr) (n c n' c' : Nat) (L L' : List OpD) (w : World) (hn : n = L.length) (hn' : n' = L'.length) (h9 : n ≤ 1000) (hS : SameL L L')
    (ok : ∀ o, o ∈ L → o.Ok ∧ o.D.length ≤ 100000 ∧ o.M.length ≤ 100000) (ok' : ∀ o, o ∈ L' → o.Ok)
    (hs : Rd1 w (sl A 8 opC L)) (hs' : Rd1 w (sl A' 8 opC L')) (fa : Rd1 w (allF L faF)) (fm : Rd1 w (allF L fmF)) (fa' : Rd1 w (allF L' faF)) (fm' : Rd1 w (allF L' fmF)) :
    Calls Try.prog 8 [.slice A n c, .slice A' n' c'].toArray w fun e w' => e = .returned (.bool true) ∧ Below w.heap.size w w' := by
  have hlen := hS.len
  refine g_enter0 T [] [] [sl A 8 opC L, sl A' 8 opC L', allF L faF, allF L fmF, allF L' faF, allF L' fmF] Try.func8 rfl Try.ntmps8 rfl (Rds.cons hs (.cons hs' (.cons fa (.cons fm (.cons fa' (.cons fm' .nil)))))).kn ?_
  (repeat' (first | (refine gG ?_; try intro _) | ((first | refine g_split rfl rfl tE (fun _ => ?_) (fun _ => ?_) | refine gk_cond rfl rfl tE (fun _ => ?_) (fun _ => ?_)) <;> (try first | (exfalso; omega; done) | (rename_i hx; exact absurd rfl hx) | (rename_i hx; cases hx; done)))))
  refine gk_loop_sel (fun (q : Nat × Unit) => match q with | (k, z) => (k ≤ n)) (fun (q : Nat × Unit) => match q with | (k, z) => [(0, .slice A n c), (1, .slice A' n' c'), (5, .int .i64 (k : Int))]) (fun (q : Nat × Unit) => match q with | (k, z) => []) (fun (q : Nat × Unit) => match q with | (k, z) => [sl A 8 opC L, sl A' 8 opC L', allF L faF, allF L fmF, allF L' faF, allF L' fmF]) (fun (q : Nat × Unit) => match q with | (k, z) => n - k) (0, ()) rfl (Nat.zero_le _) (by repeat (first | exact trivial | refine ⟨rfl, ?_⟩)) sA sS ?_
  rintro ⟨k, z⟩ hI
  replace hI : (k ≤ n) := hI
  change GK _ _ [(0, .slice A n c), (1, .slice A' n' c'), (5, .int .i64 (k : Int))] [] [sl A 8 opC L, sl A' 8 opC L', allF L faF, allF L fmF, allF L' faF, allF L' fmF]
  by_cases hlt : k < n
  · obtain ⟨a, ha⟩ : ∃ x, L[k]? = some x := ⟨L[k], List.getElem?_eq_getElem (by omega)⟩
    obtain ⟨b, hb⟩ : ∃ x, L'[k]? = some x := ⟨L'[k], List.getElem?_eq_getElem (by omega)⟩
    have haL := List.mem_of_getElem? ha
    have hbL := List.mem_of_getElem? hb
    have hab := hS.all k a b ha hb
    have hc : ∀ w, Rd1 w (allF L faF) → Rd1 w (allF L fmF) → Rd1 w (allF L' faF) → Rd1 w (allF L' fmF) → Calls Try.prog 31 [a.val, b.val].toArray w fun e w' => e = .returned (.bool true) ∧ Below w.heap.size w w' := fun w k1 k2 k3 k4 => by
      have h2 := rsame_any a b w (ok a haL).1 ⟨(k1.open haL).1, (k2.open haL).1⟩ (ok' b hbL) ⟨(k3.open hbL).1, (k4.open hbL).1⟩ ⟨by have := (ok a haL).2.1; omega, by have := (ok a haL).2.2; omega⟩
      rw [tB_true hab] at h2
      exact h2
    refine gk_elem (A := A) (enc := opC) (L := L) k mE (by omega) (by decide) (fun g o y eA hy => ?_)
    refine gk_elem (A := A') (enc := opC) (L := L') k mE (by omega) (by decide) (fun g' o' y' eA' hy' => ?_)
    subst eA
    subst eA'
    obtain rfl : a = y := by rw [ha] at hy; exact Option.some.inj hy
    obtain rfl : b = y' := by rw [hb] at hy'; exact Option.some.inj hy'
    (repeat' (first | (refine gG ?_; try intro _) | ((first | refine g_split rfl rfl tE (fun _ => ?_) (fun _ => ?_) | refine gk_cond rfl rfl tE (fun _ => ?_) (fun _ => ?_)) <;> (try first | (exfalso; omega; done) | (rename_i hx; exact absurd rfl hx) | (rename_i hx; cases hx; done)))))
    refine gk_any [0, 1, 2, 3, 4, 5, 6, 7] (Cut _ (fun _ : Unit => [(0, .slice (some ⟨g, o, none⟩) n c), (1, .slice (some ⟨g', o', none⟩) n' c'), (5, .int .i64 (k : Int)), (26, .bool false)]) (fun _ => []) (fun _ => [sl (some ⟨g, o, none⟩) 8 opC L, sl (some ⟨g', o', none⟩) 8 opC L', allF L faF, allF L fmF, allF L' faF, allF L' fmF])) rfl rfl (by kernel_rfl) ?_ (cut_k fun _ => ?_)
    · skip
      refine gb_take 0 rfl (by decide +kernel) rfl rfl (ys_ev (nw := true) hT rfl sI) sF ?_
      refine gb_take 1 rfl (by decide +kernel) rfl rfl (ys_ev (nw := true) hT rfl sI) sF ?_
      refine gb_take 2 rfl (by decide +kernel) rfl rfl (ys_ev (nw := true) hT rfl sI) sF ?_
      refine gb_take 3 rfl (by decide +kernel) rfl rfl (by first | exact ys_blk hT rfl rfl mE rfl rfl | exact ys_row hT rfl rfl mE rfl rfl | exact ys_row0 hT rfl rfl mE rfl rfl) sF ?_
      refine gb_take 4 rfl (by decide +kernel) rfl rfl (ys_ev (nw := true) hT rfl sI) sF ?_
      refine gb_take 5 rfl (by decide +kernel) rfl rfl (ys_ev (nw := true) hT rfl sI) sF ?_
      refine gb_take 6 rfl (by decide +kernel) rfl rfl (ys_ev (nw := true) hT rfl sI) sF ?_
      refine gb_take 7 rfl (by decide +kernel) rfl rfl (by first | exact ys_blk hT rfl rfl mE rfl rfl | exact ys_row hT rfl rfl mE rfl rfl | exact ys_row0 hT rfl rfl mE rfl rfl) sF ?_
      refine gb_only 8 (by decide +kernel) rfl rfl ?_
      refine mv_call_bel (fun w hk => hc w (hk.rR (φ := allF L faF) mE) (hk.rR (φ := allF L fmF) mE) (hk.rR (φ := allF L' faF) mE) (hk.rR (φ := allF L' fmF) mE)) rfl rfl rfl rfl rfl (by kernel_rfl) ?_
      refine ⟨sF, ?_⟩
      refine gb_take 9 rfl (by decide +kernel) rfl rfl (ys_ev (nw := true) hT rfl sI) sF ?_
      refine gb_nil (by decide +kernel) ?_
      exact ⟨(), (by repeat (first | exact trivial | refine ⟨rfl, ?_⟩)), sA, sS⟩
    · (repeat (refine gG ?_; try intro _))
      refine gk_say 5 (.int .i64 ((k + 1 : Nat) : Int)) rfl (by first | (congr 1; done) | (congr 1; omega)) ?_
      refine gk_again_sel rfl (k + 1, ()) (by omega) (by dsimp only; omega) (by repeat (first | exact trivial | refine ⟨rfl, ?_⟩)) sA sS
  · (repeat' (first | (refine gG ?_; try intro _) | ((first | refine g_split rfl rfl tE (fun _ => ?_) (fun _ => ?_) | refine gk_cond rfl rfl tE (fun _ => ?_) (fun _ => ?_)) <;> (try first | (exfalso; omega; done) | (rename_i hx; exact absurd rfl hx) | (rename_i hx; cases hx; done)))))
    refine gk_ret hT rfl rfl (.tmp rfl .nil) (fun w' hk => ?_)
    exact ⟨rfl, hk.toBelow⟩
end Go.Proofs.Ytgpfedmfbkhhcaa.Sd

