/- The walk by reckoned steps: regions that draw, within a round of a loop over a function. -/
import Derived.Test.YtokhfkbbhdaghaaGreatGxW
import Derived.Test.YtokhfkbbhdaghaaGreatGxP
import Derived.Orders
namespace Go.Proofs.YtokhfkbbhdaghaaGreat.Gx
open Go.RowKit Mem
set_option linter.unusedVariables false
set_option linter.unusedSimpArgs false
theorem wpOps_in {r : Option Nat} {P : Program} {ops : Array Oper} {Q : Exit → Act → World → Prop} (hd : ∀ (i : Nat) (o : Oper), ops[i]? = some o → noDefer o.op = true) (hno : ¬ LetsOut Q) : ∀ (l : List Nat) (a : Act) (w : World), wpOps P ops Q l a w → wpOpsIn (fenceR r) 0 P ops Q l a w
  | [], a, w, h => h
  | i :: rest, a, w, h => by
    unfold wpOps at h
    unfold wpOpsIn
    cases ho : ops[i]? with
    | none =>
      rw [ho] at h
      exact wpOps_in hd hno rest a w h
    | some o =>
      rw [ho] at h
      dsimp only at h ⊢
      by_cases hw : Region.wanted o (yielded ops a.tmps) = true
      · rw [if_pos hw] at h ⊢
        rcases h with h | ⟨_, h⟩
        · exact oper_in (Oper.wp_mono (fun a w => wpOps_in hd hno rest a w) h) (hd i o ho)
        · exact absurd h hno
      · rw [if_neg hw] at h ⊢
        exact ⟨fun f _ => fenceR_fn _ f, wpOps_in hd hno rest _ w h⟩
theorem wpK_out {F : Fence} {P : Program} {Q : Exit → Act → World → Prop} {a : Act} {w : World} : ∀ ks, wpK F P Q ks .outgrown a w → Q .outgrown a w
  | [], h => h
  | .code c :: k, h => wpK_out (F := F) (P := P) k h
  | .blk id :: k, h => wpK_out (F := F) (P := P) k h
  | .inv I :: k, h => wpK_out (F := F) (P := P) k h
section
variable {X : Cx} {f : Fr} {O R : List Fact} {ks k : List KI} {S : List Fact}
/-- A region that draws, within a round too. -/
theorem gk_anyX (hno : ∀ a w, ¬ X.Q .outgrown a w) (is : List Nat) (C : Fr → List Fact → List Fact → Prop) {S : List Fact} (hS : pickF (O ++ R) is = some S) {id : Nat} {l : List Oper} (h : nx 1000 ks = some (.region id l true k)) (hd : l.all (fun o => noDefer o.op) = true) (hm : X.P.follows .mixedOrders = true)
    (hg : GB X S l l.length (List.replicate l.length false) C k f O R) (hC : ∀ f' O' R', C f' O' R' → GK X k f' O' R') : GK X ks f O R := .mk fun a w hr hk =>
  nx_sound h (Code.wpIn_mono (Q := Qc X C k) (fun e a w hq => by
    cases e with
    | normal => obtain ⟨f', O', R', h1, h2, h3⟩ := hq; exact (hC f' O' R' h1).out a w h2 h3
    | _ => exact hq) (wpIn_region_draw fun t => wpOps_in (r := X.rn) (fun i o ho => List.all_eq_true.1 hd o (by
      rw [List.getElem?_toArray] at ho
      exact List.mem_of_getElem? ho)) (fun ⟨a9, w9, h9⟩ => hno a9 w9 (wpK_out k h9)) _ a _ (by
      have := hg.out a _ hr (hk.below (w' := { w with drawn := w.drawn + 1 }) ⟨rfl, rfl, rfl, Nat.le_refl _, fun _ _ => rfl⟩)
      have e : (List.replicate l.length false).toArray = Array.replicate l.toArray.size false := by apply Array.ext'; simp
      rw [e] at this
      simp only [Region.schedule, hm, Bool.true_or, if_true]
      exact wpAny_sound l.toArray.size t _ a _ (wpAny_of_held _ _ _ _ (by simpa using this)))))
end
section
variable {σ σx : Type} {L : LX σ σx} {kk : Nat} {s : σ} {w1 : World}
theorem LX.noOut : ∀ a w, ¬ (L.R kk s w1).Q .outgrown a w := fun a w h => by
  unfold Cx.Q LX.R at h
  exact h.elim
end
end Go.Proofs.YtokhfkbbhdaghaaGreat.Gx
