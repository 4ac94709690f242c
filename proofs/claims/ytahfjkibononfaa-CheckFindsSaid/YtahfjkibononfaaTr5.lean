/- A tree's nodes in memory, as one fact that may be read. -/
import Derived.Test.YtahfjkibononfaaTr4
import Derived.Test.YtahfjkibononfaaGxL
import Derived.Test.YtahfjkibononfaaNdT
namespace Go.Proofs.Ytahfjkibononfaa.Tr
open Go.RowKit Mem Nd Gx
set_option linter.unusedVariables false
set_option linter.unusedSimpArgs false
def treeF : (h : Nat) → T h → Fact
  | 0, t => nodeF t.1
  | h + 1, t => allF [nodeF t.1, allF t.2 (treeF h)] id
section
variable {w w' : World} {RA : List Fact} {h : Nat}
theorem tree_nd {t : T h} (H : Rd1 w (treeF h t)) : Rd1 w (nodeF (nd h t)) := by
  cases h with
  | zero => exact H
  | succ h => exact Rd1.open (F := id) H (x := nodeF t.1) (.head _)
theorem tree_kids {t : T (h + 1)} (H : Rd1 w (treeF (h + 1) t)) : Rd1 w (allF t.2 (treeF h)) := Rd1.open (F := id) H (x := allF t.2 (treeF h)) (.tail _ (.head _))
theorem tree_nds {ks : List (T h)} (H : Rd1 w (allF ks (treeF h))) : Rd1 w (allF (ks.map (nd h)) nodeF) := Rd1.all fun d hd => by
  obtain ⟨k, hk, rfl⟩ := List.mem_map.1 hd
  exact tree_nd (H.open hk)
theorem tree_ndS {t : T h} {b : Nat} (hb : (nodeF (nd h t)).S b) : (treeF h t).S b := by
  cases h with
  | zero => exact hb
  | succ h => exact ⟨nodeF t.1, .head _, hb⟩
theorem tree_ndp {t : T h} (hp : (treeF h t).p w) : (nodeF (nd h t)).p w := by
  cases h with
  | zero => exact hp
  | succ h => exact hp (nodeF t.1) (.head _)
theorem rs_tree {d : NodeD} {ks : List (T h)} (h1 : RS1 w w' RA (nodeF d)) (h2 : RS1 w w' RA (allF ks (treeF h))) : RS1 w w' RA (treeF (h + 1) ((d, ks) : NodeD × List (T h))) := by
  refine RS1.all fun φ hφ => ?_
  rcases List.mem_cons.1 hφ with e | hφ
  · rw [e]; exact h1
  · obtain rfl := List.mem_singleton.1 hφ
    exact h2
theorem rs_sub {α : Type} {l m : List α} {F : α → Fact} (H : RS1 w w' RA (allF l F)) (hs : ∀ x, x ∈ m → x ∈ l) : RS1 w w' RA (allF m F) :=
  ⟨fun x hx => H.1 x (hs x hx), fun b ⟨x, hx, hb⟩ => H.2 b ⟨x, hs x hx, hb⟩⟩
theorem rs_append {α : Type} {l m : List α} {F : α → Fact} (H : RS1 w w' RA (allF l F)) (H' : RS1 w w' RA (allF m F)) : RS1 w w' RA (allF (l ++ m) F) :=
  RS1.all fun x hx => by
    rcases List.mem_append.1 hx with h | h
    · exact ⟨H.1 x h, fun b hb => H.2 b ⟨x, h, hb⟩⟩
    · exact ⟨H'.1 x h, fun b hb => H'.2 b ⟨x, h, hb⟩⟩
end
section
variable {X : Cx} {f : Fr} {O R : List Fact} {ks : List KI} {k : List KI} {ops lo : List Oper} {h : Nat}
theorem gk_tnd {t : T h} (hm : treeF h t ∈ R) (hg : GK X ks f O (nodeF (nd h t) :: R)) : GK X ks f O R := gk_lessR _ (treeF h t) hm (fun w hp => tree_ndp hp) (fun b hb => tree_ndS hb) hg
theorem g_tnd {t : T h} (hm : treeF h t ∈ R) (hg : G X ops lo k f O (nodeF (nd h t) :: R)) : G X ops lo k f O R := g_lessR _ (treeF h t) hm (fun w hp => tree_ndp hp) (fun b hb => tree_ndS hb) hg
theorem gk_tkids {t : T (h + 1)} (hm : treeF (h + 1) t ∈ R) (hg : GK X ks f O (allF t.2 (treeF h) :: R)) : GK X ks f O R := gk_lessR _ (treeF (h + 1) t) hm (fun w hp => hp (allF t.2 (treeF h)) (.tail _ (.head _))) (fun b hb => ⟨allF t.2 (treeF h), .tail _ (.head _), hb⟩) hg
theorem gk_tkid {t : T (h + 1)} {c : T h} (hm : treeF (h + 1) t ∈ R) (hc : c ∈ t.2) (hg : GK X ks f O (treeF h c :: R)) : GK X ks f O R := gk_lessR _ (treeF (h + 1) t) hm (fun w hp => hp (allF t.2 (treeF h)) (.tail _ (.head _)) c hc) (fun b hb => ⟨allF t.2 (treeF h), .tail _ (.head _), c, hc, hb⟩) hg
end
end Go.Proofs.Ytahfjkibononfaa.Tr

