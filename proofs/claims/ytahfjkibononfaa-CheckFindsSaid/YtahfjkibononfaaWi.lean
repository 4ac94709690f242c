/- walk.list: what is gone through, as a row. -/
import Derived.Test.YtahfjkibononfaaNdL
import Derived.Test.YtahfjkibononfaaNdS
import Derived.Test.YtahfjkibononfaaGxW
namespace Go.Proofs.Ytahfjkibononfaa.Wk
open Go.RowKit Mem Nd Gx
set_option linter.unusedVariables false
set_option linter.unusedSimpArgs false
set_option maxRecDepth 100000
set_option maxHeartbeats 1000000
theorem rds_of {w : World} : ∀ {l : List Fact}, (∀ φ, φ ∈ l → Rd1 w φ) → Rds w l
  | [], _ => .nil
  | _ :: _, h => .cons (h _ (.head _)) (rds_of fun φ hφ => h φ (.tail _ hφ))
theorem Kn.rds {E : List Nat} {w0 w : World} {O R l : List Fact} (h : Kn E w0 w O R) (hl : l ⊆ R) : Rds w l := rds_of fun φ hφ => h.rR (hl hφ)
theorem list_any (gf : Nat) (caps : List Value) (xs : List EntD) (RA : List Fact) (w : World) (hok : callable Try.prog gf = true) (hB : Rds w RA) (hit : ∀ w', Rds w' RA → IterOk Try.prog gf caps (fun e : EntD => [e.val]) xs RA w') (h9 : xs.length ≤ 10000) :
    Calls Try.prog 38 [.func (.func gf) #[] caps.toArray].toArray w (Ret (fun _ : Value => True) (fun v => v) (fun v => [own 0 29 4 v EE xs]) w) := by
  refine g_enter0 T [] [] RA Try.func38 rfl Try.ntmps38 rfl hB.kn ?_
  (repeat (refine gG ?_; try intro _))
  rename_i g3
  refine gk_own 0 29 4 EE ?_
  refine gk_range (σ := Value × List EntD) (σx := Unit) (α := EntD) (enc := fun e : EntD => [e.val]) (xs := xs) (RA := RA) (pl := [6]) (gf := gf) (caps := caps) (fun q s => s.2 = xs.take q) (fun s => [blk g3 [s.1] 31, own 0 29 4 s.1 EE s.2]) (fun _ _ => False) (fun _ _ => []) (.slice none 0 0, []) [] rfl rfl hok rfl (fun _ => rfl) (fun w hk => hit w (Kn.rds hk (List.Subset.refl _))) (List.Subset.refl _) rfl sA (fun L q x s w hX hRc hI hOO hOut hOX hx hi hup => ?_) (fun D s hi => ?_) (fun D c y h => h.elim)
  · obtain ⟨X', l, D, rc, Inv', OO', Out', OX'⟩ := L
    dsimp only at hX hI hOO hOut hOX
    subst hX hI hOO hOut hOX
    obtain ⟨v, M⟩ := s
    dsimp only at hi
    subst hi
    change GK _ _ _ [recF l (rc .ready none), dfr D, blk g3 [v] 31, own 0 29 4 v EE (xs.take q)] _
    (repeat (refine gG ?_; try intro _))
    refine gk_begin rfl (by repeat (first | with_reducible exact Sel.here | with_reducible apply Sel.there)) (hRc.st _ _) (fun bF hbF => ?_)
    (repeat (refine gG ?_; try intro _))
    refine g_mv rfl (mv_append (L := xs.take q) rfl [x] rfl rfl rfl rfl elt_E (by intro _; first | ((repeat (first | with_reducible exact Upd.here _ | with_reducible apply Upd.there)); done) | ((repeat (first | exact Upd.here _ | apply Upd.there)); done) | fail) (src_blk mE rfl) rfl oneE (by have := List.length_take_le' q xs; simp only [maxLen, List.length_cons, List.length_nil]; omega) (by have := List.length_take_le' q xs; simp only [List.length_cons, List.length_nil]; omega) (Nat.zero_le _) (fun v1 => ?_))
    refine g_ownv v1 mE (fun A1 c1 hv1 _ _ _ => ?_)
    subst hv1
    (repeat (refine gG ?_; try intro _))
    refine gk_round hRc (.slice A1 (xs.take q ++ [x]).length c1, xs.take q ++ [x]) rfl (by obtain ⟨h1, h2⟩ := List.getElem?_eq_some_iff.1 hx; show xs.take q ++ [x] = xs.take (q + 1); rw [List.take_succ_eq_append_getElem h1, h2]) [blk g3 [.slice A1 (xs.take q ++ [x]).length c1] 31, own 0 29 4 (.slice A1 (xs.take q ++ [x]).length c1) EE (xs.take q ++ [x])] rfl hbF sA
  · obtain ⟨v, M⟩ := s
    dsimp only at hi
    subst hi
    change GK _ _ _ [dfr D, blk g3 [v] 31, own 0 29 4 v EE (xs.take xs.length)] _
    (repeat (refine gG ?_; try intro _))
    rw [List.take_length]
    refine gk_retM hT (.cons (by repeat (first | with_reducible exact Sel.here | with_reducible apply Sel.there)) .nil) rfl rfl (.tmp rfl .nil) (fun w' hk => ?_)
    exact Ret.mk v trivial rfl hk sA
end Go.Proofs.Ytahfjkibononfaa.Wk

