/- The contracts of package stack, at strings and at ints. -/
import Derived.Test.YtobecmablabmeaaStack
import Derived.StillTailTactics
import Derived.BigRegion
namespace Go.Proofs.Ytobecmablabmeaa.Stack
open Go.RowKit Mem
set_option linter.unusedVariables false
set_option linter.unusedSimpArgs false

theorem pop0 (S : Nat → ByteArray) (n m : Nat) (g : Nat) (w : World) (h : StkS w g S n m) (hn : n = 0) :
    Calls Try.prog 44 #[.pointer (some ⟨g, 0, none⟩)] w fun e w' => e = .returned (.tuple #[.string ⟨#[]⟩, .bool false]) ∧ StkS w' g S n m ∧ Tch w w' g := by
  subst hn
  obtain ⟨c16, c17, cs, fz⟩ := stkS_cells h
  have H := Lib.hid h
  clear h cs fz
  go_enter Try.func44, Try.ntmps44
  go_wp2
  go_ret2
  exact ⟨rfl, H.out, (by repeat (first | assumption | exact Tch.refl _ _ | refine Tch.set ?_ _ _ | refine Tch.alloc ?_ _ | refine Tch.drewN ?_ _ | refine Tch.drew ?_))⟩
theorem top0 (S : Nat → ByteArray) (n m : Nat) (g : Nat) (w : World) (h : StkS w g S n m) (hn : n = 0) :
    Calls Try.prog 48 #[.pointer (some ⟨g, 0, none⟩)] w fun e w' => e = .returned (.tuple #[.string ⟨#[]⟩, .bool false]) ∧ Below w.heap.size w w' := by
  subst hn
  obtain ⟨c16, c17, cs, fz⟩ := stkS_cells h
  clear h cs fz
  go_enter Try.func48, Try.ntmps48
  go_wp2
  go_ret2
  exact ⟨rfl, (by repeat (first | assumption | exact Below.refl _ _ | refine bel_alloc ?_ _ | refine bel_drewN ?_ _ | refine bel_drew ?_ | refine bel_trans ?_ (by assumption)))⟩
theorem top1 (S : Nat → ByteArray) (n m k : Nat) (g : Nat) (w : World) (h : StkS w g S n m) (hn : n = k + 1) (hk : n ≤ 16) :
    Calls Try.prog 48 #[.pointer (some ⟨g, 0, none⟩)] w fun e w' => e = .returned (.tuple #[.string (S k), .bool true]) ∧ Below w.heap.size w w' := by
  obtain ⟨c16, c17, cs, fz⟩ := stkS_cells h
  have ck := cs k (by omega)
  have hd : ((n : Int) == 0) = false := by simp; omega
  have e1 : IntKind.i64.wrap ((n : Int) - 1) = (k : Int) := by rw [IntWalk.i64_in _ (by omega)]; omega
  have hk16 : k < 16 := by omega
  clear h cs fz hn
  go_enter Try.func48, Try.ntmps48
  go_wp2
  go_quiet (fail)
  clear e1
  go_wp2
  go_ret2
  exact ⟨rfl, (by repeat (first | assumption | exact Below.refl _ _ | refine bel_alloc ?_ _ | refine bel_drewN ?_ _ | refine bel_drew ?_ | refine bel_trans ?_ (by assumption)))⟩

theorem pop1 (S : Nat → ByteArray) (n m k : Nat) (g : Nat) (w : World) (h : StkS w g S n m) (hn : n = k + 1) (hk : n ≤ 16) :
    Calls Try.prog 44 #[.pointer (some ⟨g, 0, none⟩)] w fun e w' => e = .returned (.tuple #[.string (S k), .bool true]) ∧ StkS w' g (updS S k ⟨#[]⟩) k m ∧ Tch w w' g := by
  obtain ⟨c16, c17, cs, fz⟩ := stkS_cells h
  have ck := cs k (by omega)
  have fk := fz k
  have f16 := fz 16
  have H := Lib.hid h
  have hd : ((n : Int) == 0) = false := by simp; omega
  have e1 : (n : Int) - 1 = (k : Int) := by omega
  have hk16 : k < 16 := by omega
  clear h cs fz hn
  go_enter Try.func44, Try.ntmps44
  go_wp2
  go_quiet (fail)
  go_wp2
  have HS := row_drewN (stkS_n k H.out) nq
  have HT : Tch w ((w.setCell ⟨g, 16, none⟩ (.int .i64 k)).drewN nq) g := (by repeat (first | assumption | exact Tch.refl _ _ | refine Tch.set ?_ _ _ | refine Tch.alloc ?_ _ | refine Tch.drewN ?_ _ | refine Tch.drew ?_))
  obtain ⟨W, hW⟩ : ∃ W, W = (w.setCell ⟨g, 16, none⟩ (.int .i64 k)).drewN nq := ⟨_, rfl⟩
  rw [← hW] at HS HT ⊢
  clear hW c16 c17 ck fk f16 H
  obtain ⟨c16, c17, cs, fz⟩ := stkS_cells HS
  have ck := cs k (by omega)
  have fk := fz k
  have f16 := fz 16
  have HS' := Lib.hid HS
  have HT' := Lib.hid HT
  clear HS HT cs fz
  go_region
  go_wp2
  go_ret2
  exact ⟨rfl, stkS_one k _ HS'.out (by omega), by have HT := HT'.out; exact (by repeat (first | assumption | exact Tch.refl _ _ | refine Tch.set ?_ _ _ | refine Tch.alloc ?_ _ | refine Tch.drewN ?_ _ | refine Tch.drew ?_))⟩
def noughts (m : Nat) : List Value := [.string ⟨#[]⟩, .string ⟨#[]⟩, .string ⟨#[]⟩, .string ⟨#[]⟩, .string ⟨#[]⟩, .string ⟨#[]⟩, .string ⟨#[]⟩, .string ⟨#[]⟩, .string ⟨#[]⟩, .string ⟨#[]⟩, .string ⟨#[]⟩, .string ⟨#[]⟩, .string ⟨#[]⟩, .string ⟨#[]⟩, .string ⟨#[]⟩, .string ⟨#[]⟩, .int .i64 0, .int .i64 m]
theorem stkS_clear {w : World} {g : Nat} {S : Nat → ByteArray} {n m : Nat} (h : StkS w g S n m) : StkS (setCells w g 0 (noughts m)) g (fun _ => ⟨#[]⟩) 0 m :=
  (row_sets (noughts m) 0 h).congr fun j hj => by
    have h18 : (noughts m).length = 18 := rfl
    rw [if_pos ⟨by omega, by rw [h18]; omega⟩, Nat.sub_zero]
    iterate 18 (rcases j with _ | j; · rfl)
    omega
theorem clear_any (S : Nat → ByteArray) (n m : Nat) (g : Nat) (w : World) (h : StkS w g S n m) :
    Calls Try.prog 45 #[.pointer (some ⟨g, 0, none⟩)] w fun e w' => e = .returned (.tuple #[]) ∧ StkS w' g (fun _ => ⟨#[]⟩) 0 m ∧ Tch w w' g := by
  obtain ⟨c16, c17, cs, fz⟩ := stkS_cells h
  have k0 := cs 0 (by omega)
  have k1 := cs 1 (by omega)
  have k2 := cs 2 (by omega)
  have k3 := cs 3 (by omega)
  have k4 := cs 4 (by omega)
  have k5 := cs 5 (by omega)
  have k6 := cs 6 (by omega)
  have k7 := cs 7 (by omega)
  have k8 := cs 8 (by omega)
  have k9 := cs 9 (by omega)
  have k10 := cs 10 (by omega)
  have k11 := cs 11 (by omega)
  have k12 := cs 12 (by omega)
  have k13 := cs 13 (by omega)
  have k14 := cs 14 (by omega)
  have k15 := cs 15 (by omega)
  have f0 := fz 0
  have f1 := fz 1
  have f2 := fz 2
  have f3 := fz 3
  have f4 := fz 4
  have f5 := fz 5
  have f6 := fz 6
  have f7 := fz 7
  have f8 := fz 8
  have f9 := fz 9
  have f10 := fz 10
  have f11 := fz 11
  have f12 := fz 12
  have f13 := fz 13
  have f14 := fz 14
  have f15 := fz 15
  have f16 := fz 16
  have f17 := fz 17
  have H := Lib.hid h
  clear h cs fz
  go_enter Try.func45, Try.ntmps45
  go_wp2
  go_end0
  exact ⟨rfl, (stkS_clear H.out : _), tch_sets (Tch.refl w g) (noughts m) 0⟩

end Go.Proofs.Ytobecmablabmeaa.Stack
