/- The reference's page, written. -/
import Derived.Test.YtdjhocgfdbnkmaaPage
import Derived.Deep.LoopGhost
namespace Go.Proofs.Ytdjhocgfdbnkmaa.Page
open Go.RowKit Mem Bytes Fix Crc
set_option linter.unusedVariables false
set_option linter.unusedSimpArgs false
def pz (k : Int) (L : List Int) (j : Nat) : List Int := [157, 76, k, (L.length : Int)] ++ L ++ List.replicate j 0
theorem pz_length (k : Int) (L : List Int) (j : Nat) : (pz k L j).length = 4 + L.length + j := by simp [pz]; omega
theorem pz_succ (k : Int) (L : List Int) (j : Nat) : pz k L j ++ [0] = pz k L (j + 1) := by
  unfold pz
  rw [List.append_assoc, ← List.replicate_succ']
theorem pz_pg (k : Int) (L : List Int) : pz k L (120 - L.length) = pg k L := rfl
set_option maxRecDepth 100000 in
set_option maxHeartbeats 1000000 in
theorem rpput_any (k : Int) (A : Option Addr) (m c : Nat) (L : List Int) (w : World) (h1 : 1 ≤ k) (h2 : k ≤ 6) (hm : m = L.length) (hm2 : m ≤ 120) (h : BS w A L) (hB : IsB L) :
    Calls Try.prog 175 #[.int .i64 k, .slice A m c] w fun e w' => ∃ v, e = .returned v ∧ OB w' w.heap.size v (page k L) ∧ Below w.heap.size w w' := by
  have H := Lib.hid h
  clear h
  have HM := Lib.hid hm
  clear hm
  have HZL := Lib.hid (pz_length k L)
  go_enter Try.func175, Try.ntmps175
  go_wp2_with (at_builtin; refine wpList_append_sl _ rfl (.tmp 12) (.tmp 13) 127 rfl elt_B w.heap.size (IE .u8) _ _ rfl (OwnL.lit w 5 (IE .u8) [157, 76, _, _] _ 4 _ (Nat.le_refl _) _ rfl rfl (by unfold maxLen; omega) rfl) _ _ _ L rfl HM.out (H.out.alloc _) (fun _ _ => rfl) (by have := HM.out; simp [maxLen]; omega) (by have := HM.out; simp; omega) (by simp) ?_; intro v1 w1 hown1 hgrow1; have HB1 : Below w.heap.size w w1 := hgrow1.bel (by repeat (first | assumption | exact Below.refl _ _ | refine bel_alloc ?_ _ | refine bel_drewN ?_ _ | refine bel_drew ?_ | refine bel_set ?_ (by first | (simp; done) | omega | (simp; omega)) _ | refine bel_trans ?_ (by assumption))) (OwnL.lit w 5 (IE .u8) [157, 76, _, _] _ 4 _ (Nat.le_refl _) _ rfl rfl (by unfold maxLen; omega) rfl); have HO1 : Hid (OB w1 w.heap.size v1 (pz k L 0)) := Lib.hid (OB.of_eq hown1 (by unfold pz; rw [← HM.out]; simp)); clear hown1 hgrow1)
  obtain ⟨A1, c1, rfl, hs1, _⟩ := HO1.out.sl (4 + m + 0) (by have := HZL.out 0; have := HM.out; omega)
  clear hs1
  go_loopg [5] (120 - m) (fun kx v wr => ∃ j : Nat, j + kx = 120 - m ∧ OB wr w.heap.size v (pz k L j) ∧ Below w.heap.size w wr ∧ ∃ A c, v = .slice A (4 + m + j) c)
  case atStart => exact ⟨0, by omega, HO1.out, HB1, _, _, rfl⟩
  case round =>
    obtain ⟨j, hj, ho, hb, A2, c2, rfl⟩ := hrel
    have HO := Lib.hid ho
    clear ho HO1 HB1
    by_cases hlt : j < 120 - m
    · have d1 : decide (((4 + m + j : Nat) : Int) < 124) = true := by simp; omega
      go_wp2_with (at_builtin; refine wpList_append_sl _ rfl (.tmp 18) (.tmp 19) 127 rfl elt_B w.heap.size (IE .u8) _ _ rfl (HO.out.alloc _) _ _ _ [0] rfl rfl (sl_one _ _ _ _ _ _ (by simp) rfl) (fun _ _ => rfl) (by have := HZL.out j; have := HM.out; simp only [List.length_singleton]; unfold maxLen; omega) (by have := HZL.out j; have := HM.out; simp only [List.length_singleton]; omega) (by have := hb.size; simp; omega) ?_; intro v3 w3 hown3 hgrow3; have HO3 : Hid (OB w3 w.heap.size v3 (pz k L (j + 1))) := Lib.hid (OB.of_eq hown3 (pz_succ k L j)); have HB3 : Below w.heap.size w w3 := hgrow3.bel (bel_alloc hb _) (HO.out.alloc _); clear hown3 hgrow3)
      obtain ⟨A3, c3, rfl, hs3, _⟩ := HO3.out.sl (4 + m + (j + 1)) (by have := HZL.out (j + 1); have := HM.out; omega)
      clear hs3
      go_roundg (120 - m - (j + 1))
      case measure => omega
      case rel => exact ⟨j + 1, by omega, HO3.out, HB3, _, _, rfl⟩
    · obtain rfl : j = 120 - m := by omega
      have HP : Hid (OB wr w.heap.size (.slice A2 124 c2) (pg k L)) := Lib.hid (by
        have h3 := HO.out
        rw [show 4 + m + (120 - m) = 124 by omega] at h3
        exact h3.of_eq (by rw [HM.out]; exact pz_pg k L))
      rw [show 4 + m + (120 - m) = 124 by omega]
      clear HO
      have HPB := Lib.hid (pg_isB (k := k) (by omega) (by have := HM.out; omega) hB)
      have HPL := Lib.hid (pg_length (k := k) (L := L) (by have := HM.out; omega))
      obtain ⟨A4, c4, e4, hs4, _⟩ := HP.out.sl 124 HPL.out
      obtain ⟨rfl, rfl⟩ : A2 = A4 ∧ c2 = c4 := by injection e4 with e5 e6 e7; exact ⟨e5, e7⟩
      have HS := Lib.hid hs4
      clear hs4 e4
      go_wp2_with fail
      refine (rgo_any A2 124 c2 (pg k L) _ HPL.out.symm (by omega) (by exact HS.out) HPB.out).mono ?_
      rintro e w6 ⟨rfl, hb6⟩
      have HB6 : Below w.heap.size w w6 := bel_trans hb hb6
      have HS6 := Lib.hid (HS.out.below hb6)
      have hq := crcV_lt (pg k L)
      have HPP : Hid (page k L = pg k L ++ le (crcV (pg k L) : Nat) 4) := Lib.hid rfl
      clear hb6 HP HS
      generalize crcV (pg k L) = q at *
      go_wp2_with fail
      refine (rput_any A2 124 c2 (pg k L) (q : Int) 4 4 _ rfl (by omega) (by omega) (by omega) HPL.out.symm (by exact HS6.out) (by omega)).mono ?_
      rintro e w7 ⟨v7, rfl, ho7, hb7⟩
      have HB7 : Below w.heap.size w w7 := bel_trans HB6 hb7
      have HO7 := Lib.hid (OwnL.mono ho7 HB6.size)
      clear ho7 hb7
      go_wp2
      go_ret
      exact ⟨_, rfl, OB.of_eq HO7.out HPP.out.symm, HB7⟩
end Go.Proofs.Ytdjhocgfdbnkmaa.Page
