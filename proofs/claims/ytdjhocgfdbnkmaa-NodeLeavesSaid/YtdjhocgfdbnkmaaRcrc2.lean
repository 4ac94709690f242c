/- The document's sum, all of it; it is the program's. -/
import Derived.Test.YtdjhocgfdbnkmaaRcrc
import Derived.Deep.WholeRow
namespace Go.Proofs.Ytdjhocgfdbnkmaa.Crc
open Go.RowKit Mem Bytes Fix
set_option linter.unusedVariables false
set_option linter.unusedSimpArgs false
theorem bits_any' (n : Nat) (x : Int) (hx : x = n) (w : World) (hn : n < 4294967296) :
    Calls Try.prog 218 #[.int .u32 x] w fun e w' => e = .returned (.agg (bitsA n)) ∧ Below w.heap.size w w' := by
  subst hx; exact bits_any n w hn
def oddOf (R c k : Nat) : Bool := R.testBit 0 != c.testBit k
theorem rstep_bits (R c k j : Nat) : (rstep R c k).testBit j = (R.testBit (j + 1) != (oddOf R c k && poly.testBit j)) := rstep_bit
theorem bit32 {R : Nat} (h : R < 4294967296) : R.testBit 32 = false := Nat.testBit_lt_two_pow h
theorem false_bne (b : Bool) : (false != b) = b := by cases b <;> rfl
theorem poly_eq : (3988292384 : Int) = ((poly : Nat) : Int) := rfl
set_option maxRecDepth 100000 in
set_option maxHeartbeats 2000000 in
theorem rgo_any (A : Option Addr) (m c : Nat) (L : List Int) (w : World) (hm : m = L.length) (hm9 : m ≤ 9223372036854775807) (h : BS w A L) (hB : IsB L) :
    Calls Try.prog 209 #[.int .u32 0, .slice A m c] w fun e w' => e = .returned (.int .u32 ((crcV L : Nat) : Int)) ∧ Below w.heap.size w w' := by
  have H := Lib.hid h
  clear h
  have HM := Lib.hid hm
  clear hm
  go_enter Try.func209, Try.ntmps209
  go_wp2_with fail
  refine (bits_any' 0 _ rfl _ (by omega)).mono ?_
  rintro e w1 ⟨rfl, hbk⟩
  have HB1 : Below w.heap.size w w1 := bel_trans (Below.refl _ _) hbk
  clear hbk
  go_wp2_with fail
  refine (turned_any 0 _ (by omega)).mono ?_
  rintro e w2 ⟨rfl, hbk⟩
  have HB2 : Below w.heap.size w w2 := bel_trans HB1 hbk
  clear hbk HB1
  rw [Nat.sub_zero]
  go_wp2_with (refine wpList_store_row rfl 303 _ _ rfl _ _ rfl rfl 303 _ (Blk.new _ _ _ _ (by simp)) (by rw [show (bitsA 4294967295).size = 32 from bitsF_size _]; exact info_row) (by rw [show (bitsA 4294967295).size = 32 from bitsF_size _]; rfl) (bitsF_one _) ?_; rw [World.setRow_alloc_new])
  have HS2 : Hid (Blk (w2.alloc (.cells (bitsA 4294967295) 303)) w2.heap.size (bitsA 4294967295) 303) := Lib.hid (Blk.new _ _ _ _ rfl)
  refine (bits_any' poly _ poly_eq _ poly_lt).mono ?_
  rintro e w3 ⟨rfl, hb3⟩
  have HB3 : Below w.heap.size w w3 := bel_trans (bel_alloc HB2 _) hb3
  have HS3 := Lib.hid (HS2.out.below hb3)
  have hgs : w.heap.size ≤ w2.heap.size := HB2.size
  have hgs3 : w2.heap.size < w3.heap.size := HS3.out.lt
  clear hb3 HS2 HB2
  generalize w2.heap.size = gs at *
  go_wp2_with (refine wpList_store_row rfl 303 _ _ rfl _ _ rfl rfl 303 _ (Blk.new _ _ _ _ (by simp)) (by rw [show (bitsA poly).size = 32 from bitsF_size _]; exact info_row) (by rw [show (bitsA poly).size = 32 from bitsF_size _]; rfl) (bitsF_one _) ?_; rw [World.setRow_alloc_new])
  have HP4 : Hid (Blk (w3.alloc (.cells (bitsA poly) 303)) w3.heap.size (bitsA poly) 303) := Lib.hid (Blk.new _ _ _ _ rfl)
  have HS4 : Hid (Blk (w3.alloc (.cells (bitsA poly) 303)) gs (bitsA 4294967295) 303) := Lib.hid (HS3.out.alloc _)
  have HB4 : Below w.heap.size w (w3.alloc (.cells (bitsA poly) 303)) := bel_alloc HB3 _
  have hgp : w.heap.size ≤ w3.heap.size := HB3.size
  have hsp : gs ≠ w3.heap.size := by omega
  clear HS3 HB3
  generalize hw4 : w3.alloc (.cells (bitsA poly) 303) = w4 at *
  generalize w3.heap.size = gp at *
  clear hw4
  go_loopw [7] (fun i wr => ∃ k : Nat, k ≤ m ∧ i = .int .i64 k ∧ Blk wr gs (bitsA (crcL 4294967295 ((nats L).take k))) 303 ∧ Blk wr gp (bitsA poly) 303 ∧ Below w.heap.size w wr) (fun i _ => m - (intOf i).toNat)
  case atStart => exact ⟨0, Nat.zero_le _, rfl, HS4.out.of_eq (by rw [List.take_zero, crcL_nil]), HP4.out, HB4⟩
  case round =>
    obtain ⟨k, hk, rfl, hs, hp, hb⟩ := hrel
    have hlim := crcL_lt (n := 4294967295) (l := (nats L).take k) (by omega) (fun x hx => nats_lt hB x (List.mem_of_mem_take hx))
    clear HS4 HP4 HB4
    by_cases hlt : k < m
    · obtain ⟨b, off, x, rfl, hx, ht, hmem, g1, gb⟩ := Sl.at1 (H.out.below hb) k (by have := HM.out; omega)
      simp only [IE] at g1
      have hbx := hB x hmem
      have hx0 : 0 ≤ x := hbx.1
      have hx1 : x ≤ 255 := hbx.2
      have HR : Hid (crcL 4294967295 ((nats L).take (k + 1)) = turnN (crcL 4294967295 ((nats L).take k)) x.toNat) := Lib.hid (by
        rw [← crcL_snoc]; congr 1
        unfold nats
        rw [← List.map_take, ht, List.map_append, ← List.map_take]; rfl)
      have HS := Lib.hid hs
      have HP := Lib.hid hp
      clear hx ht hmem hbx hs hp
      generalize crcL 4294967295 ((nats L).take k) = S at *
      go_wp2_with fail
      refine (bits_any' x.toNat _ (by omega) _ (by omega)).mono ?_
      rintro e w5 ⟨rfl, hb5⟩
      have HB5 : Below w.heap.size w w5 := bel_trans hb hb5
      have HS5 := Lib.hid (HS.out.below hb5)
      have HP5 := Lib.hid (HP.out.below hb5)
      have hc5 : gs < w5.heap.size := HS5.out.lt
      have hc6 : gp < w5.heap.size := HP5.out.lt
      have hcc : x.toNat < 256 := by omega
      clear hb5 HS HP hb gb
      generalize x.toNat = cc at *
      go_wp2_with (refine wpList_store_row rfl 303 _ _ rfl _ _ rfl rfl 303 _ (Blk.new _ _ _ _ (by simp)) (by rw [show (bitsA cc).size = 32 from bitsF_size _]; exact info_row) (by rw [show (bitsA cc).size = 32 from bitsF_size _]; rfl) (bitsF_one _) ?_; rw [World.setRow_alloc_new])
      have HC6 : Hid (Blk (w5.alloc (.cells (bitsA cc) 303)) w5.heap.size (bitsA cc) 303) := Lib.hid (Blk.new _ _ _ _ rfl)
      have HS6 := Lib.hid (HS5.out.alloc (.cells (bitsA cc) 303))
      have HP6 := Lib.hid (HP5.out.alloc (.cells (bitsA cc) 303))
      have HB6 := Lib.hid (bel_alloc HB5 (.cells (bitsA cc) 303))
      have hgc : w.heap.size ≤ w5.heap.size := HB5.size
      have ne1 : gs ≠ w5.heap.size := by omega
      have ne2 : gp ≠ w5.heap.size := by omega
      clear HS5 HP5 HB5 g1
      generalize w5.alloc (.cells (bitsA cc) 303) = w6 at *
      generalize w5.heap.size = gc at *
      have hne : gs ≠ gp := hsp
      go_loopw [9] (fun i wr => ∃ q : Nat, q ≤ 8 ∧ i = .int .i64 q ∧ Blk wr gs (bitsA (rbyte S cc q)) 303 ∧ Blk wr gp (bitsA poly) 303 ∧ Blk wr gc (bitsA cc) 303 ∧ Below w.heap.size w wr) (fun i _ => 8 - (intOf i).toNat)
      case atStart => exact ⟨0, Nat.zero_le _, rfl, HS6.out, HP6.out, HC6.out, HB6.out⟩
      case round =>
        obtain ⟨q, hq, rfl, hs, hp, hcb, hb⟩ := hrel
        clear HS6 HP6 HC6 HB6
        by_cases hq8 : q < 8
        · have hRl := rbyte_lt (c := cc) (k := q) hlim
          have HRS : Hid (rbyte S cc (q + 1) = rstep (rbyte S cc q) cc q) := Lib.hid rfl
          generalize rbyte S cc q = R at *
          have g0 := blk_bit (f := fun j => R.testBit j) hs 0 (by omega)
          have g1 := blk_bit (f := fun j => cc.testBit j) hcb q (by omega)
          have HS := Lib.hid hs
          have HP := Lib.hid hp
          have HC := Lib.hid hcb
          have b0 := hs.lt
          have b1 := hcb.lt
          have b2 := hp.lt
          clear hs hp hcb
          have hq32 : (q : Int) < 32 := by omega
          have hq0 : (0 : Int) ≤ (q : Int) := by omega
          have hd8 : decide ((q : Int) < 8) = true := by simp; omega
          rcases hodd : oddOf R cc q with _ | _
          all_goals
            have HODD := Lib.hid hodd
            have hcq : cc.testBit q = (R.testBit 0 != oddOf R cc q) := by unfold oddOf; cases R.testBit 0 <;> cases cc.testBit q <;> rfl
            rw [hodd] at hcq
            simp only [hcq] at g1
            clear hcq hodd
            generalize R.testBit 0 = r0 at g0 g1
            rcases r0 with _ | _
            all_goals
              simp only [Bool.bne_true, Bool.bne_false, Bool.not_true, Bool.not_false] at g1
              go_wp2
              go_quiet (fail)
              go_wp2
              go_loopw [11] (fun i wr2 => ∃ j : Nat, j ≤ 31 ∧ i = .int .i64 j ∧ Blk wr2 gs (bitsF fun t => if t < j then (R.testBit (t + 1) != (oddOf R cc q && poly.testBit t)) else R.testBit t) 303 ∧ Blk wr2 gp (bitsA poly) 303 ∧ Blk wr2 gc (bitsA cc) 303 ∧ Below w.heap.size w wr2) (fun i _ => 31 - (intOf i).toNat)
              case atStart => exact ⟨0, Nat.zero_le _, rfl, (HS.out.drewN _).of_eq (bitsF_congr fun t ht => by simp), HP.out.drewN _, HC.out.drewN _, (by repeat (first | assumption | exact Below.refl _ _ | refine bel_alloc ?_ _ | refine bel_drewN ?_ _ | refine bel_drew ?_ | refine bel_set ?_ (by first | (simp; done) | omega | (simp; omega)) _ | refine bel_trans ?_ (by assumption)))⟩
              case round =>
                obtain ⟨j, hj, rfl, hs2, hp2, hc2, hb2⟩ := hrel
                by_cases hj31 : j < 31
                · have k0 := blk_bit hs2 (j + 1) (by omega)
                  rw [if_neg (by omega)] at k0
                  have k1 := blk_bit hs2 j (by omega)
                  rw [if_neg (by omega)] at k1
                  have kf := hs2.facts.2.1 j
                  have k2 := blk_bit (f := fun j => poly.testBit j) hp2 j (by omega)
                  have d0 := hs2.lt
                  have d1 := hp2.lt
                  have HS2 := Lib.hid hs2
                  have HP2 := Lib.hid hp2
                  have HC2 := Lib.hid hc2
                  have hj0 : (0 : Int) ≤ (j : Int) := by omega
                  have hj32 : (j : Int) < 32 := by omega
                  have hjj0 : (0 : Int) ≤ (j : Int) + 1 := by omega
                  have hjj : (j : Int) + 1 < 32 := by omega
                  have hwj : IntKind.i64.wrap ((j : Int) + 1) = (j : Int) + 1 := IntWalk.i64_in _ (by omega)
                  clear hs2 hp2 hc2
                  go_wp2
                  go_still_tail 13, (by kernel_rfl)
                  change wpList _ _ _ _ _ wr.drew
                  go_wp2
                  go_roundw
                  case rel =>
                    refine ⟨j + 1, by omega, by go_num, (Blk.store HS2.out j _).of_eq ?_, HP2.out.set (Ne.symm hne), HC2.out.set (Ne.symm ne1), (by repeat (first | assumption | exact Below.refl _ _ | refine bel_alloc ?_ _ | refine bel_drewN ?_ _ | refine bel_drew ?_ | refine bel_set ?_ (by first | (simp; done) | omega | (simp; omega)) _ | refine bel_trans ?_ (by assumption)))⟩
                    rw [bitsF_set]
                    refine bitsF_congr (fun t ht => ?_)
                    by_cases h : t = j
                    · subst h
                      rw [if_pos rfl, if_pos (Nat.lt_succ_self _), HODD.out]
                      cases R.testBit (t + 1) <;> cases poly.testBit t <;> rfl
                    · by_cases h2 : t < j
                      · rw [if_neg h, if_pos h2, if_pos (by omega)]
                      · rw [if_neg h, if_neg h2, if_neg (by omega)]
                  case measure => simp [intOf]; omega
                · obtain rfl : j = 31 := by omega
                  have k1 := blk_bit hs2 31 (by omega)
                  have kf := hs2.facts.2.1 31
                  have k2 := blk_bit (f := fun j => poly.testBit j) hp2 31 (by omega)
                  have d0 := hs2.lt
                  have d1 := hp2.lt
                  have HS2 := Lib.hid hs2
                  have HP2 := Lib.hid hp2
                  have HC2 := Lib.hid hc2
                  clear hs2 hp2 hc2
                  go_wp2
                  go_roundw
                  case rel =>
                    refine ⟨q + 1, by omega, by go_num, (Blk.store HS2.out 31 _).of_eq ?_, HP2.out.set (Ne.symm hne), HC2.out.set (Ne.symm ne1), (by repeat (first | assumption | exact Below.refl _ _ | refine bel_alloc ?_ _ | refine bel_drewN ?_ _ | refine bel_drew ?_ | refine bel_set ?_ (by first | (simp; done) | omega | (simp; omega)) _ | refine bel_trans ?_ (by assumption)))⟩
                    rw [bitsF_set, HRS.out]
                    refine bitsF_congr (fun t ht => ?_)
                    rw [rstep_bits, HODD.out]
                    by_cases h : t = 31
                    · subst h
                      rw [if_pos rfl, bit32 hRl]
                      first | rfl | (cases poly.testBit 31 <;> rfl)
                    · rw [if_neg h, if_pos (by omega)]
                  case measure => simp [intOf]; omega
        · obtain rfl : q = 8 := by omega
          have HS := Lib.hid hs
          have HP := Lib.hid hp
          clear hs hp hcb
          go_wp2
          go_roundw
          case rel => exact ⟨k + 1, by omega, by go_num, HS.out.of_eq (by rw [HR.out, turn_eq _ _ hcc]), HP.out, hb⟩
          case measure => simp [intOf]; omega
    · obtain rfl : k = m := by omega
      have e1 : (nats L).take k = nats L := List.take_of_length_le (by unfold nats; rw [List.length_map]; have := HM.out; omega)
      rw [e1] at hs hlim
      have HV : Hid (crcV L = 4294967295 - crcL 4294967295 (nats L)) := Lib.hid rfl
      have HS := Lib.hid hs
      clear hs hp e1
      generalize crcL 4294967295 (nats L) = S at *
      go_wp2_with (refine wpList_load_row rfl 303 (.tmp 5) rfl _ rfl 303 _ (0, 0) _ HS.out Try.underlying303 rfl (by rw [show (bitsA S).size = 32 from bitsF_size _]; exact info_row) ?_)
      refine (turned_any S _ hlim).mono ?_
      rintro e w5 ⟨rfl, hb5⟩
      have HB5 : Below w.heap.size w w5 := bel_trans hb hb5
      clear hb5 HS
      go_wp2_with fail
      refine (number_any (4294967295 - S) _ (by omega)).mono ?_
      rintro e w6 ⟨rfl, hb6⟩
      have HB6 : Below w.heap.size w w6 := bel_trans HB5 hb6
      clear hb6
      go_wp2
      go_ret
      exact ⟨by rw [HV.out]; rfl, HB6⟩
end Go.Proofs.Ytdjhocgfdbnkmaa.Crc
