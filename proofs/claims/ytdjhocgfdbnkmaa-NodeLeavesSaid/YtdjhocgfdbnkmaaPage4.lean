/- page.Of; the reference's same, Get and Of; bytes.Equal; the chapter's example. -/
import Derived.Test.YtdjhocgfdbnkmaaPage3
import Derived.Laws.BytesArg
namespace Go.Proofs.Ytdjhocgfdbnkmaa.Page
open Go.RowKit Mem Bytes Fix Crc
set_option linter.unusedVariables false
set_option linter.unusedSimpArgs false
/-! ### bytes.Equal -/
theorem conv_bytes {w : World} {A : Option Addr} {m : Nat} {L : List Int} (hm : m = L.length) (h : BS w A L) (c : Nat) : (convert 127 9 (.slice A m c)).run Try.prog w = .ok (.string (strOfNums L)) w := by
  rcases Nat.eq_zero_or_pos L.length with h0 | h0
  · have hL : L = [] := List.length_eq_zero_iff.1 h0
    subst hL
    subst hm
    show (convert 127 9 (.slice A 0 c)).run Try.prog w = _
    rw [run_convert_bytes_string w 127 9 5 A 0 c Try.underlying127 Try.underlying5 Try.underlying9]
    cases A <;> simp [Conv.bytesToString, loadCells]
    all_goals rfl
  · obtain ⟨b, off, rfl, hc⟩ := h h0
    refine run_convert_bytes_arg w 127 5 Try.underlying127 Try.underlying5 b off m c L hm.symm (fun i hi => ?_) 9 Try.underlying9
    have := hc i (by omega) 0 (by omega)
    rw [Nat.mul_one, Nat.add_zero] at this
    rw [this]; rfl
set_option maxRecDepth 100000 in
set_option maxHeartbeats 1000000 in
theorem bequal_yes (A A' : Option Addr) (m c c' : Nat) (L : List Int) (w : World) (hm : m = L.length) (h : BS w A L) (h' : BS w A' L) :
    Calls Try.prog 82 #[.slice A m c, .slice A' m c'] w fun e w' => e = .returned (.bool true) ∧ w = w' := by
  have k1 := conv_bytes hm h c
  have k2 := conv_bytes hm h' c'
  clear h h' hm
  go_enter Try.func82, Try.ntmps82
  go_wp2
  go_ret
  exact ⟨rfl, rfl⟩
/-! ### same -/
theorem take_eq {L M : List Int} {j : Nat} (h : ∀ i, i < j → L.getD i 0 = M.getD i 0) (hl : L.length = M.length) (hj : L.length ≤ j) : L = M := by
  apply List.ext_getElem?
  intro i
  by_cases hi : i < L.length
  · have := h i (by omega)
    rw [List.getD_eq_getElem?_getD, List.getD_eq_getElem?_getD, List.getElem?_eq_getElem hi, List.getElem?_eq_getElem (by omega)] at this
    rw [List.getElem?_eq_getElem hi, List.getElem?_eq_getElem (by omega)]
    simpa using this
  · rw [List.getElem?_eq_none (by omega), List.getElem?_eq_none (by omega)]
set_option maxRecDepth 100000 in
set_option maxHeartbeats 1000000 in
theorem same_any (A A' : Option Addr) (m c c' : Nat) (L M : List Int) (w : World) (hm : m = L.length) (hm' : m = M.length) (hm9 : m ≤ 9223372036854775807) (h : BS w A L) (h' : BS w A' M) (v : Bool) (hv : v = true ↔ L = M) :
    Calls Try.prog 201 #[.slice A m c, .slice A' m c'] w fun e w' => e = .returned (.bool v) ∧ Below w.heap.size w w' := by
  have H := Lib.hid h
  clear h
  have H' := Lib.hid h'
  clear h'
  have HM := Lib.hid hm
  have HM' := Lib.hid hm'
  have HV := Lib.hid hv
  clear hm hm' hv
  go_enter Try.func201, Try.ntmps201
  go_wp2
  go_loopw [5] (fun i wr => ∃ k : Nat, k ≤ m ∧ i = .int .i64 k ∧ Below w.heap.size w wr ∧ Hid (∀ i, i < k → L.getD i 0 = M.getD i 0)) (fun i _ => m - (intOf i).toNat)
  case atStart => exact ⟨0, Nat.zero_le _, rfl, Below.refl _ _, Lib.hid (fun i hi => by omega)⟩
  case round =>
    obtain ⟨k, hk, rfl, hb, hok⟩ := hrel
    by_cases hlt : k < m
    · obtain ⟨b, off, rfl, g1, gb⟩ := bs_get (Sl.below H.out hb) k (by have := HM.out; omega)
      obtain ⟨b', off', rfl, g2, gb'⟩ := bs_get (Sl.below H'.out hb) k (by have := HM'.out; omega)
      by_cases hx : L.getD k 0 = M.getD k 0
      · have d1 : (L.getD k 0 != M.getD k 0) = false := by simpa using hx
        have HX : Hid (∀ i, i = k → L.getD i 0 = M.getD i 0) := Lib.hid (fun i hi => by rw [hi]; exact hx)
        clear hx
        generalize L.getD k 0 = x at *
        generalize M.getD k 0 = y at *
        go_wp2
        go_quiet (fail)
        go_wp2
        go_roundw
        case rel => exact ⟨k + 1, by omega, by go_num, (by repeat (first | assumption | exact Below.refl _ _ | refine bel_alloc ?_ _ | refine bel_drewN ?_ _ | refine bel_drew ?_ | refine bel_set ?_ (by first | (simp; done) | omega | (simp; omega)) _ | refine bel_trans ?_ (by assumption))), Lib.hid (fun i hi => by
          by_cases hik : i < k
          · exact hok.out i hik
          · obtain rfl : i = k := by omega
            exact HX.out _ rfl)⟩
        case measure => simp [intOf]; omega
      · have d1 : (L.getD k 0 != M.getD k 0) = true := by simpa using hx
        have hf : Hid (false = v) := Lib.hid (by
          cases v with
          | false => rfl
          | true => exact absurd (by rw [HV.out.1 rfl]) hx)
        clear hx
        generalize L.getD k 0 = x at *
        generalize M.getD k 0 = y at *
        go_wp2
        go_quiet (fail)
        go_wp2
        go_ret
        exact ⟨by rw [← hf.out]; rfl, (by repeat (first | assumption | exact Below.refl _ _ | refine bel_alloc ?_ _ | refine bel_drewN ?_ _ | refine bel_drew ?_ | refine bel_set ?_ (by first | (simp; done) | omega | (simp; omega)) _ | refine bel_trans ?_ (by assumption)))⟩
    · have hf : Hid (true = v) := Lib.hid ((HV.out.2 (take_eq hok.out (by have := HM.out; have := HM'.out; omega) (by have := HM.out; omega))).symm)
      go_wp2
      go_ret
      exact ⟨by rw [← hf.out]; rfl, (by repeat (first | assumption | exact Below.refl _ _ | refine bel_alloc ?_ _ | refine bel_drewN ?_ _ | refine bel_drew ?_ | refine bel_set ?_ (by first | (simp; done) | omega | (simp; omega)) _ | refine bel_trans ?_ (by assumption)))⟩
end Go.Proofs.Ytdjhocgfdbnkmaa.Page
