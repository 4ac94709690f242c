/- The laws of times, walked. -/
import Derived.Test.YtfdnpdolpfnlgaaTimes6
namespace Go.Proofs.Ytfdnpdolpfnlgaa.Times
open Go.RowKit Mem Marks
set_option linter.unusedVariables false
set_option linter.unusedSimpArgs false

/-! ### where a time, or a number, stands among rising ones -/
theorem split_at {N : Nat → Int} {n : Nat} (h : ∀ i, i < n → 0 < i → N (i - 1) < N i) (t : Int) : ∃ p, p ≤ n ∧ ∀ i, i < n → (N i ≤ t ↔ i < p) := by
  induction n with
  | zero => exact ⟨0, Nat.le_refl _, fun i hi => by omega⟩
  | succ n ih =>
    obtain ⟨p, hp, hq⟩ := ih (fun i hi h0 => h i (by omega) h0)
    have mono : ∀ d, ∀ i, i + d < n + 1 → N i ≤ N (i + d) := by
      intro d
      induction d with
      | zero => intro i _; exact Int.le_refl _
      | succ d ihd =>
        intro i hi
        have h1 := ihd i (by omega)
        have h2 := h (i + d + 1) (by omega) (by omega)
        rw [Nat.add_sub_cancel] at h2
        rw [← Nat.add_assoc]
        omega
    by_cases hn : N n ≤ t
    · refine ⟨n + 1, Nat.le_refl _, fun i hi => ⟨fun _ => hi, fun _ => ?_⟩⟩
      have := mono (n - i) i (by omega)
      rw [show i + (n - i) = n by omega] at this
      omega
    · refine ⟨p, by omega, fun i hi => ?_⟩
      by_cases hin : i < n
      · exact hq i hin
      · obtain rfl : i = n := by omega
        exact ⟨fun hh => absurd hh hn, fun hh => by omega⟩
theorem split_lt {N : Nat → Int} {n : Nat} (h : ∀ i, i < n → 0 < i → N (i - 1) < N i) (t : Int) : ∃ q, q ≤ n ∧ ∀ i, i < n → (t ≤ N i ↔ q ≤ i) := by
  obtain ⟨q, hq, hh⟩ := split_at h (t - 1)
  refine ⟨q, hq, fun i hi => ?_⟩
  have := hh i hi
  omega

/-! ### what both Notes tell -/
def NoteRes (w w' : World) (e : Ending) (code : Int) (n : Nat) (S N : Nat → Int) : Prop := ∃ A c, e = .returned (.tuple #[.slice A n c, .int .i64 code]) ∧ Marks w' A n S N ∧ Below w.heap.size w w'
theorem NoteRes.nil {w w' : World} {e : Ending} {code : Int} {S N : Nat → Int} (h : e = .returned (.tuple #[.slice none 0 0, .int .i64 code]) ∧ Below w.heap.size w w') : NoteRes w w' e code 0 S N := ⟨none, 0, h.1, Arr.nil, h.2⟩
theorem NoteRes.own {w w' : World} {e : Ending} {code : Int} {n : Nat} {S N : Nat → Int} (h : ∃ v, e = .returned (.tuple #[v, .int .i64 code]) ∧ Own w' w.heap.size 55 2 v n (MF S N) ∧ Below w.heap.size w w') : NoteRes w w' e code n S N := by
  obtain ⟨v, rfl, ho, hb⟩ := h
  obtain ⟨A, c, rfl, ha, _⟩ := ho.arr
  exact ⟨A, c, rfl, ha, hb⟩
theorem put_lt (S : Nat → Int) {n i : Nat} (s : Int) (h : i < n) : put S n s i = S i := by simp [put]; omega
theorem put_eq (S : Nat → Int) (n : Nat) (s : Int) : put S n s n = s := by simp [put]
/-- Whatever comes at whatever time: both tell the same, and what they make is right. -/
theorem notes (n : Nat) (S N : Nat → Int) (s t : Int) (hr : RightP S N n) : ∃ (code : Int) (n' : Nat) (S' N' : Nat → Int), (code = 0 → RightP S' N' n') ∧ n' ≤ 64 ∧
    (∀ (A : Option Addr) (c : Nat) (w : World), (A = none → n = 0) → Marks w A n S N → Calls Try.prog 32 #[.slice A n c, .int .u64 s, .int .u64 t] w fun e w' => NoteRes w w' e code n' S' N') ∧
    (∀ (A : Option Addr) (c : Nat) (w : World), Marks w A n S N → Calls Try.prog 33 #[.slice A n c, .int .u64 s, .int .u64 t] w fun e w' => NoteRes w w' e code n' S' N') := by
  have h64 := hr.2
  rcases Nat.eq_zero_or_pos n with rfl | h0
  · refine ⟨0, 1, put S 0 s, put N 0 t, fun _ => ⟨fun i hi h => by omega, by omega⟩, by omega, fun A c w hA h => (note_none A c S N s t w h).mono fun e w' => NoteRes.own, fun A c w h => (rnote_none A c S N s t w h).mono fun e w' => NoteRes.own⟩
  · by_cases c1 : s ≤ S (n - 1)
    · exact ⟨10, 0, S, N, fun h => by omega, by omega, fun A c w hA h => (note_arg A n c S N s t w (by omega) hA h h0 (.inl c1)).mono fun e w' => NoteRes.nil, fun A c w h => (rnote_arg A n c S N s t w (by omega) h h0 (.inl c1)).mono fun e w' => NoteRes.nil⟩
    · by_cases c2 : t < N (n - 1)
      · exact ⟨10, 0, S, N, fun h => by omega, by omega, fun A c w hA h => (note_arg A n c S N s t w (by omega) hA h h0 (.inr ⟨by omega, c2⟩)).mono fun e w' => NoteRes.nil, fun A c w h => (rnote_arg A n c S N s t w (by omega) h h0 (.inr ⟨by omega, c2⟩)).mono fun e w' => NoteRes.nil⟩
      · by_cases c3 : t = N (n - 1)
        · subst c3
          refine ⟨0, n, put S (n - 1) s, N, fun _ => ⟨fun i hi h => ?_, h64⟩, h64, fun A c w hA h => (note_same A n c S N s w (by omega) hA h h0 (by omega)).mono fun e w' => NoteRes.own, fun A c w h => (rnote_same A n c S N s w h h0 (by omega) h64).mono fun e w' => NoteRes.own⟩
          have := hr.1 i hi h
          refine ⟨?_, this.2⟩
          rw [put_lt S s (by omega)]
          by_cases hi' : i = n - 1
          · subst hi'; rw [put_eq]; omega
          · rw [put_lt S s (by omega)]; exact this.1
        · by_cases c4 : n < 64
          · refine ⟨0, n + 1, put S n s, put N n t, fun _ => ⟨fun i hi h => ?_, by omega⟩, by omega, fun A c w hA h => (note_more A n c S N s t w hA h h0 (by omega) (by omega) c4).mono fun e w' => NoteRes.own, fun A c w h => (rnote_more A n c S N s t w h h0 (by omega) (by omega) c4).mono fun e w' => NoteRes.own⟩
            rw [put_lt S s (by omega), put_lt N t (by omega)]
            by_cases hi' : i = n
            · subst hi'; rw [put_eq, put_eq]; omega
            · rw [put_lt S s (by omega), put_lt N t (by omega)]; exact hr.1 i (by omega) h
          · exact ⟨32, 0, S, N, fun h => by omega, by omega, fun A c w hA h => (note_full A n c S N s t w (by omega) hA h h0 (by omega) (by omega) (by omega)).mono fun e w' => NoteRes.nil, fun A c w h => (rnote_full A n c S N s t w (by omega) h h0 (by omega) (by omega) (by omega)).mono fun e w' => NoteRes.nil⟩

set_option maxRecDepth 100000 in
set_option maxHeartbeats 1000000 in
theorem timesTells_any (A : Option Addr) (n c : Nat) (S N : Nat → Int) (s t : Int) (w : World) (hn : n ≤ 9223372036854775807) (h : Marks w A n S N) (hA : A = none → n = 0) :
    Calls Try.prog 4 #[.slice A n c, .int .u64 s, .int .u64 t] w fun e w' => e = .returned (.bool true) ∧ Below w.heap.size w w' := by
  have H := Lib.hid h
  clear h
  have HA := Lib.hid hA
  clear hA
  obtain ⟨rb, hrb⟩ := ex_bool (RightP S N n)
  have HR := Lib.hid hrb
  clear hrb
  by_cases c0 : 200 < n
  · go_enter Try.func4, Try.ntmps4
    go_wp2
    go_ret
    exact ⟨rfl, (by repeat (first | assumption | exact Below.refl _ _ | refine bel_alloc ?_ _ | refine bel_drewN ?_ _ | refine bel_drew ?_ | refine bel_trans ?_ (by assumption)))⟩
  go_enter Try.func4, Try.ntmps4
  go_wp2_with fail
  refine (right_any A n c S N _ hn (by exact H.out) rb HR.out).mono ?_
  rintro e w1 ⟨rfl, hbk⟩
  have HB1 : Below w.heap.size w w1 := bel_trans (Below.refl _ _) hbk
  clear hbk
  go_wp2_with fail
  refine (rright_any A n c S N _ hn (by exact Arr.below H.out HB1) rb HR.out).mono ?_
  rintro e w2 ⟨rfl, hbk⟩
  have HB2 : Below w.heap.size w w2 := bel_trans HB1 hbk
  clear hbk HB1
  rcases rb with _ | _
  · have HP : Hid (¬ RightP S N n) := Lib.hid (fun hh => by have := HR.out.2 hh; simp at this)
    clear HR
    go_wp2_with fail
    refine (rright_any A n c S N _ hn (by exact Arr.below H.out HB2) false ⟨fun hh => by simp at hh, fun hh => absurd hh HP.out⟩).mono ?_
    rintro e w3 ⟨rfl, hbk⟩
    have HB3 : Below w.heap.size w w3 := bel_trans HB2 hbk
    clear hbk HB2
    go_wp2_with fail
    refine (alive_any _).mono ?_
    rintro e w4 ⟨rfl, hbk⟩
    have HB4 : Below w.heap.size w w4 := bel_trans HB3 hbk
    clear hbk HB3
    go_wp2
    go_ret
    exact ⟨rfl, HB4⟩
  have HP : Hid (RightP S N n) := Lib.hid (HR.out.1 rfl)
  clear HR
  go_wp2_with fail
  refine (rright_any A n c S N _ hn (by exact Arr.below H.out HB2) true ⟨fun _ => HP.out, fun _ => rfl⟩).mono ?_
  rintro e w3 ⟨rfl, hbk⟩
  have HB3 : Below w.heap.size w w3 := bel_trans HB2 hbk
  clear hbk HB2
  obtain ⟨p, hp, hpp⟩ := split_at (fun i hi h => (HP.out.1 i hi h).2) t
  have HPP := Lib.hid hpp
  clear hpp
  obtain ⟨q, hq, hqq⟩ := split_lt (fun i hi h => (HP.out.1 i hi h).1) s
  have HQQ := Lib.hid hqq
  clear hqq
  obtain ⟨code, n', S', N', hc0, h64, hnote, hrnote⟩ := notes n S N s t HP.out
  have HC0 := Lib.hid hc0
  have HNO := Lib.hid hnote
  have HRN := Lib.hid hrnote
  clear hc0 hnote hrnote
  go_wp2_with fail
  refine (at_any A n c p S N t _ (by omega) (by exact Arr.below H.out HB3) hp HPP.out).mono ?_
  rintro e w4 ⟨rfl, hbk⟩
  have HB4 : Below w.heap.size w w4 := bel_trans HB3 hbk
  clear hbk HB3
  go_wp2_with fail
  refine (rat_any A n c p S N t _ (by omega) (by exact Arr.below H.out HB4) hp HPP.out).mono ?_
  rintro e w5 ⟨rfl, hbk⟩
  have HB5 : Below w.heap.size w w5 := bel_trans HB4 hbk
  clear hbk HB4
  go_wp2_with fail
  refine (when_any A n c q S N s _ (by omega) (by exact Arr.below H.out HB5) hq HQQ.out).mono ?_
  rintro e w6 ⟨rfl, hbk⟩
  have HB6 : Below w.heap.size w w6 := bel_trans HB5 hbk
  clear hbk HB5
  go_wp2_with fail
  refine (rwhen_any A n c q S N s _ (by omega) (by exact Arr.below H.out HB6) hq HQQ.out).mono ?_
  rintro e w7 ⟨rfl, hbk⟩
  have HB7 : Below w.heap.size w w7 := bel_trans HB6 hbk
  clear hbk HB6
  generalize atS S p = x1
  generalize atB p = x2
  generalize whN n N q = x3
  generalize whB n q = x4
  go_wp2_with fail
  refine (HNO.out A c _ HA.out (by exact Arr.below H.out HB7)).mono ?_
  rintro e w8 ⟨A8, c8, rfl, hm8, hb8⟩
  have HB8 := bel_trans HB7 hb8
  have HM8 := Lib.hid hm8
  clear hb8 HB7 hm8
  go_wp2_with fail
  refine (HRN.out A c _ (by exact Arr.below H.out HB8)).mono ?_
  rintro e w9 ⟨A9, c9, rfl, hm9, hb9⟩
  have HB9 := bel_trans HB8 hb9
  have HM9 := Lib.hid hm9
  have HM8' := Lib.hid (Arr.below HM8.out hb9)
  clear hb9 HB8 hm9 HM8
  go_wp2_with fail
  refine (equal_true A8 A9 n' c8 c9 S' N' _ (by omega) (by exact HM8'.out) (by exact HM9.out)).mono ?_
  rintro e w10 ⟨rfl, hbk⟩
  have HB10 : Below w.heap.size w w10 := bel_trans HB9 hbk
  have HM10 := Lib.hid (Arr.below HM8'.out hbk)
  clear hbk HB9
  by_cases hc : code = 0
  · have hr' : Hid (RightP S' N' n') := Lib.hid (HC0.out hc)
    subst hc
    go_wp2_with fail
    refine (right_any A8 n' c8 S' N' _ (by omega) (by exact HM10.out) true ⟨fun _ => hr'.out, fun _ => rfl⟩).mono ?_
    rintro e w11 ⟨rfl, hbk⟩
    have HB11 : Below w.heap.size w w11 := bel_trans HB10 hbk
    clear hbk HB10
    go_wp2_with fail
    refine (alive_any _).mono ?_
    rintro e w12 ⟨rfl, hbk⟩
    have HB12 : Below w.heap.size w w12 := bel_trans HB11 hbk
    clear hbk HB11
    go_wp2
    go_ret
    exact ⟨rfl, HB12⟩
  · have d0 : (code != 0) = true := by simpa using hc
    have HC := Lib.hid hc
    clear hc
    go_wp2_with fail
    refine (alive_any _).mono ?_
    rintro e w12 ⟨rfl, hbk⟩
    have HB12 : Below w.heap.size w w12 := bel_trans HB10 hbk
    clear hbk HB10
    go_wp2
    go_ret
    exact ⟨rfl, HB12⟩
/-! ### what is kept tells the last number of a time as ever -/
theorem kept_split (f : Nat → Bool) (n p : Nat) (hp : p < n) (hf : f p = true) : ∃ p', p' < (keptT f n).length ∧ (keptT f n).getD p' 0 = p ∧ (∀ i, i < (keptT f n).length → ((keptT f n).getD i 0 < n)) ∧ ∀ i, i < (keptT f n).length → ((keptT f n).getD i 0 < p + 1 ↔ i < p' + 1) := by
  have hsplit : ∀ d, ∃ l : List Nat, keptT f (p + 1 + d) = keptT f (p + 1) ++ l ∧ ∀ x ∈ l, p + 1 ≤ x := by
    intro d
    induction d with
    | zero => exact ⟨[], by simp, by simp⟩
    | succ d ih =>
      obtain ⟨l, hl, hx⟩ := ih
      rcases hfd : f (p + 1 + d) with _ | _
      · exact ⟨l, by rw [← Nat.add_assoc, keptT_no hfd, hl], hx⟩
      · refine ⟨l ++ [p + 1 + d], by rw [← Nat.add_assoc, keptT_yes hfd, hl, List.append_assoc], fun x hx' => ?_⟩
        rcases List.mem_append.1 hx' with h | h
        · exact hx x h
        · simp at h; omega
  obtain ⟨l, hl, hx⟩ := hsplit (n - (p + 1))
  rw [show p + 1 + (n - (p + 1)) = n by omega, keptT_yes hf] at hl
  have hmem : ∀ x ∈ keptT f n, x < n := fun x hx => by
    have := (List.mem_filter.1 hx).1
    exact List.mem_range.1 this
  have hlow : ∀ x ∈ keptT f p, x < p := fun x hx => by
    have := (List.mem_filter.1 hx).1
    exact List.mem_range.1 this
  have hget : ∀ i, i < (keptT f n).length → (keptT f n)[i]? = some ((keptT f n).getD i 0) := fun i hi => by
    rw [List.getD_eq_getElem?_getD, List.getElem?_eq_getElem hi]; rfl
  refine ⟨(keptT f p).length, by rw [hl]; simp, ?_, fun i hi => hmem _ (List.mem_of_getElem? (hget i hi)), fun i hi => ?_⟩
  · rw [hl]; simp [List.getD_eq_getElem?_getD]
  · have h1 := hget i hi
    generalize (keptT f n).getD i 0 = x at *
    rw [hl] at h1
    by_cases h2 : i < (keptT f p).length
    · rw [List.append_assoc, List.getElem?_append_left h2] at h1
      have := hlow x (List.mem_of_getElem? h1)
      omega
    · by_cases h3 : i = (keptT f p).length
      · subst h3
        have : x = p := by simp at h1; omega
        omega
      · rw [List.getElem?_append_right (by simp; omega)] at h1
        have := hx x (List.mem_of_getElem? h1)
        omega

theorem ex_pred (S P : Nat → Int) (m : Nat) (fl : Int) : ∃ f : Nat → Bool, ∀ n, KeepP S P m fl f n := ⟨fun k => seenT S P fl k m, fun n k hk => seenT_iff S P fl k m⟩

set_option maxRecDepth 100000 in
set_option maxHeartbeats 1000000 in
theorem timesKeep_any (A A' : Option Addr) (n c m c' : Nat) (S N P : Nat → Int) (fl t : Int) (w : World) (hn : n ≤ 9223372036854775807) (hm : m ≤ 9223372036854775807) (h : Marks w A n S N) (h' : Points w A' m P) :
    Calls Try.prog 5 #[.slice A n c, .slice A' m c', .agg #[.int .u64 fl, .int .u64 t]] w fun e w' => e = .returned (.bool true) ∧ Below w.heap.size w w' := by
  have H := Lib.hid h
  clear h
  have H' := Lib.hid h'
  clear h'
  obtain ⟨rb, hrb⟩ := ex_bool (RightP S N n)
  have HR := Lib.hid hrb
  clear hrb
  obtain ⟨f, hf⟩ := ex_pred S P m fl
  have HF := Lib.hid hf
  clear hf
  by_cases c0 : 100 < n
  · go_enter Try.func5, Try.ntmps5
    go_wp2
    go_quiet (fail)
    go_wp2
    go_ret
    exact ⟨rfl, (by repeat (first | assumption | exact Below.refl _ _ | refine bel_alloc ?_ _ | refine bel_drewN ?_ _ | refine bel_drew ?_ | refine bel_trans ?_ (by assumption)))⟩
  by_cases c1 : 60 < m
  · go_enter Try.func5, Try.ntmps5
    go_wp2
    go_quiet (fail)
    go_wp2
    go_ret
    exact ⟨rfl, (by repeat (first | assumption | exact Below.refl _ _ | refine bel_alloc ?_ _ | refine bel_drewN ?_ _ | refine bel_drew ?_ | refine bel_trans ?_ (by assumption)))⟩
  go_enter Try.func5, Try.ntmps5
  go_wp2
  go_quiet (fail)
  go_wp2_with fail
  refine (keep_any A A' n c m c' S N P fl f _ (by omega) (by omega) (by exact Arr.below H.out ((by repeat (first | assumption | exact Below.refl _ _ | refine bel_alloc ?_ _ | refine bel_drewN ?_ _ | refine bel_drew ?_ | refine bel_trans ?_ (by assumption))))) (by exact Arr.below H'.out ((by repeat (first | assumption | exact Below.refl _ _ | refine bel_alloc ?_ _ | refine bel_drewN ?_ _ | refine bel_drew ?_ | refine bel_trans ?_ (by assumption))))) (HF.out n)).mono ?_
  rintro e w1 ⟨v1, rfl, ho1, hb1⟩
  have HB1 : Below w.heap.size w w1 := bel_trans (by repeat (first | assumption | exact Below.refl _ _ | refine bel_alloc ?_ _ | refine bel_drewN ?_ _ | refine bel_drew ?_ | refine bel_trans ?_ (by assumption))) hb1
  obtain ⟨A1, c1', rfl, ha1, _⟩ := ho1.arr
  have HA1 := Lib.hid ha1
  clear ho1 ha1 hb1
  have hkl := keptT_le f n
  go_wp2_with fail
  refine (rkeep_any A A' n c m c' S N P fl f _ (by omega) (by omega) (by exact Arr.below H.out HB1) (by exact Arr.below H'.out HB1) (HF.out n)).mono ?_
  rintro e w2 ⟨v2, rfl, ho2, hb2⟩
  have HB2 : Below w.heap.size w w2 := bel_trans HB1 hb2
  obtain ⟨A2, c2, rfl, ha2, _⟩ := ho2.arr
  have HA2 := Lib.hid ha2
  have HA1' := Lib.hid (Arr.below HA1.out hb2)
  clear ho2 ha2 hb2 HA1 HB1
  go_wp2_with fail
  refine (equal_true A1 A2 (keptT f n).length c1' c2 (pick S (keptT f n)) (pick N (keptT f n)) _ (by omega) (by exact HA1'.out) (by exact HA2.out)).mono ?_
  rintro e w3 ⟨rfl, hbk⟩
  have HB3 : Below w.heap.size w w3 := bel_trans HB2 hbk
  have HA3 := Lib.hid (Arr.below HA1'.out hbk)
  clear hbk HB2
  clear HA1' HA2
  go_wp2_with fail
  refine (rat_gen A n c S N t _ (by omega) (by exact Arr.below H.out HB3)).mono ?_
  rintro e w4 ⟨rfl, hbk⟩
  have HB4 : Below w.heap.size w w4 := bel_trans HB3 hbk
  have HA4 := Lib.hid (Arr.below HA3.out hbk)
  clear hbk HB3
  clear HA3
  by_cases hr : RightP S N n
  · obtain ⟨p, hp, hpp⟩ := split_at (fun i hi h => (hr.1 i hi h).2) t
    have hv := atN_val (S := S) hpp n (Nat.le_refl n)
    have HRP := Lib.hid hr
    have HPP := Lib.hid hpp
    have HV := Lib.hid hv
    clear hr hpp hv
    rw [HV.out.1, HV.out.2, Nat.min_eq_right hp]
    clear HV HR
    go_wp2_with fail
    refine (rright_any A n c S N _ hn (by exact Arr.below H.out HB4) true ⟨fun _ => HRP.out, fun _ => rfl⟩).mono ?_
    rintro e w5 ⟨rfl, hbk⟩
    have HB5 : Below w.heap.size w w5 := bel_trans HB4 hbk
    have HA5 := Lib.hid (Arr.below HA4.out hbk)
    clear hbk HB4
    clear HA4
    rcases p with _ | p
    · rw [show atB 0 = false from rfl, show atS S 0 = 0 from rfl]
      go_wp2_with fail
      refine (alive_any _).mono ?_
      rintro e w6 ⟨rfl, hbk⟩
      have HB6 : Below w.heap.size w w6 := bel_trans HB5 hbk
      clear hbk HB5
      go_wp2
      go_ret
      exact ⟨rfl, HB6⟩
    · rw [atB_succ, atS_succ]
      by_cases c2 : S p < fl
      · go_wp2_with fail
        refine (alive_any _).mono ?_
        rintro e w6 ⟨rfl, hbk⟩
        have HB6 : Below w.heap.size w w6 := bel_trans HB5 hbk
        clear hbk HB5
        go_wp2
        go_ret
        exact ⟨rfl, HB6⟩
      · obtain ⟨p', h1, h2, h3, h4⟩ := kept_split f n p (by omega) ((HF.out n p (by omega)).2 (.inl (by omega)))
        have H2 := Lib.hid h2
        have H4 : Hid (∀ i, i < (keptT f n).length → (pick N (keptT f n) i ≤ t ↔ i < p' + 1)) := Lib.hid (fun i hi => (HPP.out _ (h3 i hi)).trans (h4 i hi))
        clear h2 h3 h4
        go_wp2_with fail
        refine (at_any A1 (keptT f n).length c1' (p' + 1) (pick S (keptT f n)) (pick N (keptT f n)) t _ (by omega) (by exact HA5.out) (by omega) H4.out).mono ?_
        rintro e w6 ⟨rfl, hbk⟩
        have HB6 : Below w.heap.size w w6 := bel_trans HB5 hbk
        clear hbk HB5
        rw [atB_succ, atS_succ, show pick S (keptT f n) p' = S p by unfold pick; rw [H2.out]]
        go_wp2_with fail
        refine (alive_any _).mono ?_
        rintro e w7 ⟨rfl, hbk⟩
        have HB7 : Below w.heap.size w w7 := bel_trans HB6 hbk
        clear hbk HB6
        go_wp2
        go_ret
        exact ⟨rfl, HB7⟩
  · have HNR := Lib.hid hr
    clear hr HR
    generalize Marks.atN N S t n = x1
    generalize Marks.atB N t n = x2
    go_wp2_with fail
    refine (rright_any A n c S N _ hn (by exact Arr.below H.out HB4) false ⟨fun hh => by simp at hh, fun hh => absurd hh HNR.out⟩).mono ?_
    rintro e w5 ⟨rfl, hbk⟩
    have HB5 : Below w.heap.size w w5 := bel_trans HB4 hbk
    clear hbk HB4
    go_wp2_with fail
    refine (alive_any _).mono ?_
    rintro e w6 ⟨rfl, hbk⟩
    have HB6 : Below w.heap.size w w6 := bel_trans HB5 hbk
    clear hbk HB5
    go_wp2
    go_ret
    exact ⟨rfl, HB6⟩
end Go.Proofs.Ytfdnpdolpfnlgaa.Times
