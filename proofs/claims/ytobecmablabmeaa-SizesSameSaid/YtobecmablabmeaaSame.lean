/- The law SizesSame: what is kept tells the same; its plain law, slices.Contains, its walk. -/
import Derived.Test.YtobecmablabmeaaKeep
namespace Go.Proofs.Ytobecmablabmeaa.Sizes
open Go.RowKit Mem
set_option linter.unusedVariables false
set_option linter.unusedSimpArgs false

/-! ### the plain law -/
def pick (S : Nat → Int) (K : List Nat) : Nat → Int := fun i => S (K.getD i 0)
theorem getD_snoc_lt (K : List Nat) (k i : Nat) (h : i < K.length) : (K ++ [k]).getD i 0 = K.getD i 0 := by
  simp [List.getD_eq_getElem?_getD, List.getElem?_append_left h]
theorem getD_snoc_eq (K : List Nat) (k : Nat) : (K ++ [k]).getD K.length 0 = k := by
  simp [List.getD_eq_getElem?_getD]
theorem atN_congr {S N S' N' : Nat → Int} {s : Int} {k : Nat} (h : ∀ i, i < k → S i = S' i ∧ N i = N' i) : atN S N s k = atN S' N' s k := by
  induction k with
  | zero => rfl
  | succ k ih => rw [atN, atN, (h k (by omega)).1, (h k (by omega)).2, ih fun i hi => h i (by omega)]
theorem atB_congr {S S' : Nat → Int} {s : Int} {k : Nat} (h : ∀ i, i < k → S i = S' i) : atB S s k = atB S' s k := by
  induction k with
  | zero => rfl
  | succ k ih => rw [atB, atB, h k (by omega), ih fun i hi => h i (by omega)]
theorem atN_snoc (S N : Nat → Int) (s : Int) (K : List Nat) (k : Nat) :
    atN (pick S (K ++ [k])) (pick N (K ++ [k])) s (K ++ [k]).length = if S k ≤ s then N k else atN (pick S K) (pick N K) s K.length := by
  rw [List.length_append]
  show atN _ _ s (K.length + 1) = _
  rw [atN]
  unfold pick
  rw [getD_snoc_eq]
  have := atN_congr (S := fun i => S ((K ++ [k]).getD i 0)) (N := fun i => N ((K ++ [k]).getD i 0)) (S' := fun i => S (K.getD i 0)) (N' := fun i => N (K.getD i 0)) (s := s) (k := K.length)
    (fun i hi => by rw [getD_snoc_lt K k i hi]; exact ⟨rfl, rfl⟩)
  rw [this]
theorem atB_snoc (S : Nat → Int) (s : Int) (K : List Nat) (k : Nat) :
    atB (pick S (K ++ [k])) s (K ++ [k]).length = if S k ≤ s then true else atB (pick S K) s K.length := by
  rw [List.length_append]
  show atB _ s (K.length + 1) = _
  rw [atB]
  unfold pick
  rw [getD_snoc_eq]
  have := atB_congr (S := fun i => S ((K ++ [k]).getD i 0)) (S' := fun i => S (K.getD i 0)) (s := s) (k := K.length)
    (fun i hi => by rw [getD_snoc_lt K k i hi])
  rw [this]

theorem seen_fl {S P : Nat → Int} {n : Nat} {fl : Int} {k : Nat} (h : k + 1 = n ∨ fl < S (k + 1)) (m : Nat) : seen S P n fl k m = true := by
  induction m with
  | zero => rcases h with h | h <;> simp [seen, h]
  | succ m ih => simp [seen, ih]
theorem seen_pt {S P : Nat → Int} {n : Nat} {fl : Int} {k j : Nat} (h1 : S k ≤ P j) (h2 : P j < S (k + 1)) (m : Nat) (hj : j < m) : seen S P n fl k m = true := by
  induction m with
  | zero => omega
  | succ m ih =>
    by_cases h : j < m
    · simp [seen, ih h]
    · obtain rfl : j = m := by omega
      simp [seen, h1, h2]

/-- What is kept tells the same at each point, and from the floor on. -/
theorem same_at (S N P : Nat → Int) (n m : Nat) (fl s : Int) (hs : fl ≤ s ∨ ∃ j, j < m ∧ P j = s) (k : Nat) (hk : k ≤ n) (hend : k = n ∨ s < S k) :
    atN S N s k = atN (pick S (kept S P n m fl k)) (pick N (kept S P n m fl k)) s (kept S P n m fl k).length ∧ atB S s k = atB (pick S (kept S P n m fl k)) s (kept S P n m fl k).length := by
  induction k with
  | zero => exact ⟨rfl, rfl⟩
  | succ k ih =>
    by_cases h : S k ≤ s
    · have hseen : seen S P n fl k m = true := by
        rcases hend with he | he
        · exact seen_fl (.inl he) m
        · rcases hs with h1 | ⟨j, hj, rfl⟩
          · exact seen_fl (.inr (by omega)) m
          · exact seen_pt h he m hj
      rw [kept_yes hseen, atN_snoc, atB_snoc, atN, atB, if_pos h, if_pos h, if_pos h, if_pos h]
      exact ⟨rfl, rfl⟩
    · have ih' := ih (by omega) (.inr (by omega))
      rcases hseen : seen S P n fl k m with _ | _
      · rw [kept_no hseen, atN, atB, if_neg h, if_neg h]; exact ih'
      · rw [kept_yes hseen, atN_snoc, atB_snoc, atN, atB, if_neg h, if_neg h, if_neg h, if_neg h]; exact ih'

theorem kept_inc (S P : Nat → Int) (n m : Nat) (fl : Int) (k : Nat) :
    (∀ i, i < (kept S P n m fl k).length → (kept S P n m fl k).getD i 0 < k) ∧ ∀ i, i + 1 < (kept S P n m fl k).length → (kept S P n m fl k).getD i 0 < (kept S P n m fl k).getD (i + 1) 0 := by
  induction k with
  | zero => exact ⟨fun i hi => by simp [kept] at hi, fun i hi => by simp [kept] at hi⟩
  | succ k ih =>
    rcases hseen : seen S P n fl k m with _ | _
    · rw [kept_no hseen]
      exact ⟨fun i hi => by have := ih.1 i hi; omega, ih.2⟩
    · rw [kept_yes hseen]
      generalize kept S P n m fl k = K at ih
      refine ⟨fun i hi => ?_, fun i hi => ?_⟩
      · rw [List.length_append] at hi
        by_cases h : i < K.length
        · rw [getD_snoc_lt K k i h]; have := ih.1 i h; omega
        · obtain rfl : i = K.length := by simp at hi; omega
          rw [getD_snoc_eq]; omega
      · rw [List.length_append] at hi
        have hl : i + 1 < K.length + 1 := by simpa using hi
        rw [getD_snoc_lt K k i (by omega)]
        by_cases h : i + 1 < K.length
        · rw [getD_snoc_lt K k (i + 1) h]; exact ih.2 i h
        · obtain h : i + 1 = K.length := by omega
          rw [h, getD_snoc_eq]; exact ih.1 i (by omega)
theorem mono_right {S N : Nat → Int} {n : Nat} (h : RightP S N n) (a b : Nat) (hab : a < b) (hb : b < n) : S a < S b := by
  induction b with
  | zero => omega
  | succ b ih =>
    have h1 := (h.1 (b + 1) hb).2.2 (by omega)
    rw [Nat.add_sub_cancel] at h1
    by_cases hc : a = b
    · subst hc; exact h1
    · have := ih (by omega) (by omega); omega
theorem kept_end {S N P : Nat → Int} {n m : Nat} {fl : Int} (h1 : 1 ≤ n) : ∃ K, kept S P n m fl n = K ++ [n - 1] := by
  obtain ⟨q, rfl⟩ : ∃ q, n = q + 1 := ⟨n - 1, by omega⟩
  exact ⟨_, kept_yes (seen_last rfl m)⟩
theorem right_kept {S N P : Nat → Int} {n m : Nat} {fl : Int} (h : RightP S N n) : RightP (pick S (kept S P n m fl n)) (pick N (kept S P n m fl n)) (kept S P n m fl n).length := by
  have hi := kept_inc S P n m fl n
  have hl := kept_le S P n m fl n
  obtain ⟨K, hK⟩ := kept_end (S := S) (N := N) (P := P) (m := m) (fl := fl) h.2.1
  refine ⟨fun i hin => ?_, by rw [hK]; simp, by have := h.2.2; omega⟩
  have h1 := hi.1 i hin
  refine ⟨(h.1 _ h1).1, (h.1 _ h1).2.1, fun h0 => ?_⟩
  have h2 := hi.2 (i - 1) (by omega)
  rw [show i - 1 + 1 = i by omega] at h2
  exact mono_right h _ _ h2 h1
theorem now_kept {S N P : Nat → Int} {n m : Nat} {fl : Int} (h1 : 1 ≤ n) : nowN (pick N (kept S P n m fl n)) (kept S P n m fl n).length = nowN N n := by
  obtain ⟨K, hK⟩ := kept_end (S := S) (N := N) (P := P) (m := m) (fl := fl) h1
  rw [hK, List.length_append]
  obtain ⟨q, rfl⟩ : ∃ q, n = q + 1 := ⟨n - 1, by omega⟩
  show pick N (K ++ [q + 1 - 1]) K.length = N q
  unfold pick
  rw [getD_snoc_eq]; rfl

/-! ### slices.Contains -/
def SomeNat (w : World) (e : Ending) (w' : World) : Prop := ∃ r : Nat, e = .returned (.int .i64 r) ∧ Below w.heap.size w w'
theorem index_hit (A : Option Addr) (m c : Nat) (P : Nat → Int) (s : Int) (w : World) (hm : m ≤ 60) (h : Points w A m P) (hh : ∃ j, j < m ∧ P j = s) :
    Calls Try.prog 58 #[.slice A m c, .int .u64 s] w (SomeNat w) := by
  have H := Lib.hid h
  clear h
  have HH := Lib.hid hh
  clear hh
  go_enter Try.func58, Try.ntmps58
  go_wp2
  go_loopw [8] (fun i wr => ∃ k : Nat, k ≤ m ∧ i = .int .i64 k ∧ Below w.heap.size w wr ∧ Hid (∀ j, j < k → P j ≠ s)) (fun i _ => m - (intOf i).toNat)
  case atStart => exact ⟨0, Nat.zero_le _, rfl, Below.refl _ _, Lib.hid (fun j hj => absurd hj (by omega))⟩
  case round =>
    obtain ⟨k, hk, rfl, hb, hok⟩ := hrel
    by_cases hlt : k < m
    · obtain ⟨b, off, rfl, p1, pb⟩ := Points.at_ (Arr.below H.out hb) k hlt
      by_cases c1 : P k = s
      · have d1 : (s == P k) = true := by simp [c1]
        clear c1
        go_wp2
        go_ret
        exact ⟨k, rfl, (by repeat (first | assumption | exact Below.refl _ _ | refine bel_alloc ?_ _ | refine bel_drewN ?_ _ | refine bel_drew ?_ | refine bel_trans ?_ (by assumption)))⟩
      · have d1 : (s == P k) = false := by simp; exact fun h => c1 h.symm
        have HC := Lib.hid c1
        clear c1
        go_wp2
        go_roundw
        case rel => exact ⟨k + 1, by omega, by go_num, (by repeat (first | assumption | exact Below.refl _ _ | refine bel_alloc ?_ _ | refine bel_drewN ?_ _ | refine bel_drew ?_ | refine bel_trans ?_ (by assumption))), Lib.hid (fun j hj => by
          by_cases hj' : j < k
          · exact hok.out j hj'
          · obtain rfl : j = k := by omega
            exact HC.out)⟩
        case measure => simp [intOf]; omega
    · exfalso
      obtain ⟨j, hj, he⟩ := HH.out
      exact hok.out j (by omega) he
theorem index_miss (A : Option Addr) (m c : Nat) (P : Nat → Int) (s : Int) (w : World) (hm : m ≤ 60) (h : Points w A m P) (hh : ¬ ∃ j, j < m ∧ P j = s) :
    Calls Try.prog 58 #[.slice A m c, .int .u64 s] w fun e w' => e = .returned (.int .i64 (-1)) ∧ Below w.heap.size w w' := by
  have H := Lib.hid h
  clear h
  have HH := Lib.hid hh
  clear hh
  go_enter Try.func58, Try.ntmps58
  go_wp2
  go_loopw [8] (fun i wr => ∃ k : Nat, k ≤ m ∧ i = .int .i64 k ∧ Below w.heap.size w wr) (fun i _ => m - (intOf i).toNat)
  case atStart => exact ⟨0, Nat.zero_le _, rfl, Below.refl _ _⟩
  case round =>
    obtain ⟨k, hk, rfl, hb⟩ := hrel
    by_cases hlt : k < m
    · obtain ⟨b, off, rfl, p1, pb⟩ := Points.at_ (Arr.below H.out hb) k hlt
      have d1 : (s == P k) = false := by simp; exact fun h => HH.out ⟨k, hlt, h.symm⟩
      go_wp2
      go_roundw
      case rel => exact ⟨k + 1, by omega, by go_num, (by repeat (first | assumption | exact Below.refl _ _ | refine bel_alloc ?_ _ | refine bel_drewN ?_ _ | refine bel_drew ?_ | refine bel_trans ?_ (by assumption)))⟩
      case measure => simp [intOf]; omega
    · go_wp2
      go_ret
      exact ⟨rfl, (by repeat (first | assumption | exact Below.refl _ _ | refine bel_alloc ?_ _ | refine bel_drewN ?_ _ | refine bel_drew ?_ | refine bel_trans ?_ (by assumption)))⟩
theorem contains_any (A : Option Addr) (m c : Nat) (P : Nat → Int) (s : Int) (w : World) (hm : m ≤ 60) (h : Points w A m P) (v : Bool) (hv : v = true ↔ ∃ j, j < m ∧ P j = s) :
    Calls Try.prog 42 #[.slice A m c, .int .u64 s] w fun e w' => e = .returned (.bool v) ∧ Below w.heap.size w w' := by
  rcases v with _ | _
  · have hh : ¬ ∃ j, j < m ∧ P j = s := fun hx => by have := hv.2 hx; simp at this
    clear hv
    go_enter Try.func42, Try.ntmps42
    go_wp2_with fail
    refine (index_miss A m c P s w hm h hh).mono ?_
    rintro e w' ⟨rfl, hb⟩
    clear hh h
    go_wp2
    go_ret
    exact ⟨rfl, (by repeat (first | assumption | exact Below.refl _ _ | refine bel_alloc ?_ _ | refine bel_drewN ?_ _ | refine bel_drew ?_ | refine bel_trans ?_ (by assumption)))⟩
  · have hh := hv.1 rfl
    clear hv
    go_enter Try.func42, Try.ntmps42
    go_wp2_with fail
    refine (index_hit A m c P s w hm h hh).mono ?_
    rintro e w' ⟨r, rfl, hb⟩
    clear hh h
    go_wp2
    go_ret
    exact ⟨ret_bool (by simp), (by repeat (first | assumption | exact Below.refl _ _ | refine bel_alloc ?_ _ | refine bel_drewN ?_ _ | refine bel_drew ?_ | refine bel_trans ?_ (by assumption)))⟩

/-! ### the law's walk -/
theorem ex_bool (p : Prop) : ∃ v : Bool, v = true ↔ p := by
  by_cases h : p
  · exact ⟨true, by simp [h]⟩
  · exact ⟨false, by simp [h]⟩

set_option maxHeartbeats 2000000 in
theorem sizesSame_any (A A' : Option Addr) (n c m c' : Nat) (S N P : Nat → Int) (fl s : Int) (w : World) (hn : n ≤ 9223372036854775807) (hm : m ≤ 9223372036854775807) (h : Marks w A n S N) (hN : ∀ i, i < n → 0 ≤ N i) (h' : Points w A' m P) :
    Calls Try.prog 9 #[.slice A n c, .slice A' m c', .agg #[.int .u64 fl, .int .u64 s]] w fun e w' => e = .returned (.bool true) ∧ Below w.heap.size w w' := by
  have H := Lib.hid h
  clear h
  have H' := Lib.hid h'
  clear h'
  have HN := Lib.hid hN
  clear hN
  obtain ⟨rb, hrb⟩ := ex_bool (RightP S N n)
  have HR := Lib.hid hrb
  clear hrb
  go_enter Try.func9, Try.ntmps9
  go_wp2
  go_quiet (fail)
  go_wp2_with fail
  refine (rright_any A n c S N _ hn (Arr.below H.out (bel_drewN (bel_alloc (Below.refl _ _) _) _)) HN.out rb HR.out).mono ?_
  rintro e w1 ⟨rfl, hb1⟩
  have hb1' : Below w.heap.size w w1 := bel_trans (bel_drewN (bel_alloc (Below.refl _ _) _) _) hb1
  clear hb1
  rcases rb with _ | _
  · go_wp2
    go_ret
    exact ⟨rfl, (by repeat (first | assumption | exact Below.refl _ _ | refine bel_alloc ?_ _ | refine bel_drewN ?_ _ | refine bel_drew ?_ | refine bel_trans ?_ (by assumption)))⟩
  have HP : Hid (RightP S N n) := Lib.hid (HR.out.1 rfl)
  clear HR
  by_cases c2 : 60 < m
  · go_wp2
    go_ret
    exact ⟨rfl, (by repeat (first | assumption | exact Below.refl _ _ | refine bel_alloc ?_ _ | refine bel_drewN ?_ _ | refine bel_drew ?_ | refine bel_trans ?_ (by assumption)))⟩
  obtain ⟨cb, hcb⟩ := ex_bool (∃ j, j < m ∧ P j = s)
  have HC := Lib.hid hcb
  clear hcb
  have hn16 : n ≤ 16 := HP.out.2.2
  by_cases c3 : s < fl
  · go_wp2_with fail
    refine (contains_any A' m c' P s w1 (by omega) (Arr.below H'.out hb1') cb HC.out).mono ?_
    rintro e w2 ⟨rfl, hb2⟩
    have hb2' := bel_trans hb1' hb2
    clear hb1' hb2
    rcases cb with _ | _
    · go_wp2
      go_ret
      exact ⟨rfl, (by repeat (first | assumption | exact Below.refl _ _ | refine bel_alloc ?_ _ | refine bel_drewN ?_ _ | refine bel_drew ?_ | refine bel_trans ?_ (by assumption)))⟩
    have HS : Hid (fl ≤ s ∨ ∃ j, j < m ∧ P j = s) := Lib.hid (.inr (HC.out.1 rfl))
    clear HC
    go_wp2_with fail
    refine (keep_any A A' n c m c' S N P fl w2 (by omega) (by omega) (Arr.below H.out hb2') (Arr.below H'.out hb2')).mono ?_
    rintro e w3 ⟨v3, rfl, ho3, hb3⟩
    obtain ⟨A3, c3', rfl, ha3, _⟩ := ho3.arr
    have hb3' := bel_trans hb2' hb3
    have HA3 := Lib.hid ha3
    clear hb2' hb3 ho3 ha3
    have HK := Lib.hid (same_at S N P n m fl s HS.out n (Nat.le_refl _) (.inl rfl))
    have HRK := Lib.hid (right_kept (P := P) (m := m) (fl := fl) HP.out)
    have HNK := Lib.hid (now_kept (S := S) (N := N) (P := P) (m := m) (fl := fl) HP.out.2.1)
    have hkl := kept_le S P n m fl n
    have HNB : Hid (∀ i, i < n → 0 ≤ N i ∧ N i ≤ 32) := Lib.hid (fun i hi => ⟨by have := (HP.out.1 i hi).1; omega, (HP.out.1 i hi).2.1⟩)
    have HNBK : Hid (∀ i, i < (kept S P n m fl n).length → 0 ≤ pick N (kept S P n m fl n) i ∧ pick N (kept S P n m fl n) i ≤ 32) := Lib.hid (fun i hi => ⟨by have := (HRK.out.1 i hi).1; omega, (HRK.out.1 i hi).2.1⟩)
    have HA4 : Hid (Marks w3 A3 (kept S P n m fl n).length (pick S (kept S P n m fl n)) (pick N (kept S P n m fl n))) := HA3
    clear HA3
    generalize kept S P n m fl n = K at *
    generalize hK : K.length = kn at *
    clear hK
    go_wp2_with fail
    refine (at_any A n c S N s w3 (by omega) (Arr.below H.out hb3') HNB.out).mono ?_
    rintro e w4 ⟨rfl, hb4⟩
    have hb4' := bel_trans hb3' hb4
    have HA5 : Hid (Marks w4 A3 kn (pick S K) (pick N K)) := Lib.hid (Arr.below HA4.out hb4)
    clear hb3' hb4 HA4
    rw [HK.out.1, HK.out.2]
    clear HK
    go_wp2_with fail
    refine (at_any A3 kn c3' (pick S K) (pick N K) s w4 (by omega) HA5.out HNBK.out).mono ?_
    rintro e w5 ⟨rfl, hb5⟩
    have hb5' := bel_trans hb4' hb5
    have HA6 : Hid (Marks w5 A3 kn (pick S K) (pick N K)) := Lib.hid (Arr.below HA5.out hb5)
    clear hb4' hb5 HA5
    generalize atN (pick S K) (pick N K) s kn = q1
    generalize atB (pick S K) s kn = q2
    go_wp2_with fail
    refine (right_any A3 kn c3' (pick S K) (pick N K) w5 (by omega) HA6.out true ⟨fun _ => HRK.out, fun _ => rfl⟩).mono ?_
    rintro e w6 ⟨rfl, hb6⟩
    have hb6' := bel_trans hb5' hb6
    have HA7 : Hid (Marks w6 A3 kn (pick S K) (pick N K)) := Lib.hid (Arr.below HA6.out hb6)
    clear hb5' hb6 HA6
    go_wp2_with fail
    refine (now_any A3 kn c3' (pick S K) (pick N K) w6 (by omega) HA7.out HNBK.out).mono ?_
    rintro e w7 ⟨rfl, hb7⟩
    have hb7' := bel_trans hb6' hb7
    clear hb6' hb7 HA7
    rw [HNK.out]
    clear HNK
    go_wp2_with fail
    refine (now_any A n c S N w7 (by omega) (Arr.below H.out hb7') HNB.out).mono ?_
    rintro e w8 ⟨rfl, hb8⟩
    have hb8' := bel_trans hb7' hb8
    clear hb7' hb8
    generalize nowN N n = q3
    go_wp2_with fail
    refine (alive_any w8).mono ?_
    rintro e w9 ⟨rfl, hb9⟩
    have hb9' := bel_trans hb8' hb9
    clear hb8' hb9
    go_wp2
    go_ret
    exact ⟨rfl, (by repeat (first | assumption | exact Below.refl _ _ | refine bel_alloc ?_ _ | refine bel_drewN ?_ _ | refine bel_drew ?_ | refine bel_trans ?_ (by assumption)))⟩
  · have HS : Hid (fl ≤ s ∨ ∃ j, j < m ∧ P j = s) := Lib.hid (.inl (by omega))
    clear HC
    go_wp2_with fail
    refine (keep_any A A' n c m c' S N P fl w1 (by omega) (by omega) (Arr.below H.out hb1') (Arr.below H'.out hb1')).mono ?_
    rintro e w3 ⟨v3, rfl, ho3, hb3⟩
    obtain ⟨A3, c3', rfl, ha3, _⟩ := ho3.arr
    have hb3' := bel_trans hb1' hb3
    have HA3 := Lib.hid ha3
    clear hb1' hb3 ho3 ha3
    have HK := Lib.hid (same_at S N P n m fl s HS.out n (Nat.le_refl _) (.inl rfl))
    have HRK := Lib.hid (right_kept (P := P) (m := m) (fl := fl) HP.out)
    have HNK := Lib.hid (now_kept (S := S) (N := N) (P := P) (m := m) (fl := fl) HP.out.2.1)
    have hkl := kept_le S P n m fl n
    have HNB : Hid (∀ i, i < n → 0 ≤ N i ∧ N i ≤ 32) := Lib.hid (fun i hi => ⟨by have := (HP.out.1 i hi).1; omega, (HP.out.1 i hi).2.1⟩)
    have HNBK : Hid (∀ i, i < (kept S P n m fl n).length → 0 ≤ pick N (kept S P n m fl n) i ∧ pick N (kept S P n m fl n) i ≤ 32) := Lib.hid (fun i hi => ⟨by have := (HRK.out.1 i hi).1; omega, (HRK.out.1 i hi).2.1⟩)
    have HA4 : Hid (Marks w3 A3 (kept S P n m fl n).length (pick S (kept S P n m fl n)) (pick N (kept S P n m fl n))) := HA3
    clear HA3
    generalize kept S P n m fl n = K at *
    generalize hK : K.length = kn at *
    clear hK
    go_wp2_with fail
    refine (at_any A n c S N s w3 (by omega) (Arr.below H.out hb3') HNB.out).mono ?_
    rintro e w4 ⟨rfl, hb4⟩
    have hb4' := bel_trans hb3' hb4
    have HA5 : Hid (Marks w4 A3 kn (pick S K) (pick N K)) := Lib.hid (Arr.below HA4.out hb4)
    clear hb3' hb4 HA4
    rw [HK.out.1, HK.out.2]
    clear HK
    go_wp2_with fail
    refine (at_any A3 kn c3' (pick S K) (pick N K) s w4 (by omega) HA5.out HNBK.out).mono ?_
    rintro e w5 ⟨rfl, hb5⟩
    have hb5' := bel_trans hb4' hb5
    have HA6 : Hid (Marks w5 A3 kn (pick S K) (pick N K)) := Lib.hid (Arr.below HA5.out hb5)
    clear hb4' hb5 HA5
    generalize atN (pick S K) (pick N K) s kn = q1
    generalize atB (pick S K) s kn = q2
    go_wp2_with fail
    refine (right_any A3 kn c3' (pick S K) (pick N K) w5 (by omega) HA6.out true ⟨fun _ => HRK.out, fun _ => rfl⟩).mono ?_
    rintro e w6 ⟨rfl, hb6⟩
    have hb6' := bel_trans hb5' hb6
    have HA7 : Hid (Marks w6 A3 kn (pick S K) (pick N K)) := Lib.hid (Arr.below HA6.out hb6)
    clear hb5' hb6 HA6
    go_wp2_with fail
    refine (now_any A3 kn c3' (pick S K) (pick N K) w6 (by omega) HA7.out HNBK.out).mono ?_
    rintro e w7 ⟨rfl, hb7⟩
    have hb7' := bel_trans hb6' hb7
    clear hb6' hb7 HA7
    rw [HNK.out]
    clear HNK
    go_wp2_with fail
    refine (now_any A n c S N w7 (by omega) (Arr.below H.out hb7') HNB.out).mono ?_
    rintro e w8 ⟨rfl, hb8⟩
    have hb8' := bel_trans hb7' hb8
    clear hb7' hb8
    generalize nowN N n = q3
    go_wp2_with fail
    refine (alive_any w8).mono ?_
    rintro e w9 ⟨rfl, hb9⟩
    have hb9' := bel_trans hb8' hb9
    clear hb8' hb9
    go_wp2
    go_ret
    exact ⟨rfl, (by repeat (first | assumption | exact Below.refl _ _ | refine bel_alloc ?_ _ | refine bel_drewN ?_ _ | refine bel_drew ?_ | refine bel_trans ?_ (by assumption)))⟩
end Go.Proofs.Ytobecmablabmeaa.Sizes
