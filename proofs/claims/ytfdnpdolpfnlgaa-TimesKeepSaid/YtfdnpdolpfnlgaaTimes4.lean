/- Note and Keep, the program's and the reference's; the reference's At at any marks. -/
import Derived.Test.YtfdnpdolpfnlgaaTimes3
import Derived.Test.YtfdnpdolpfnlgaaSl
namespace Go.Proofs.Ytfdnpdolpfnlgaa.Times
open Go.RowKit Mem Marks
set_option linter.unusedVariables false
set_option linter.unusedSimpArgs false

set_option maxRecDepth 100000 in
set_option maxHeartbeats 1000000 in
theorem rat_gen (A : Option Addr) (n c : Nat) (S N : Nat → Int) (t : Int) (w : World) (hn : n ≤ 1000) (h : Marks w A n S N) :
    Calls Try.prog 29 #[.slice A n c, .int .u64 t] w fun e w' => e = .returned (.tuple #[.int .u64 (Marks.atN N S t n), .bool (Marks.atB N t n)]) ∧ Below w.heap.size w w' := by
  have H := Lib.hid h
  clear h
  go_enter Try.func29, Try.ntmps29
  go_wp2
  go_loopw [6, 7, 8] (fun s6 s7 i wr => ∃ k : Nat, k ≤ n ∧ s6 = .int .u64 (Marks.atN N S t k) ∧ s7 = .bool (Marks.atB N t k) ∧ i = .int .i64 k ∧ Below w.heap.size w wr) (fun _ _ i _ => n - (intOf i).toNat)
  case atStart => exact ⟨0, Nat.zero_le _, rfl, rfl, rfl, (by repeat (first | assumption | exact Below.refl _ _ | refine bel_alloc ?_ _ | refine bel_drewN ?_ _ | refine bel_drew ?_ | refine bel_trans ?_ (by assumption)))⟩
  case round =>
    obtain ⟨k, hk, rfl, rfl, rfl, hb⟩ := hrel
    by_cases hlt : k < n
    · obtain ⟨b, off, rfl, g1, g2, g3, gb⟩ := Marks.at_ (Arr.below H.out hb) k hlt
      clear g3
      by_cases hz : N k ≤ t
      · go_wp2
        go_roundw
        case rel => exact ⟨k + 1, by omega, by rw [Marks.atN, if_pos hz], by rw [Marks.atB, if_pos hz], by go_num, (by repeat (first | assumption | exact Below.refl _ _ | refine bel_alloc ?_ _ | refine bel_drewN ?_ _ | refine bel_drew ?_ | refine bel_trans ?_ (by assumption)))⟩
        case measure => simp [intOf]; omega
      · have hz' : t < N k := by omega
        have HZ := Lib.hid hz
        clear hz
        go_wp2
        go_roundw
        case rel => exact ⟨k + 1, by omega, by rw [Marks.atN, if_neg HZ.out], by rw [Marks.atB, if_neg HZ.out], by go_num, (by repeat (first | assumption | exact Below.refl _ _ | refine bel_alloc ?_ _ | refine bel_drewN ?_ _ | refine bel_drew ?_ | refine bel_trans ?_ (by assumption)))⟩
        case measure => simp [intOf]; omega
    · obtain rfl : k = n := by omega
      go_wp2
      go_ret2
      exact ⟨rfl, (by repeat (first | assumption | exact Below.refl _ _ | refine bel_alloc ?_ _ | refine bel_drewN ?_ _ | refine bel_drew ?_ | refine bel_trans ?_ (by assumption)))⟩

theorem atN_val {S N : Nat → Int} {t : Int} {n p : Nat} (hm : ∀ i, i < n → (N i ≤ t ↔ i < p)) (k : Nat) (hk : k ≤ n) : Marks.atN N S t k = atS S (min k p) ∧ Marks.atB N t k = atB (min k p) := by
  induction k with
  | zero => simp [Marks.atN, Marks.atB, atS, atB]
  | succ k ih =>
    rw [Marks.atN, Marks.atB]
    by_cases h : k < p
    · rw [if_pos ((hm k (by omega)).2 h), if_pos ((hm k (by omega)).2 h), show min (k + 1) p = k + 1 by omega, atS_succ, atB_succ]; exact ⟨rfl, rfl⟩
    · have h' : ¬ N k ≤ t := fun hh => h ((hm k (by omega)).1 hh)
      rw [if_neg h', if_neg h', show min (k + 1) p = min k p by omega]
      exact ih (by omega)

/-! ### a slice that the call owns, written -/
theorem own_form {w : World} {base : Nat} {e : TypeId} {sz : Nat} {v : Value} {n : Nat} {F : Nat → Nat → Value} (h : Own w base e sz v n F) (hn : 0 < n) :
    ∃ g cap, v = .slice (some ⟨g, 0, none⟩) n cap ∧ base ≤ g ∧ g < w.heap.size ∧ n ≤ cap ∧ cap ≤ maxLen ∧ (∀ i, i < n → ∀ j, j < sz → w.cell? ⟨g, i * sz + j, none⟩ = some (F i j)) ∧ ∀ j, w.frozen? ⟨g, j, none⟩ = false := by
  have hl := h.lt
  rcases h.2 with ⟨rfl, rfl⟩ | ⟨g, cap, cur, rfl, hb, hg, h1, h2, _⟩
  · omega
  · refine ⟨g, cap, rfl, hb, (hl g rfl).2, h1, h2, fun i hi j hj => ?_, fun j => World.ownsRow.frozenAt h j⟩
    have h3 : i * sz + j < n * sz := by
      have := Nat.mul_le_mul_right sz (show i + 1 ≤ n by omega)
      rw [Nat.add_mul] at this
      omega
    rw [World.ownsRow.cellAt h _ h3, flat_at sz F n i j hi hj]
theorem flat_set (sz : Nat) (F : Nat → Nat → Value) (n i j : Nat) (u : Value) (hj : j < sz) : (flat sz F n).set (i * sz + j) u = flat sz (fun a b => if a = i ∧ b = j then u else F a b) n := by
  apply List.ext_getElem?
  intro k
  by_cases hk : k < n * sz
  · rw [flat_get _ _ _ _ hk, List.getElem?_set]
    by_cases h : i * sz + j = k
    · subst h
      have h2 : (i * sz + j) / sz = i := by rw [Nat.mul_comm, Nat.mul_add_div (by omega), Nat.div_eq_of_lt hj]; rfl
      have h3 : (i * sz + j) % sz = j := by rw [Nat.mul_comm, Nat.mul_add_mod, Nat.mod_eq_of_lt hj]
      rw [if_pos rfl, if_pos (by rw [flat_length]; exact hk)]
      simp [h2, h3]
    · rw [if_neg h, flat_get _ _ _ _ hk]
      have : ¬ (k / sz = i ∧ k % sz = j) := by
        rintro ⟨h1, h2⟩
        have := Nat.div_add_mod k sz
        rw [h1, h2, Nat.mul_comm] at this
        exact h this
      simp [this]
  · rw [List.getElem?_eq_none (by rw [List.length_set, flat_length]; omega), List.getElem?_eq_none (by rw [flat_length]; omega)]
theorem own_set {w : World} {base : Nat} {e : TypeId} {sz g n cap : Nat} {F : Nat → Nat → Value} (h : Own w base e sz (.slice (some ⟨g, 0, none⟩) n cap) n F) (i j : Nat) (u : Value) (hj : j < sz) :
    Own (w.setCell ⟨g, i * sz + j, none⟩ u) base e sz (.slice (some ⟨g, 0, none⟩) n cap) n (fun a b => if a = i ∧ b = j then u else F a b) := by
  have := (World.ownsRow.stored h (i * sz + j) u).1
  rw [flat_set _ _ _ _ _ _ hj] at this
  exact this

/-! ### Note -/
def put (S : Nat → Int) (n : Nat) (s : Int) : Nat → Int := fun i => if i = n then s else S i
theorem MF_put (S N : Nat → Int) (n : Nat) (s t : Int) : ∀ i, i < n + 1 → ∀ j, j < 2 → cat n (MF S N) (fun _ j => if j = 0 then .int .u64 s else .int .u64 t) i j = MF (put S n s) (put N n t) i j := by
  intro i hi j hj
  by_cases h : i < n
  · simp [cat, h, MF, put, show ¬ i = n by omega]
  · obtain rfl : i = n := by omega
    simp [cat, MF, put]

set_option maxRecDepth 100000 in
set_option maxHeartbeats 1000000 in
theorem note_arg (A : Option Addr) (n c : Nat) (S N : Nat → Int) (s t : Int) (w : World) (hn : n ≤ 1000) (hA : A = none → n = 0) (h : Marks w A n S N) (h0 : 0 < n) (hc : s ≤ S (n - 1) ∨ (S (n - 1) < s ∧ t < N (n - 1))) :
    Calls Try.prog 32 #[.slice A n c, .int .u64 s, .int .u64 t] w fun e w' => e = .returned (.tuple #[.slice none 0 0, .int .i64 10]) ∧ Below w.heap.size w w' := by
  have H := Lib.hid h
  clear h
  obtain ⟨b, off, rfl, g1, g2, g3, gb⟩ := Marks.at_ H.out (n - 1) (by omega)
  clear g3
  have HA := Lib.hid hA
  clear hA
  have H0 := Lib.hid h0
  rcases hc with c1 | ⟨c1, c2⟩
  all_goals
    go_enter Try.func32, Try.ntmps32
    go_wp2_with fail
    refine (clone_any _ n c S N _ hn HA.out (by exact H.out)).mono ?_
    rintro e w1 ⟨v, rfl, ho, hb⟩
    have g1' := keep_below hb _ _ g1
    have g2' := keep_below hb _ _ g2
    obtain ⟨g, cap, rfl, hg1, hg2, hg3, hg4, hcell, hfz⟩ := own_form ho H0.out
    have k1 := hcell (n - 1) (by have := H0.out; omega) 0 (by omega)
    have k2 := hfz ((n - 1) * 2)
    have HO := Lib.hid ho
    rw [Nat.add_zero] at k1
    clear ho g1 g2 hcell hfz
    go_wp2
    go_ret2
    exact ⟨rfl, (by repeat (first | assumption | exact Below.refl _ _ | refine bel_alloc ?_ _ | refine bel_drewN ?_ _ | refine bel_drew ?_ | refine bel_trans ?_ (by assumption)))⟩
set_option maxRecDepth 100000 in
set_option maxHeartbeats 1000000 in
theorem note_same (A : Option Addr) (n c : Nat) (S N : Nat → Int) (s : Int) (w : World) (hn : n ≤ 1000) (hA : A = none → n = 0) (h : Marks w A n S N) (h0 : 0 < n) (hc : S (n - 1) < s) :
    Calls Try.prog 32 #[.slice A n c, .int .u64 s, .int .u64 (N (n - 1))] w fun e w' => ∃ v, e = .returned (.tuple #[v, .int .i64 0]) ∧ Own w' w.heap.size 55 2 v n (MF (put S (n - 1) s) N) ∧ Below w.heap.size w w' := by
  have H := Lib.hid h
  clear h
  obtain ⟨b, off, rfl, g1, g2, g3, gb⟩ := Marks.at_ H.out (n - 1) (by omega)
  clear g3
  have HA := Lib.hid hA
  clear hA
  have H0 := Lib.hid h0
  go_enter Try.func32, Try.ntmps32
  go_wp2_with fail
  refine (clone_any _ n c S N _ hn HA.out (by exact H.out)).mono ?_
  rintro e w1 ⟨v, rfl, ho, hb⟩
  have g1' := keep_below hb _ _ g1
  have g2' := keep_below hb _ _ g2
  obtain ⟨g, cap, rfl, hg1, hg2, hg3, hg4, hcell, hfz⟩ := own_form ho H0.out
  have k1 := hcell (n - 1) (by have := H0.out; omega) 0 (by omega)
  have k2 := hfz ((n - 1) * 2)
  have HO := Lib.hid ho
  rw [Nat.add_zero] at k1
  clear ho g1 g2 hcell hfz
  go_wp2
  go_ret2
  refine ⟨_, rfl, ?_, ?_⟩
  · refine Own.congr ((own_set HO.out (n - 1) 0 (.int .u64 s) (by omega)).alloc _) ?_
    intro i hi j hj
    by_cases h1 : i = n - 1 <;> by_cases h2 : j = 0 <;> simp [h1, h2, MF, put]
  · exact bel_alloc (bel_set hb hg1 _) _
theorem info_mk : Elt Try.prog 44 55 2 16 := Elt.mk' (z := .agg #[.int .u64 0, .int .u64 0]) Try.underlying44 (by kernel_rfl) rfl (by decide)
set_option maxRecDepth 100000 in
set_option maxHeartbeats 1000000 in
theorem note_full (A : Option Addr) (n c : Nat) (S N : Nat → Int) (s t : Int) (w : World) (hn : n ≤ 1000) (hA : A = none → n = 0) (h : Marks w A n S N) (h0 : 0 < n) (hc : S (n - 1) < s) (ht : N (n - 1) < t) (h64 : 64 ≤ n) :
    Calls Try.prog 32 #[.slice A n c, .int .u64 s, .int .u64 t] w fun e w' => e = .returned (.tuple #[.slice none 0 0, .int .i64 32]) ∧ Below w.heap.size w w' := by
  have H := Lib.hid h
  clear h
  obtain ⟨b, off, rfl, g1, g2, g3, gb⟩ := Marks.at_ H.out (n - 1) (by omega)
  clear g3
  have HA := Lib.hid hA
  clear hA
  have H0 := Lib.hid h0
  go_enter Try.func32, Try.ntmps32
  go_wp2_with fail
  refine (clone_any _ n c S N _ hn HA.out (by exact H.out)).mono ?_
  rintro e w1 ⟨v, rfl, ho, hb⟩
  have g1' := keep_below hb _ _ g1
  have g2' := keep_below hb _ _ g2
  obtain ⟨g, cap, rfl, hg1, hg2, hg3, hg4, hcell, hfz⟩ := own_form ho H0.out
  have k1 := hcell (n - 1) (by have := H0.out; omega) 0 (by omega)
  have k2 := hfz ((n - 1) * 2)
  have HO := Lib.hid ho
  rw [Nat.add_zero] at k1
  clear ho g1 g2 hcell hfz
  go_wp2
  go_ret2
  exact ⟨rfl, (by repeat (first | assumption | exact Below.refl _ _ | refine bel_alloc ?_ _ | refine bel_drewN ?_ _ | refine bel_drew ?_ | refine bel_trans ?_ (by assumption)))⟩
set_option maxRecDepth 100000 in
set_option maxHeartbeats 1000000 in
theorem note_more (A : Option Addr) (n c : Nat) (S N : Nat → Int) (s t : Int) (w : World) (hA : A = none → n = 0) (h : Marks w A n S N) (h0 : 0 < n) (hc : S (n - 1) < s) (ht : N (n - 1) < t) (h64 : n < 64) :
    Calls Try.prog 32 #[.slice A n c, .int .u64 s, .int .u64 t] w fun e w' => ∃ v, e = .returned (.tuple #[v, .int .i64 0]) ∧ Own w' w.heap.size 55 2 v (n + 1) (MF (put S n s) (put N n t)) ∧ Below w.heap.size w w' := by
  have hn : n ≤ 1000 := by omega
  obtain ⟨i0, hi, hz0, hz1, hz2⟩ := info_parts info_mark
  have H := Lib.hid h
  clear h
  obtain ⟨b, off, rfl, g1, g2, g3, gb⟩ := Marks.at_ H.out (n - 1) (by omega)
  clear g3
  have HA := Lib.hid hA
  clear hA
  have H0 := Lib.hid h0
  go_enter Try.func32, Try.ntmps32
  go_wp2_with fail
  refine (clone_any _ n c S N _ hn HA.out (by exact H.out)).mono ?_
  rintro e w1 ⟨v, rfl, ho, hb⟩
  have g1' := keep_below hb _ _ g1
  have g2' := keep_below hb _ _ g2
  obtain ⟨g, cap, rfl, hg1, hg2, hg3, hg4, hcell, hfz⟩ := own_form ho H0.out
  have k1 := hcell (n - 1) (by have := H0.out; omega) 0 (by omega)
  have k2 := hfz ((n - 1) * 2)
  have HO := Lib.hid ho
  rw [Nat.add_zero] at k1
  clear ho g1 g2 hcell hfz
  go_wp2_with (at_builtin; refine wpList_append_arr _ rfl _ _ 44 rfl w.heap.size 55 i0 (.agg #[.int .u64 0, .int .u64 0]) 2 16 Try.underlying44 hi hz0 hz1 hz2 rfl (by decide) _ _ _ rfl ((HO.out.alloc _).alloc _) _ 1 1 _ rfl (arr_new2 _ _ _ _ _ (by simp)) (fun i _ j _ => by split <;> rfl) (by unfold maxLen; omega) (by omega) (by have := hb.size; simp; omega) ?_; intro v' w2 hown' hgrow _; have HB : Below w.heap.size w w2 := bel_own (by repeat (first | assumption | exact Below.refl _ _ | refine bel_alloc ?_ _ | refine bel_drewN ?_ _ | refine bel_drew ?_ | refine bel_trans ?_ (by assumption))) ((HO.out.alloc _).alloc _) hgrow; have HO' := Lib.hid hown'; clear hown' hgrow hb HO H hi hz0 hz1 hz2)
  go_ret2
  exact ⟨_, rfl, Own.congr HO'.out (MF_put S N n s t), HB⟩
set_option maxRecDepth 100000 in
set_option maxHeartbeats 1000000 in
theorem note_none (A : Option Addr) (c : Nat) (S N : Nat → Int) (s t : Int) (w : World) (h : Marks w A 0 S N) :
    Calls Try.prog 32 #[.slice A 0 c, .int .u64 s, .int .u64 t] w fun e w' => ∃ v, e = .returned (.tuple #[v, .int .i64 0]) ∧ Own w' w.heap.size 55 2 v 1 (MF (put S 0 s) (put N 0 t)) ∧ Below w.heap.size w w' := by
  obtain ⟨i0, hi, hz0, hz1, hz2⟩ := info_parts info_mark
  have H := Lib.hid h
  clear h
  go_enter Try.func32, Try.ntmps32
  go_wp2_with fail
  refine (clone_any _ 0 c S N _ (by omega) (fun _ => rfl) (by exact H.out)).mono ?_
  rintro e w1 ⟨v, rfl, ho, hb⟩
  have HO := Lib.hid ho
  clear ho
  go_wp2_with (at_builtin; refine wpList_append_arr _ rfl _ _ 44 rfl w.heap.size 55 i0 (.agg #[.int .u64 0, .int .u64 0]) 2 16 Try.underlying44 hi hz0 hz1 hz2 rfl (by decide) _ _ _ rfl (HO.out.alloc _) _ 1 1 _ rfl (arr_new2 _ _ _ _ _ (by simp)) (fun i _ j _ => by split <;> rfl) (by unfold maxLen; omega) (by omega) (by have := hb.size; simp; omega) ?_; intro v' w2 hown' hgrow _; have HB : Below w.heap.size w w2 := bel_own (by repeat (first | assumption | exact Below.refl _ _ | refine bel_alloc ?_ _ | refine bel_drewN ?_ _ | refine bel_drew ?_ | refine bel_trans ?_ (by assumption))) (HO.out.alloc _) hgrow; have HO' := Lib.hid hown'; clear hown' hgrow hb HO H hi hz0 hz1 hz2)
  go_ret2
  exact ⟨_, rfl, Own.congr HO'.out (MF_put S N 0 s t), HB⟩
end Go.Proofs.Ytfdnpdolpfnlgaa.Times
