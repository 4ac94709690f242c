/- fix.Reader: what a reader holds, and what its calls do. -/
import Derived.Test.YtdjhocgfdbnkmaaFix
namespace Go.Proofs.Ytdjhocgfdbnkmaa.Reader
open Go.RowKit Mem Bytes Fix
set_option linter.unusedVariables false
set_option linter.unusedSimpArgs false
theorem ob_sl {w : World} {base : Nat} {v : Value} {L : List Int} (h : OB w base v L) (n : Nat) (hn : L.length = n) :
    ∃ A c, v = .slice A n c ∧ BS w A L ∧ n ≤ c ∧ c ≤ maxLen ∧ (A = none → c = 0) ∧ (∀ a, A = some a → base ≤ a.block ∧ a.block < w.heap.size) := by
  subst hn; exact OwnL.sl h
/-- A reader in block g: what is left, and whether something was not there. -/
def Rd (w : World) (g : Nat) (L : List Int) (bad : Bool) : Prop :=
  ∃ A c, Blk w g #[.slice A L.length c, .bool bad] 282 ∧ BS w A L ∧ L.length ≤ c ∧ (A = none → c = 0) ∧ (0 < L.length → ∀ a, A = some a → a.block ≠ g)
theorem bs_set {w : World} {A : Option Addr} {L : List Int} {g i : Nat} {u : Value} (h : BS w A L) (hA : 0 < L.length → ∀ a, A = some a → a.block ≠ g) : BS (w.setCell ⟨g, i, none⟩ u) A L := fun hn =>
  (arr_tch h (Tch.set (Tch.refl w g) i u) (hA hn)) hn
def Took (w w' : World) (e : Ending) (g k : Nat) (L : List Int) (bad : Bool) : Prop := ∃ A c, e = .returned (.slice A k c) ∧ BS w' A (L.take k) ∧ k ≤ c ∧ (A = none → c = 0) ∧ Rd w' g (L.drop k) bad ∧ Tch w w' g
theorem Rd.lt {w : World} {g : Nat} {L : List Int} {bad : Bool} (h : Rd w g L bad) : g < w.heap.size := by
  obtain ⟨A, c, h1, _⟩ := h; exact h1.lt
theorem Rd.below {w w' : World} {g : Nat} {L : List Int} {bad : Bool} (h : Rd w g L bad) (hb : Below w.heap.size w w') : Rd w' g L bad := by
  obtain ⟨A, c, h1, h2, h3, h4, h5⟩ := h
  exact ⟨A, c, h1.below hb, Sl.below h2 hb, h3, h4, h5⟩
set_option maxRecDepth 100000 in
set_option maxHeartbeats 1000000 in
theorem new_any (A : Option Addr) (m c : Nat) (L : List Int) (w : World) (hm : m = L.length) (hc : m ≤ c) (hA : A = none → c = 0) (h : BS w A L) :
    Calls Try.prog 157 #[.slice A m c] w fun e w' => e = .returned (.pointer (some ⟨w.heap.size, 0, none⟩)) ∧ Rd w' w.heap.size L false ∧ Below w.heap.size w w' := by
  have H := Lib.hid h
  have HM := Lib.hid hm
  have HA := Lib.hid hA
  clear h hm hA
  go_enter Try.func157, Try.ntmps157
  go_wp2
  go_ret
  refine ⟨rfl, ⟨A, c, by rw [← HM.out]; exact Blk.new _ _ _ _ rfl, Sl.alloc H.out _, by have := HM.out; omega, HA.out, fun hL a ha => ?_⟩, (by repeat (first | assumption | exact Below.refl _ _ | refine bel_alloc ?_ _ | refine bel_drewN ?_ _ | refine bel_drew ?_ | refine bel_set ?_ (by first | (simp; done) | omega | (simp; omega)) _ | refine bel_trans ?_ (by assumption)))⟩
  obtain ⟨b, off, x, e1, _, _, _, _, hb⟩ := Sl.at1 H.out 0 hL
  rw [e1] at ha; injection ha with ha; subst ha
  exact Nat.ne_of_lt hb
set_option maxRecDepth 100000 in
set_option maxHeartbeats 1000000 in
theorem bytes_no (g k : Nat) (L : List Int) (bad : Bool) (s : Int) (w : World) (hs : s = k) (hk : L.length < k) (h : Rd w g L bad) :
    Calls Try.prog 213 #[.pointer (some ⟨g, 0, none⟩), .int .i64 s] w fun e w' => e = .returned (.slice none 0 0) ∧ Rd w' g [] true ∧ Tch w w' g := by
  subst hs
  obtain ⟨A, c, hB, hS, hc, hA, hne⟩ := h
  have HB := Lib.hid hB
  obtain ⟨kc, kf, kz⟩ := hB.facts
  clear hB hS hA hne
  have d1 : decide ((k : Int) < 0) = false := by simp
  have d2 : decide ((L.length : Int) < (k : Int)) = true := by simp; omega
  go_enter Try.func213, Try.ntmps213
  go_wp2
  go_ret
  refine ⟨rfl, ⟨none, 0, ?_, Sl.nil, Nat.le_refl _, fun _ => rfl, fun h => by simp at h⟩, (by repeat (first | assumption | exact Tch.refl _ _ | refine Tch.set ?_ _ _ | refine Tch.alloc ?_ _ | refine Tch.drewN ?_ _ | refine Tch.drew ?_))⟩
  exact ((HB.out.store 0 _).store 1 _).of_eq rfl
set_option maxRecDepth 100000 in
set_option maxHeartbeats 1000000 in
theorem bytes_ok (g k : Nat) (L : List Int) (bad : Bool) (s : Int) (w : World) (hs : s = k) (hk : k ≤ L.length) (hL : L.length ≤ 100000) (h : Rd w g L bad) :
    Calls Try.prog 213 #[.pointer (some ⟨g, 0, none⟩), .int .i64 s] w fun e w' => Took w w' e g k L bad := by
  subst hs
  obtain ⟨A, c, hB, hS, hc, hA, hne⟩ := h
  have HB := Lib.hid hB
  have HS := Lib.hid hS
  have HA := Lib.hid hA
  have HNE := Lib.hid hne
  have HTL : Hid (k = (L.take k).length) := Lib.hid (by rw [List.length_take]; omega)
  obtain ⟨kc, kf, kz⟩ := hB.facts
  clear hB hS hA hne
  have d1 : decide ((k : Int) < 0) = false := by simp
  have d2 : decide ((L.length : Int) < (k : Int)) = false := by simp; omega
  have HRS : Hid ((L.drop k).length = L.length - k) := Lib.hid List.length_drop
  obtain ⟨A', hA', hbs⟩ : ∃ A' : Option Addr, (∀ a, A = some a → (if c = k then some a else some (a.add k)) = A') ∧ (A = none → A' = none) ∧ BS w A' (L.drop k) ∧ (0 < (L.drop k).length → ∀ b, A' = some b → b.block ≠ g) := by
    rcases A with _ | a
    · have h0 := HA.out rfl
      have hl0 : L = [] := List.length_eq_zero_iff.1 (by omega)
      subst hl0
      exact ⟨none, (fun a h => by cases h), (fun _ => rfl), (by rw [List.drop_nil]; exact Sl.nil), (fun h => by simp at h)⟩
    · refine ⟨_, (fun a' h => by injection h with h; subst h; rfl), (fun h => by cases h), ?_, ?_⟩
      · by_cases hkl : k < L.length
        · obtain ⟨b, off, e, hs⟩ := Sl.drop HS.out k hkl
          injection e with e; subst e
          rw [if_neg (by omega)]
          have e2 : (⟨b, off, none⟩ : Addr).add k = ⟨b, off + k * 1, none⟩ := by unfold Addr.add; split <;> simp_all
          rw [e2]; exact hs
        · rw [List.drop_of_length_le (by omega)]; exact Sl.nil
      · intro h0 b hb
        have hkl : k < L.length := by have := HRS.out; omega
        obtain ⟨b', off, e, hs⟩ := Sl.drop HS.out k hkl
        have := HNE.out (by omega) _ rfl
        rw [if_neg (by omega)] at hb
        injection hb with hb
        rw [← hb]
        injection e with e; subst e
        have e2 : (⟨b', off, none⟩ : Addr).add k = ⟨b', off + k * 1, none⟩ := by unfold Addr.add; split <;> simp_all
        rw [e2]; exact this
  obtain ⟨hAn, hbs1, hbs2⟩ := hbs
  have HBS1 := Lib.hid hbs1
  have HBS2 := Lib.hid hbs2
  clear hbs1 hbs2
  rcases A with _ | a
  · obtain rfl := hAn rfl
    obtain rfl := HA.out rfl
    have hl0 : L.length = 0 := by omega
    have HL0 := Lib.hid hl0
    obtain rfl : k = 0 := by omega
    clear hA' hAn
    have hl0' : (L.length : Int) = 0 := by omega
    go_enter Try.func213, Try.ntmps213
    go_wp2
    go_ret
    refine ⟨none, 0, rfl, by rw [List.take_zero]; exact Sl.nil, Nat.le_refl _, fun _ => rfl, ⟨none, 0, ?_, bs_set HBS1.out HBS2.out, by rw [List.drop_zero]; exact hc, fun _ => rfl, HBS2.out⟩, (by repeat (first | assumption | exact Tch.refl _ _ | refine Tch.set ?_ _ _ | refine Tch.alloc ?_ _ | refine Tch.drewN ?_ _ | refine Tch.drew ?_))⟩
    exact (HB.out.store 0 _).of_eq (by rw [List.drop_zero, HL0.out]; rfl)
  · replace hA' := hA' a rfl
    clear hAn
    go_enter Try.func213, Try.ntmps213
    go_wp2_with (at_builtin; refine wpList_append_sl _ (by rfl) (.const (.slice none 0 0)) (.tmp 38) 127 (by rfl) elt_B w.heap.size (IE .u8) _ [] (by rfl) OwnL.nil _ _ _ (L.take k) (by rfl) HTL.out (Sl.take (bs_set HS.out HNE.out) k) (fun _ _ => rfl) (by have := HTL.out; simp only [List.length_nil]; unfold maxLen; omega) (by have := HTL.out; simp only [List.length_nil]; omega) (by simp) ?_; intro v2 w2 hown2 hgrow2; have HO2 := Lib.hid hown2; have HB2 := hgrow2.bel (W := w.setCell ⟨g, 0, none⟩ (.slice A' (L.length - k) (c - k))) (by simpa using Below.refl _ _) (OwnL.nil (α := Int) (enc := IE .u8) (e := 5) (sz := 1)); clear hown2 hgrow2)
    obtain ⟨A2, c2, rfl, hs2, h21, _, h22, _⟩ := ob_sl (L := L.take k) HO2.out k HTL.out.symm
    go_ret
    refine ⟨A2, c2, rfl, hs2, h21, h22, ⟨A', c - k, ?_, Sl.below (bs_set HBS1.out HBS2.out) HB2, by have := HRS.out; omega, ?_, HBS2.out⟩, ?_⟩
    · exact ((HB.out.store 0 _).below HB2).of_eq (by rw [HRS.out]; rfl)
    · intro h0
      rw [h0] at hA'
      split at hA' <;> cases hA'
    · exact (Tch.set (Tch.refl _ _) _ _).below HB2
/-- What a call for k bytes takes, and what it leaves. -/
def tk (L : List Int) (k : Nat) : List Int := if k ≤ L.length then L.take k else []
def rs (L : List Int) (k : Nat) : List Int := if k ≤ L.length then L.drop k else []
def rb (L : List Int) (bad : Bool) (k : Nat) : Bool := if k ≤ L.length then bad else true
theorem tk_isB {L : List Int} (h : IsB L) (k : Nat) : IsB (tk L k) := by
  unfold tk; split
  · exact h.take k
  · exact IsB.nil
theorem rs_isB {L : List Int} (h : IsB L) (k : Nat) : IsB (rs L k) := by
  unfold rs; split
  · exact h.drop k
  · exact IsB.nil
theorem tk_len (L : List Int) (k : Nat) : (tk L k).length ≤ k := by
  unfold tk; split
  · rw [List.length_take]; omega
  · simp
theorem rs_len (L : List Int) (k : Nat) : (rs L k).length ≤ L.length := by
  unfold rs; split
  · rw [List.length_drop]; omega
  · simp
theorem tk_lt {L : List Int} (h : IsB L) (k : Nat) (m : Int) (hk : k ≤ 8) (hm : (256 : Int) ^ k = m) : num (tk L k) < m := by
  have h1 := (num_bd (tk_isB h k)).2
  have h2 : (256 : Int) ^ (tk L k).length ≤ 256 ^ k := by
    have hl := tk_len L k
    rw [pow_split _ k hl]
    have h3 := pow_pos' (k - (tk L k).length)
    have h4 := pow_pos' (tk L k).length
    have := Int.mul_le_mul_of_nonneg_left (show (1 : Int) ≤ 256 ^ (k - (tk L k).length) by omega) (show (0 : Int) ≤ 256 ^ (tk L k).length by omega)
    omega
  omega
set_option maxRecDepth 100000 in
set_option maxHeartbeats 1000000 in
theorem num_any (g k : Nat) (L : List Int) (bad : Bool) (s : Int) (w : World) (hs : s = k) (hk : 1 ≤ k) (hk8 : k ≤ 8) (hL : L.length ≤ 100000) (hB : IsB L) (h : Rd w g L bad) :
    Calls Try.prog 198 #[.pointer (some ⟨g, 0, none⟩), .int .i64 s] w fun e w' => e = .returned (.int .u64 (num (tk L k))) ∧ Rd w' g (rs L k) (rb L bad k) ∧ Tch w w' g := by
  have H := Lib.hid h
  clear h
  have hs1 : 1 ≤ s := by omega
  have hs8 : s ≤ 8 := by omega
  have HS := Lib.hid hs
  clear hs
  by_cases hkl : k ≤ L.length
  · have e1 : tk L k = L.take k := if_pos hkl
    have e2 : rs L k = L.drop k := if_pos hkl
    have e3 : rb L bad k = bad := if_pos hkl
    rw [e1, e2, e3]
    clear e1 e2 e3
    have HTL : Hid (k = (L.take k).length) := Lib.hid (by rw [List.length_take]; omega)
    go_enter Try.func198, Try.ntmps198
    go_wp2_with fail
    refine (bytes_ok g k L bad s _ HS.out hkl hL H.out).mono ?_
    rintro e w1 ⟨A, c, rfl, hs1, hc, hA, hr, ht⟩
    have HS1 := Lib.hid hs1
    have HA := Lib.hid hA
    have HR := Lib.hid hr
    have HT := Lib.hid ht
    clear hs1 hA hr ht
    go_wp2_with fail
    refine (get_any A k c (L.take k) _ HTL.out hc HA.out (by exact HS1.out) (hB.take k) hk8).mono ?_
    rintro e w2 ⟨rfl, hb2⟩
    have HR2 := Lib.hid (HR.out.below hb2)
    have HT2 := Lib.hid (HT.out.below hb2)
    clear hb2 HR HT HS1
    go_wp2
    go_ret
    exact ⟨rfl, HR2.out, HT2.out⟩
  · have e1 : tk L k = [] := if_neg hkl
    have e2 : rs L k = [] := if_neg hkl
    have e3 : rb L bad k = true := if_neg hkl
    rw [e1, e2, e3]
    clear e1 e2 e3
    go_enter Try.func198, Try.ntmps198
    go_wp2_with fail
    refine (bytes_no g k L bad s _ HS.out (by omega) H.out).mono ?_
    rintro e w1 ⟨rfl, hr, ht⟩
    have HR := Lib.hid hr
    have HT := Lib.hid ht
    clear hr ht
    go_wp2_with fail
    refine (get_any none 0 0 [] _ rfl (by omega) (fun _ => rfl) Sl.nil IsB.nil (by omega)).mono ?_
    rintro e w2 ⟨rfl, hb2⟩
    have HR2 := Lib.hid (HR.out.below hb2)
    have HT2 := Lib.hid (HT.out.below hb2)
    clear hb2 HR HT
    go_wp2
    go_ret
    exact ⟨rfl, HR2.out, HT2.out⟩
set_option maxRecDepth 100000 in
set_option maxHeartbeats 1000000 in
theorem u8_any (g : Nat) (L : List Int) (bad : Bool) (w : World) (hL : L.length ≤ 100000) (hB : IsB L) (h : Rd w g L bad) :
    Calls Try.prog 158 #[.pointer (some ⟨g, 0, none⟩)] w fun e w' => e = .returned (.int .i64 (num (tk L 1))) ∧ Rd w' g (rs L 1) (rb L bad 1) ∧ Tch w w' g := by
  have h0 := (num_bd (tk_isB hB 1)).1
  have h1 : num (tk L 1) < 256 := tk_lt hB 1 _ (by decide) (by decide)
  go_enter Try.func158, Try.ntmps158
  go_wp2_with fail
  refine (num_any g 1 L bad 1 _ rfl (by omega) (by omega) hL hB h).mono ?_
  rintro e w1 ⟨rfl, h2, h3⟩
  have H2 := Lib.hid h2
  have H3 := Lib.hid h3
  clear h2 h3
  generalize hq : num (tk L 1) = q at *
  have HQ := Lib.hid hq
  clear hq
  have hw : IntKind.i64.wrap q = q := IntWalk.i64_in _ (by omega)
  go_wp2
  go_ret
  exact ⟨by rw [HQ.out]; rfl, H2.out, H3.out⟩
set_option maxRecDepth 100000 in
set_option maxHeartbeats 1000000 in
theorem u16_any (g : Nat) (L : List Int) (bad : Bool) (w : World) (hL : L.length ≤ 100000) (hB : IsB L) (h : Rd w g L bad) :
    Calls Try.prog 199 #[.pointer (some ⟨g, 0, none⟩)] w fun e w' => e = .returned (.int .i64 (num (tk L 2))) ∧ Rd w' g (rs L 2) (rb L bad 2) ∧ Tch w w' g := by
  have h0 := (num_bd (tk_isB hB 2)).1
  have h1 : num (tk L 2) < 65536 := tk_lt hB 2 _ (by decide) (by decide)
  go_enter Try.func199, Try.ntmps199
  go_wp2_with fail
  refine (num_any g 2 L bad 2 _ rfl (by omega) (by omega) hL hB h).mono ?_
  rintro e w1 ⟨rfl, h2, h3⟩
  have H2 := Lib.hid h2
  have H3 := Lib.hid h3
  clear h2 h3
  generalize hq : num (tk L 2) = q at *
  have HQ := Lib.hid hq
  clear hq
  have hw : IntKind.i64.wrap q = q := IntWalk.i64_in _ (by omega)
  go_wp2
  go_ret
  exact ⟨by rw [HQ.out]; rfl, H2.out, H3.out⟩
set_option maxRecDepth 100000 in
set_option maxHeartbeats 1000000 in
theorem u32_any (g : Nat) (L : List Int) (bad : Bool) (w : World) (hL : L.length ≤ 100000) (hB : IsB L) (h : Rd w g L bad) :
    Calls Try.prog 160 #[.pointer (some ⟨g, 0, none⟩)] w fun e w' => e = .returned (.int .u32 (num (tk L 4))) ∧ Rd w' g (rs L 4) (rb L bad 4) ∧ Tch w w' g := by
  have h0 := (num_bd (tk_isB hB 4)).1
  have h1 : num (tk L 4) < 4294967296 := tk_lt hB 4 _ (by decide) (by decide)
  go_enter Try.func160, Try.ntmps160
  go_wp2_with fail
  refine (num_any g 4 L bad 4 _ rfl (by omega) (by omega) hL hB h).mono ?_
  rintro e w1 ⟨rfl, h2, h3⟩
  have H2 := Lib.hid h2
  have H3 := Lib.hid h3
  clear h2 h3
  generalize hq : num (tk L 4) = q at *
  have HQ := Lib.hid hq
  clear hq
  have hw : IntKind.u32.wrap q = q := by rw [IntKind.wrap_u32', Int.emod_eq_of_lt h0 h1]
  go_wp2
  go_ret
  exact ⟨by rw [HQ.out]; rfl, H2.out, H3.out⟩
set_option maxRecDepth 100000 in
set_option maxHeartbeats 1000000 in
theorem u64_any (g : Nat) (L : List Int) (bad : Bool) (w : World) (hL : L.length ≤ 100000) (hB : IsB L) (h : Rd w g L bad) :
    Calls Try.prog 200 #[.pointer (some ⟨g, 0, none⟩)] w fun e w' => e = .returned (.int .u64 (num (tk L 8))) ∧ Rd w' g (rs L 8) (rb L bad 8) ∧ Tch w w' g := by
  have h0 := (num_bd (tk_isB hB 8)).1
  have h1 : num (tk L 8) < 18446744073709551616 := tk_lt hB 8 _ (by decide) (by decide)
  go_enter Try.func200, Try.ntmps200
  go_wp2_with fail
  refine (num_any g 8 L bad 8 _ rfl (by omega) (by omega) hL hB h).mono ?_
  rintro e w1 ⟨rfl, h2, h3⟩
  have H2 := Lib.hid h2
  have H3 := Lib.hid h3
  clear h2 h3
  generalize hq : num (tk L 8) = q at *
  have HQ := Lib.hid hq
  clear hq
  go_wp2
  go_ret
  exact ⟨by rw [HQ.out]; rfl, H2.out, H3.out⟩
set_option maxRecDepth 100000 in
set_option maxHeartbeats 1000000 in
theorem end_any (g : Nat) (L : List Int) (bad : Bool) (w : World) (hL : L.length ≤ 100000) (h : Rd w g L bad) :
    Calls Try.prog 161 #[.pointer (some ⟨g, 0, none⟩)] w fun e w' => e = .returned (.int .i64 (if bad = true then 20 else if 0 < L.length then 21 else 0)) ∧ w = w' := by
  obtain ⟨A, c, hB, hS, hc, hA, hne⟩ := h
  obtain ⟨kc, kf, kz⟩ := hB.facts
  clear hB hS hA hne
  rcases bad with _ | _
  · by_cases h0 : 0 < L.length
    · rw [if_neg (by simp), if_pos h0]
      go_enter Try.func161, Try.ntmps161
      go_wp2
      go_ret
      exact ⟨rfl, rfl⟩
    · rw [if_neg (by simp), if_neg h0]
      have h0' : ¬ (0 : Int) < (L.length : Int) := by omega
      go_enter Try.func161, Try.ntmps161
      go_wp2
      go_ret
      exact ⟨rfl, rfl⟩
  · rw [if_pos rfl]
    go_enter Try.func161, Try.ntmps161
    go_wp2
    go_ret
    exact ⟨rfl, rfl⟩
end Go.Proofs.Ytdjhocgfdbnkmaa.Reader
