/- page.Of; the reference's Get and Of; the chapter's example. -/
import Derived.Test.YtdjhocgfdbnkmaaPage4
namespace Go.Proofs.Ytdjhocgfdbnkmaa.Page
open Go.RowKit Mem Bytes Fix Crc
set_option linter.unusedVariables false
set_option linter.unusedSimpArgs false
theorem getS_short {L : List Int} (h : L.length ≠ 128) : getS L = (0, [], 12) := by unfold getS; rw [if_pos h]
theorem get_any' (A : Option Addr) (m c : Nat) (L : List Int) (w : World) (hm : m = L.length) (hc : m ≤ c) (h : BS w A L) (hB : IsB L) :
    Calls Try.prog 156 #[.slice A m c] w fun e w' => GetRes w w' e (getS L) := by
  by_cases h1 : m = 128
  · subst h1
    obtain ⟨b, off, rfl, _⟩ := bs_get h 0 (by omega)
    exact get_any128 b off c L w hm.symm hc h hB
  · rw [getS_short (by omega)]
    exact (get_short A m c w h1).mono fun e w' => GetRes.nil
set_option maxRecDepth 100000 in
set_option maxHeartbeats 1000000 in
theorem rpget_short (A : Option Addr) (m c : Nat) (w : World) (hm : m ≠ 128) : Calls Try.prog 163 #[.slice A m c] w fun e w' => e = .returned (.tuple #[.int .i64 0, .slice none 0 0, .int .i64 12]) ∧ Below w.heap.size w w' := by
  have d1 : ((m : Int) != 128) = true := by simp; omega
  have HM := Lib.hid hm
  clear hm
  go_enter Try.func163, Try.ntmps163
  go_wp2
  go_ret3
  exact ⟨rfl, (by repeat (first | assumption | exact Below.refl _ _ | refine bel_alloc ?_ _ | refine bel_drewN ?_ _ | refine bel_drew ?_ | refine bel_set ?_ (by first | (simp; done) | omega | (simp; omega)) _ | refine bel_trans ?_ (by assumption)))⟩
set_option maxRecDepth 100000 in
set_option maxHeartbeats 1000000 in
theorem rpget_128 (b off c : Nat) (L : List Int) (w : World) (hm : L.length = 128) (hc : 128 ≤ c) (h : BS w (some ⟨b, off, none⟩) L) (hB : IsB L) :
    Calls Try.prog 163 #[.slice (some ⟨b, off, none⟩) 128 c] w fun e w' => GetRes w w' e (getS L) := by
  have H := Lib.hid h
  clear h
  have HM := Lib.hid hm
  clear hm
  obtain ⟨b', off', e1, g3, gb⟩ := bs_get H.out 3 (by rw [HM.out]; omega)
  obtain ⟨rfl, rfl⟩ : b = b' ∧ off = off' := by injection e1 with e1; injection e1 with e1 e2; exact ⟨e1, e2⟩
  obtain ⟨b', off', e2, g2, _⟩ := bs_get H.out 2 (by rw [HM.out]; omega)
  obtain ⟨rfl, rfl⟩ : b = b' ∧ off = off' := by injection e2 with e1; injection e1 with e1 e2; exact ⟨e1, e2⟩
  clear e1 e2
  have bk : 0 ≤ L.getD 2 0 ∧ L.getD 2 0 ≤ 255 := hB _ (by rw [List.getD_eq_getElem?_getD, List.getElem?_eq_getElem (by rw [HM.out]; omega)]; exact List.getElem_mem _)
  have bn : 0 ≤ L.getD 3 0 ∧ L.getD 3 0 ≤ 255 := hB _ (by rw [List.getD_eq_getElem?_getD, List.getElem?_eq_getElem (by rw [HM.out]; omega)]; exact List.getElem_mem _)
  generalize hk : L.getD 2 0 = k at *
  generalize hn : L.getD 3 0 = n at *
  have HK := Lib.hid hk
  have HN := Lib.hid hn
  clear hk hn
  have wk : IntKind.i64.wrap k = k := IntWalk.i64_in _ (by omega)
  have wn : IntKind.i64.wrap n = n := IntWalk.i64_in _ (by omega)
  by_cases cbad : (1 ≤ k ∧ k ≤ 6) ∧ n ≤ 120
  · obtain ⟨⟨k1, k2⟩, c3⟩ := cbad
    obtain ⟨nn, rfl⟩ : ∃ nn : Nat, n = nn := ⟨n.toNat, by omega⟩
    have hnn : nn ≤ 120 := by omega
    have d1 : decide (k < 1) = false := by simp; omega
    have d2 : decide (6 < k) = false := by simp; omega
    have d3 : decide (120 < (nn : Int)) = false := by simp; omega
    have HBO : Hid (BS w (some ⟨b, off + 4, none⟩) (body L nn)) := Lib.hid (Sl.take (sub_at H.out 4 (by rw [HM.out]; omega)) nn)
    have HBL : Hid (nn = (body L nn).length) := Lib.hid (body_length HM.out hnn).symm
    have HBB := Lib.hid (body_isB (n := nn) hB)
    have q5 : ¬ c = 4 := by omega
    go_enter Try.func163, Try.ntmps163
    go_wp2
    go_quiet (fail)
    clear wk wn
    go_wp2_with fail
    refine (rpput_any k (some ⟨b, off + 4, none⟩) nn _ (body L nn) _ k1 k2 HBL.out (by omega) (by exact Sl.below HBO.out (by repeat (first | assumption | exact Below.refl _ _ | refine bel_alloc ?_ _ | refine bel_drewN ?_ _ | refine bel_drew ?_ | refine bel_set ?_ (by first | (simp; done) | omega | (simp; omega)) _ | refine bel_trans ?_ (by assumption)))) HBB.out).mono ?_
    rintro e w1 ⟨v1, rfl, ho1, hb1⟩
    have HB1 : Below w.heap.size w w1 := bel_trans (by repeat (first | assumption | exact Below.refl _ _ | refine bel_alloc ?_ _ | refine bel_drewN ?_ _ | refine bel_drew ?_ | refine bel_set ?_ (by first | (simp; done) | omega | (simp; omega)) _ | refine bel_trans ?_ (by assumption))) hb1
    have HPL := Lib.hid (page_length (k := k) (L := body L nn) (by have := HBL.out; omega))
    have HGL := Lib.hid (pg_length (k := k) (L := body L nn) (by have := HBL.out; omega))
    obtain ⟨A1, c1, rfl, hs1, hc11, _⟩ := OB.sl ho1 128 HPL.out
    obtain ⟨b1, off1, rfl, _⟩ := bs_get hs1 0 (by rw [HPL.out]; omega)
    have HS1 := Lib.hid hs1
    have HT1 : Hid (BS w1 (some ⟨b1, off1, none⟩) (pg k (body L nn))) := Lib.hid (by
      have := Sl.take hs1 124
      unfold page at this
      rwa [List.take_left' HGL.out] at this)
    have HT : Hid (BS w1 (some ⟨b, off, none⟩) (L.take 124)) := Lib.hid (Sl.below (Sl.take H.out 124) HB1)
    have HTL : Hid (124 = (L.take 124).length) := Lib.hid (by rw [List.length_take, HM.out]; rfl)
    clear ho1 hs1 hb1 g2 g3
    obtain ⟨v1, hv1⟩ : ∃ v : Bool, v = true ↔ L.take 124 = pg k (body L nn) := by
      by_cases hx : L.take 124 = pg k (body L nn)
      · exact ⟨true, by simp [hx]⟩
      · exact ⟨false, by simp [hx]⟩
    have HV1 := Lib.hid hv1
    clear hv1
    have hci : (124 : Int) ≤ (c : Int) := by omega
    have hci1 : (124 : Int) ≤ (c1 : Int) := by omega
    have hS := Lib.hid (fun (x : Ext w1) => ext_call (same_any (some ⟨b, off, none⟩) (some ⟨b1, off1, none⟩) 124 c c1 (L.take 124) (pg k (body L nn)) x.w HTL.out HGL.out.symm (by omega) (Sl.below HT.out x.h) (Sl.below HT1.out x.h) v1 HV1.out))
    go_wp2
    (refine wp_region_ext (by kernel_rfl) (by kernel_rfl) ?_; (try dsimp only [List.append]); (repeat (go_big_quiet_step ((go_at_call 201; exact hS.out _)))); refine wpQuiet_nil ?_; rintro _ ⟨⟨wq, hbq⟩, rfl⟩)
    have HB2 := bel_trans HB1 hbq
    have HS2 := Lib.hid (Sl.below HS1.out hbq)
    clear hS hbq HS1 HT1 HT HB1
    rcases v1 with _ | _
    · have hg := getS_bad HM.out HK.out HN.out (.inr (.inr (fun hx => by have := HV1.out.2 hx; simp at this)))
      have HG := Lib.hid hg
      clear hg HV1
      go_wp2
      go_ret3
      rw [HG.out]
      exact GetRes.nil ⟨rfl, HB2⟩
    · have HE : Hid (L.take 124 = pg k (body L nn)) := Lib.hid (HV1.out.1 rfl)
      clear HV1
      obtain ⟨v2, hv2⟩ : ∃ v : Bool, v = true ↔ L = page k (body L nn) := by
        by_cases hx : L = page k (body L nn)
        · exact ⟨true, ⟨fun _ => hx, fun _ => rfl⟩⟩
        · exact ⟨false, ⟨fun h => by simp at h, fun h => absurd h hx⟩⟩
      have HV2 := Lib.hid hv2
      clear hv2
      go_wp2_with fail
      refine (same_any (some ⟨b, off, none⟩) (some ⟨b1, off1, none⟩) 128 c c1 L (page k (body L nn)) _ HM.out.symm HPL.out.symm (by omega) (by exact Sl.below H.out HB2) (by exact HS2.out) v2 HV2.out).mono ?_
      rintro e w3 ⟨rfl, hb3⟩
      have HB3 : Below w.heap.size w w3 := bel_trans HB2 hb3
      clear hb3 HB2 HS2
      rcases v2 with _ | _
      · have hg := getS_sum HM.out HK.out HN.out k1 k2 c3 HE.out (fun hx => by have := HV2.out.2 hx; simp at this)
        have HG := Lib.hid hg
        clear hg HV2
        go_wp2
        go_ret3
        rw [HG.out]
        exact GetRes.nil ⟨rfl, HB3⟩
      · have hg := getS_ok HM.out HK.out HN.out k1 k2 c3 HE.out (HV2.out.1 rfl)
        have HG := Lib.hid hg
        clear hg HV2
        have HB4 := Lib.hid (Sl.below HBO.out HB3)
        go_wp2_with (at_builtin; refine wpList_append_sl _ (by rfl) (.tmp 46) (.tmp 50) 127 (by rfl) elt_B w.heap.size (IE .u8) _ [] (by rfl) (OwnL.made _ rfl (by simpa using HB3.size) (by unfold maxLen; omega) rfl) _ _ _ (body L nn) (by rfl) (by have := HBL.out; omega) (Sl.alloc HB4.out _) (fun _ _ => rfl) (by have := HBL.out; simp only [List.length_nil]; unfold maxLen; omega) (by have := HBL.out; simp only [List.length_nil]; omega) (by have := HB3.size; simp; omega) ?_; intro v5 w5 hown5 hgrow5; have HO5 := Lib.hid hown5; have HB5 : Below w.heap.size w w5 := hgrow5.bel (bel_alloc HB3 _) (OwnL.made (α := Int) (enc := IE .u8) (e := 5) (sz := 1) _ rfl (by simpa using HB3.size) (by unfold maxLen; omega) rfl); clear hown5 hgrow5)
        obtain ⟨A5, c5', rfl, hs5, hc51, hc52, hc53, hc54⟩ := OB.sl (L := body L nn) HO5.out nn HBL.out.symm
        have HNW : NewA w A5 c5' := ⟨fun a ha => Nat.le_trans (by first | exact Nat.le_refl _ | exact HB3.size) (hc54 a ha).1, hc52⟩
        clear hc54
        go_ret3
        rw [HG.out]
        exact ⟨A5, nn, c5', HBL.out, rfl, hs5, hc51, hc53, HB5, HNW⟩
  · have hg : getS L = (0, [], 21) := getS_bad HM.out HK.out HN.out (by omega)
    have HG := Lib.hid hg
    clear hg
    have hc3 : k < 1 ∨ (1 ≤ k ∧ 6 < k) ∨ ((1 ≤ k ∧ k ≤ 6) ∧ 120 < n) := by omega
    clear cbad
    rcases hc3 with h1 | ⟨h1, h2⟩ | ⟨⟨h1, h2⟩, h3⟩
    · have d1 : decide (k < 1) = true := by simp; omega
      go_enter Try.func163, Try.ntmps163
      go_wp2
      go_quiet (fail)
      go_wp2
      go_ret3
      rw [HG.out]
      exact GetRes.nil ⟨rfl, (by repeat (first | assumption | exact Below.refl _ _ | refine bel_alloc ?_ _ | refine bel_drewN ?_ _ | refine bel_drew ?_ | refine bel_set ?_ (by first | (simp; done) | omega | (simp; omega)) _ | refine bel_trans ?_ (by assumption)))⟩
    · have d1 : decide (k < 1) = false := by simp; omega
      have d2 : decide (6 < k) = true := by simp; omega
      go_enter Try.func163, Try.ntmps163
      go_wp2
      go_quiet (fail)
      go_wp2
      go_ret3
      rw [HG.out]
      exact GetRes.nil ⟨rfl, (by repeat (first | assumption | exact Below.refl _ _ | refine bel_alloc ?_ _ | refine bel_drewN ?_ _ | refine bel_drew ?_ | refine bel_set ?_ (by first | (simp; done) | omega | (simp; omega)) _ | refine bel_trans ?_ (by assumption)))⟩
    · have d1 : decide (k < 1) = false := by simp; omega
      have d2 : decide (6 < k) = false := by simp; omega
      have d3 : decide (120 < n) = true := by simp; omega
      go_enter Try.func163, Try.ntmps163
      go_wp2
      go_quiet (fail)
      go_wp2
      go_ret3
      rw [HG.out]
      exact GetRes.nil ⟨rfl, (by repeat (first | assumption | exact Below.refl _ _ | refine bel_alloc ?_ _ | refine bel_drewN ?_ _ | refine bel_drew ?_ | refine bel_set ?_ (by first | (simp; done) | omega | (simp; omega)) _ | refine bel_trans ?_ (by assumption)))⟩
theorem rpget_any (A : Option Addr) (m c : Nat) (L : List Int) (w : World) (hm : m = L.length) (hc : m ≤ c) (h : BS w A L) (hB : IsB L) :
    Calls Try.prog 163 #[.slice A m c] w fun e w' => GetRes w w' e (getS L) := by
  by_cases h1 : m = 128
  · subst h1
    obtain ⟨b, off, rfl, _⟩ := bs_get h 0 (by omega)
    exact rpget_128 b off c L w hm.symm hc h hB
  · rw [getS_short (by omega)]
    exact (rpget_short A m c w h1).mono fun e w' => GetRes.nil
end Go.Proofs.Ytdjhocgfdbnkmaa.Page
