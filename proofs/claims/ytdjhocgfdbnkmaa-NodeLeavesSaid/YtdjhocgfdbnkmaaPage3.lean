/- Pages, read: what a sector is (plain), page.Get. -/
import Derived.Test.YtdjhocgfdbnkmaaPage2
import Derived.StillTailTactics
import Derived.Test.YtdjhocgfdbnkmaaStep
namespace Go.Proofs.Ytdjhocgfdbnkmaa.Page
open Go.RowKit Mem Bytes Fix Crc
set_option linter.unusedVariables false
set_option linter.unusedSimpArgs false
/-- The bytes of a page whose fourth byte is n. -/
def body (L : List Int) (n : Nat) : List Int := (L.drop 4).take n
/-- What Get tells: kind, bytes, error. -/
def getS (L : List Int) : Int × List Int × Int :=
  if L.length ≠ 128 then (0, [], 12)
  else if ¬ (1 ≤ L.getD 2 0 ∧ L.getD 2 0 ≤ 6) ∨ 120 < L.getD 3 0 then (0, [], 21)
  else if L.take 124 ≠ pg (L.getD 2 0) (body L (L.getD 3 0).toNat) then (0, [], 21)
  else if L ≠ page (L.getD 2 0) (body L (L.getD 3 0).toNat) then (0, [], 22)
  else (L.getD 2 0, body L (L.getD 3 0).toNat, 0)
theorem body_length {L : List Int} {n : Nat} (h : L.length = 128) (hn : n ≤ 120) : (body L n).length = n := by
  unfold body; rw [List.length_take, List.length_drop]; omega
theorem body_isB {L : List Int} {n : Nat} (h : IsB L) : IsB (body L n) := (h.drop 4).take n
theorem four {L : List Int} (h : L.length = 128) : L.take 4 = [L.getD 0 0, L.getD 1 0, L.getD 2 0, L.getD 3 0] := by
  rcases L with _ | ⟨a, _ | ⟨b, _ | ⟨c, _ | ⟨d, l⟩⟩⟩⟩
  all_goals first | rfl | (simp at h)
theorem head_eq {L : List Int} (h : L.length = 128) (hB : IsB L) {k n : Int} (hk : L.getD 2 0 = k) (hn : L.getD 3 0 = n) (hn2 : n ≤ 120) (hn0 : 0 ≤ n) :
    L.take 124 = pg k (body L n.toNat) ↔ num (L.take 2) = 19613 ∧ ∀ x ∈ (L.take 124).drop (4 + n.toNat), x = 0 := by
  have hbl := body_length h (show n.toNat ≤ 120 by omega)
  have e0 : L.take 124 = L.take 4 ++ (body L n.toNat ++ (L.take 124).drop (4 + n.toNat)) := by
    have h1 : L.take 124 = (L.take 124).take 4 ++ (L.take 124).drop 4 := (List.take_append_drop 4 _).symm
    have h2 : (L.take 124).drop 4 = ((L.take 124).drop 4).take n.toNat ++ ((L.take 124).drop 4).drop n.toNat := (List.take_append_drop n.toNat _).symm
    rw [List.take_take, Nat.min_eq_left (by omega)] at h1
    have h3 : ((L.take 124).drop 4).take n.toNat = body L n.toNat := by
      unfold body
      rw [List.drop_take, List.take_take, Nat.min_eq_left (by omega)]
    rw [h3, List.drop_drop] at h2
    rw [← h2]; exact h1
  have e1 : pg k (body L n.toNat) = [157, 76, k, n] ++ (body L n.toNat ++ List.replicate (120 - n.toNat) 0) := by
    unfold pg
    rw [hbl, List.append_assoc, Int.toNat_of_nonneg hn0]
  have hl : ((L.take 124).drop (4 + n.toNat)).length = 120 - n.toNat := by rw [List.length_drop, List.length_take]; omega
  have h2 : L.take 2 = [L.getD 0 0, L.getD 1 0] := by
    have := congrArg (List.take 2) (four h)
    rw [List.take_take] at this
    exact this
  have b0 : 0 ≤ L.getD 0 0 ∧ L.getD 0 0 ≤ 255 := hB _ (by rw [List.getD_eq_getElem?_getD, List.getElem?_eq_getElem (by omega)]; exact List.getElem_mem _)
  have b1 : 0 ≤ L.getD 1 0 ∧ L.getD 1 0 ≤ 255 := hB _ (by rw [List.getD_eq_getElem?_getD, List.getElem?_eq_getElem (by omega)]; exact List.getElem_mem _)
  have hnum : num (L.take 2) = L.getD 0 0 + 256 * L.getD 1 0 := by rw [h2]; simp [num]
  rw [e1, hnum]
  constructor
  · intro he
    have h3 := e0.symm.trans he
    rw [four h, hk, hn] at h3
    have h4 := List.append_inj h3 rfl
    have h5 := List.append_inj h4.2 rfl
    refine ⟨?_, fun x hx => ?_⟩
    · have := h4.1
      simp only [List.cons.injEq] at this
      rw [this.1, this.2.1]; omega
    · rw [h5.2] at hx
      exact List.eq_of_mem_replicate hx
  · rintro ⟨hm, hz⟩
    rw [e0, four h, hk, hn]
    have g0 : L.getD 0 0 = 157 := by omega
    have g1 : L.getD 1 0 = 76 := by omega
    rw [g0, g1]
    congr 2
    rw [← hl]
    exact List.eq_replicate_of_mem hz
theorem sum_eq {L : List Int} (h : L.length = 128) (hB : IsB L) {k : Int} {B : List Int} (h1 : L.take 124 = pg k B) :
    L = page k B ↔ num (L.drop 124) = (crcV (L.take 124) : Nat) := by
  have e : L = L.take 124 ++ L.drop 124 := (List.take_append_drop 124 L).symm
  have hd : (L.drop 124).length = 4 := by rw [List.length_drop]; omega
  have hlt := crcV_lt (pg k B)
  have hnl : num (le (crcV (pg k B) : Nat) 4) = (crcV (pg k B) : Nat) := by
    rw [num_le _ (by omega)]
    exact Int.emod_eq_of_lt (by omega) (by have : (256 : Int) ^ 4 = 4294967296 := by decide
                                           omega)
  unfold page
  constructor
  · intro he
    rw [h1]
    have h2 : L.take 124 ++ L.drop 124 = pg k B ++ le (crcV (pg k B) : Nat) 4 := by rw [← e]; exact he
    rw [h1] at h2
    have h3 := List.append_cancel_left h2
    rw [h3, hnl]
  · intro he
    rw [h1] at he
    conv => lhs; rw [e]
    rw [h1]
    congr 1
    refine num_inj (hB.drop 124) (le_isB _ _) (by rw [hd, le_length]) ?_
    rw [he, hnl]

theorem getS_bad {L : List Int} (h : L.length = 128) {k n : Int} (hk : L.getD 2 0 = k) (hn : L.getD 3 0 = n) (hx : ¬ (1 ≤ k ∧ k ≤ 6) ∨ 120 < n ∨ L.take 124 ≠ pg k (body L n.toNat)) : getS L = (0, [], 21) := by
  unfold getS
  rw [if_neg (by omega), hk, hn]
  by_cases h1 : ¬ (1 ≤ k ∧ k ≤ 6) ∨ 120 < n
  · rw [if_pos h1]
  · rw [if_neg h1, if_pos]
    rcases hx with h2 | h2 | h2
    · exact absurd (.inl h2) h1
    · exact absurd (.inr h2) h1
    · exact h2
theorem getS_sum {L : List Int} (h : L.length = 128) {k n : Int} (hk : L.getD 2 0 = k) (hn : L.getD 3 0 = n) (h1 : 1 ≤ k) (h2 : k ≤ 6) (h3 : n ≤ 120) (h4 : L.take 124 = pg k (body L n.toNat)) (h5 : L ≠ page k (body L n.toNat)) : getS L = (0, [], 22) := by
  unfold getS
  rw [if_neg (by omega), hk, hn, if_neg (by omega), if_neg (by simpa using h4), if_pos h5]
theorem getS_ok {L : List Int} (h : L.length = 128) {k n : Int} (hk : L.getD 2 0 = k) (hn : L.getD 3 0 = n) (h1 : 1 ≤ k) (h2 : k ≤ 6) (h3 : n ≤ 120) (h4 : L.take 124 = pg k (body L n.toNat)) (h5 : L = page k (body L n.toNat)) : getS L = (k, body L n.toNat, 0) := by
  unfold getS
  rw [if_neg (by omega), hk, hn, if_neg (by omega), if_neg (by simpa using h4), if_neg (by simpa using h5)]
theorem sub_at {w : World} {b off : Nat} {L : List Int} (h : BS w (some ⟨b, off, none⟩) L) (lo : Nat) (hlo : lo < L.length) : BS w (some ⟨b, off + lo, none⟩) (L.drop lo) := by
  obtain ⟨b', off', e, hs⟩ := Sl.drop h lo hlo
  injection e with e; injection e with e1 e2; subst e1; subst e2
  rw [Nat.mul_one] at hs
  exact hs
/-- A slice that is new. -/
def NewA (w : World) (A : Option Addr) (c : Nat) : Prop := (∀ a, A = some a → w.heap.size ≤ a.block) ∧ c ≤ maxLen
/-- What a reader of pages ends with. -/
def GetRes (w w' : World) (e : Ending) (r : Int × List Int × Int) : Prop := ∃ A n c, n = r.2.1.length ∧ e = .returned (.tuple #[.int .i64 r.1, .slice A n c, .int .i64 r.2.2]) ∧ BS w' A r.2.1 ∧ n ≤ c ∧ (A = none → c = 0) ∧ Below w.heap.size w w' ∧ NewA w A c
theorem GetRes.nil {w w' : World} {e : Ending} {k code : Int} (h : e = .returned (.tuple #[.int .i64 k, .slice none 0 0, .int .i64 code]) ∧ Below w.heap.size w w') : GetRes w w' e (k, [], code) :=
  ⟨none, 0, 0, rfl, h.1, Sl.nil, Nat.le_refl _, fun _ => rfl, h.2, fun a ha => (by cases ha), Nat.zero_le _⟩
theorem bs_get {w : World} {A : Option Addr} {L : List Int} (h : BS w A L) (i : Nat) (hi : i < L.length) : ∃ b off, A = some ⟨b, off, none⟩ ∧ w.cell? ⟨b, off + i, none⟩ = some (.int .u8 (L.getD i 0)) ∧ b < w.heap.size := by
  obtain ⟨b, off, x, e, hx, _, _, hc, hb⟩ := Sl.at1 h i hi
  refine ⟨b, off, e, ?_, hb⟩
  rw [hc, List.getD_eq_getElem?_getD, hx]; rfl
set_option maxRecDepth 100000 in
set_option maxHeartbeats 1000000 in
theorem get_short (A : Option Addr) (m c : Nat) (w : World) (hm : m ≠ 128) : Calls Try.prog 156 #[.slice A m c] w fun e w' => e = .returned (.tuple #[.int .i64 0, .slice none 0 0, .int .i64 12]) ∧ Below w.heap.size w w' := by
  have d1 : ((m : Int) != 128) = true := by simp; omega
  have HM := Lib.hid hm
  clear hm
  go_enter Try.func156, Try.ntmps156
  go_wp2
  go_ret3
  exact ⟨rfl, (by repeat (first | assumption | exact Below.refl _ _ | refine bel_alloc ?_ _ | refine bel_drewN ?_ _ | refine bel_drew ?_ | refine bel_set ?_ (by first | (simp; done) | omega | (simp; omega)) _ | refine bel_trans ?_ (by assumption)))⟩
set_option maxRecDepth 100000 in
set_option maxHeartbeats 1000000 in
theorem get_any128 (b off c : Nat) (L : List Int) (w : World) (hm : L.length = 128) (hc : 128 ≤ c) (h : BS w (some ⟨b, off, none⟩) L) (hB : IsB L) :
    Calls Try.prog 156 #[.slice (some ⟨b, off, none⟩) 128 c] w fun e w' => GetRes w w' e (getS L) := by
  have H := Lib.hid h
  clear h
  have HM := Lib.hid hm
  clear hm
  obtain ⟨b', off', e1, g3, gb⟩ := bs_get H.out 3 (by rw [HM.out]; omega)
  obtain ⟨rfl, rfl⟩ : b = b' ∧ off = off' := by injection e1 with e1; injection e1 with e1 e2; exact ⟨e1, e2⟩
  obtain ⟨b', off', e2, g2, _⟩ := bs_get H.out 2 (by rw [HM.out]; omega)
  obtain ⟨rfl, rfl⟩ : b = b' ∧ off = off' := by injection e2 with e1; injection e1 with e1 e2; exact ⟨e1, e2⟩
  clear e1 e2
  have bk : 0 ≤ L.getD 2 0 ∧ L.getD 2 0 ≤ 255 := hB _ (by rw [List.getD_eq_getElem?_getD, List.getElem?_eq_getElem (by rw [HM.out]; omega)]; exact List.getElem_mem _)
  have bn : 0 ≤ L.getD 3 0 ∧ L.getD 3 0 ≤ 255 := hB _ (by rw [List.getD_eq_getElem?_getD, List.getElem?_eq_getElem (by rw [HM.out]; omega)]; exact List.getElem_mem _)
  have HT2 : Hid (BS w (some ⟨b, off, none⟩) (L.take 2)) := Lib.hid (Sl.take H.out 2)
  generalize hk : L.getD 2 0 = k at *
  generalize hn : L.getD 3 0 = n at *
  have HK := Lib.hid hk
  have HN := Lib.hid hn
  clear hk hn
  go_enter Try.func156, Try.ntmps156
  go_wp2_with fail
  refine (get_any _ 2 c (L.take 2) _ (by rw [List.length_take, HM.out]; rfl) (by omega) (fun h => by cases h) (by exact HT2.out) (hB.take 2) (by omega)).mono ?_
  rintro e w1 ⟨rfl, hb1⟩
  have g2' := keep_below hb1 _ _ g2
  have gb1 : b < w1.heap.size := Nat.lt_of_lt_of_le gb hb1.size
  have H1 := Lib.hid (Sl.below H.out hb1)
  have HNUM := Lib.hid (show num (L.take 2) = num (L.take 2) from rfl)
  clear g2 g3
  by_cases c1 : num (L.take 2) = 19613
  · rw [c1]
    have HC1 := Lib.hid c1
    clear c1 HNUM
    by_cases c2 : 1 ≤ k ∧ k ≤ 6
    · obtain ⟨k1, k2⟩ := c2
      go_wp2_with fail
      refine (kind_yes k _ k1 k2).mono ?_
      rintro e w' ⟨rfl, rfl⟩
      by_cases c3 : n ≤ 120
      · obtain ⟨nn, rfl⟩ : ∃ nn : Nat, n = nn := ⟨n.toNat, by omega⟩
        have hnn : nn ≤ 120 := by omega
        have HH := Lib.hid (head_eq HM.out hB HK.out HN.out c3 (by omega))
        have dn : decide (120 < (nn : Int)) = false := by simp; omega
        have HZ : Hid (BS w1 (some ⟨b, off + (4 + nn), none⟩) ((L.take 124).drop (4 + nn))) := Lib.hid (by
          by_cases h120 : nn = 120
          · have : (L.take 124).drop (4 + nn) = [] := by rw [List.drop_eq_nil_iff, List.length_take]; omega
            rw [this]; exact Sl.nil
          · exact sub_at (Sl.take H1.out 124) (4 + nn) (by rw [List.length_take, HM.out]; omega))
        have HZL : Hid (((L.take 124).drop (4 + nn)).length = 124 - (4 + nn)) := Lib.hid (by rw [List.length_drop, List.length_take, HM.out]; omega)
        go_wp2
        go_loopw [36] (fun i wr => ∃ j : Nat, j ≤ 124 - (4 + nn) ∧ i = .int .i64 j ∧ wr = w1 ∧ Hid (∀ x ∈ ((L.take 124).drop (4 + nn)).take j, x = 0)) (fun i _ => 124 - (4 + nn) - (intOf i).toNat)
        case atStart => exact ⟨0, Nat.zero_le _, rfl, rfl, Lib.hid (fun x hx => by simp at hx)⟩
        case round =>
          obtain ⟨j, hj, rfl, rfl, hz⟩ := hrel
          by_cases hlt : j < 124 - (4 + nn)
          · obtain ⟨bb, oo, x, e1, hx, ht, hmem, g1, _⟩ := Sl.at1 HZ.out j (by have := HZL.out; omega)
            obtain ⟨rfl, rfl⟩ : b = bb ∧ off + (4 + nn) = oo := by injection e1 with e1; injection e1 with e1 e2; exact ⟨e1, e2⟩
            simp only [IE] at g1
            have HT := Lib.hid ht
            have HME := Lib.hid hmem
            clear e1 hx ht hmem
            by_cases hx0 : x = 0
            · have d1 : (x != 0) = false := by simpa using hx0
              have HX0 := Lib.hid hx0
              clear hx0
              go_wp2
              go_roundw
              case rel => exact ⟨j + 1, by omega, by go_num, trivial, Lib.hid (fun y hy => by
                rw [HT.out] at hy
                rcases List.mem_append.1 hy with hy | hy
                · exact hz.out y hy
                · simp at hy; subst hy; exact HX0.out)⟩
              case measure => simp [intOf]; omega
            · have d1 : (x != 0) = true := by simpa using hx0
              have hg := getS_bad HM.out HK.out HN.out (.inr (.inr (fun h => hx0 ((HH.out.1 h).2 x HME.out))))
              have HG := Lib.hid hg
              clear hg hx0
              go_wp2
              go_ret3
              rw [HG.out]
              exact GetRes.nil ⟨rfl, hb1⟩
          · obtain rfl : j = 124 - (4 + nn) := by omega
            have HE : Hid (L.take 124 = pg k (body L nn)) := Lib.hid (HH.out.2 ⟨HC1.out, fun x hx => hz.out x (by rw [List.take_of_length_le (by have := HZL.out; omega)]; exact hx)⟩)
            have HD : Hid (BS wr (some ⟨b, off + 124, none⟩) (L.drop 124)) := Lib.hid (sub_at H1.out 124 (by rw [HM.out]; omega))
            have HQ : Hid (BS wr (some ⟨b, off, none⟩) (L.take 124)) := Lib.hid (Sl.take H1.out 124)
            have HL4 : Hid (4 = (L.drop 124).length) := Lib.hid (by rw [List.length_drop, HM.out])
            have HL124 : Hid (124 = (L.take 124).length) := Lib.hid (by rw [List.length_take, HM.out]; rfl)
            have h4 := (num_bd (hB.drop 124)).1
            have h5 : num (L.drop 124) < 4294967296 := by
              have := (num_bd (hB.drop 124)).2
              rw [← HL4.out] at this
              have h6 : (256 : Int) ^ 4 = 4294967296 := by decide
              omega
            have h7 := crcV_lt (L.take 124)
            have hw5 : IntKind.u32.wrap (num (L.drop 124)) = num (L.drop 124) := by rw [IntKind.wrap_u32', Int.emod_eq_of_lt h4 h5]
            have HSUM := Lib.hid (sum_eq HM.out hB HE.out)
            have hci : (124 : Int) ≤ (c : Int) := by omega
            have hci2 : (128 : Int) ≤ (c : Int) := by omega
            have hci3 : (0 : Int) ≤ (c : Int) := by omega
            have hci4 : ¬ c = 124 := by omega
            by_cases c5 : num (L.drop 124) = (crcV (L.take 124) : Nat)
            · have d5 : (num (L.drop 124) != ((crcV (L.take 124) : Nat) : Int)) = false := by simpa using c5
              have hg := getS_ok HM.out HK.out HN.out k1 k2 c3 HE.out (HSUM.out.2 c5)
              have HG := Lib.hid hg
              have HBO : Hid (BS wr (some ⟨b, off + 4, none⟩) (body L nn)) := Lib.hid (Sl.take (sub_at H1.out 4 (by rw [HM.out]; omega)) nn)
              have HBL : Hid (nn = (body L nn).length) := Lib.hid (body_length HM.out hnn).symm
              clear c5 hg
              go_wp2
              go_region_held3 (fun _ => True) (trivial) (first | (go_at_call 195; refine (get_any _ 4 _ (L.drop 124) _ HL4.out (by omega) (fun h => by cases h) (by first | exact HD.out | exact Sl.below HD.out (by repeat (first | assumption | exact Below.refl _ _ | refine bel_alloc ?_ _ | refine bel_drewN ?_ _ | refine bel_drew ?_ | refine bel_set ?_ (by first | (simp; done) | omega | (simp; omega)) _ | refine bel_trans ?_ (by assumption)))) (hB.drop 124) (by omega)).mono ?_; rintro e wf ⟨rfl, hbf⟩) | (go_at_call 197; refine (of_any _ _ (some ⟨b, off, none⟩) 124 c (L.take 124) _ (by first | (simp; done) | exact keep_below hbf _ _ (by simp)) HL124.out (by omega) (by exact Sl.below HQ.out (by repeat (first | assumption | exact Below.refl _ _ | refine bel_alloc ?_ _ | refine bel_drewN ?_ _ | refine bel_drew ?_ | refine bel_set ?_ (by first | (simp; done) | omega | (simp; omega)) _ | refine bel_trans ?_ (by assumption)))) (hB.take 124)).mono ?_; rintro e wf ⟨rfl, hbf⟩))
              all_goals
                have HBr : Below wr.heap.size wr wf := (by repeat (first | assumption | exact Below.refl _ _ | refine bel_alloc ?_ _ | refine bel_drewN ?_ _ | refine bel_drew ?_ | refine bel_set ?_ (by first | (simp; done) | omega | (simp; omega)) _ | refine bel_trans ?_ (by assumption)))
                have HBf : Below w.heap.size w wf := bel_trans hb1 HBr
                have HB2 := Lib.hid (Sl.below HBO.out HBr)
                have g9 := keep_below HBr _ _ g2'
                have gb9 : b < wf.heap.size := Nat.lt_of_lt_of_le gb1 HBr.size
                clear hbf HBr
                have q1 : IntKind.i64.wrap (4 + (nn : Int)) = 4 + (nn : Int) := IntWalk.i64_in _ (by omega)
                have q2 : (4 : Int) ≤ 4 + (nn : Int) := by omega
                have q3 : 4 + (nn : Int) ≤ (c : Int) := by omega
                have q4 : (0 : Int) ≤ 4 + (nn : Int) := by omega
                have q5 : ¬ c = 4 := by omega
                have q6 : (4 : Int) ≤ (c : Int) := by omega
                have q7 : IntKind.i64.wrap k = k := IntWalk.i64_in _ (by omega)
                go_wp2
                go_region_held3 (fun w' => w'.cell? ⟨b, off + 2, none⟩ = some (.int .u8 k)) (first | exact g9 | exact keep_below HBA _ _ g9) ((refine step_append_sl _ (by rfl) (.const (.slice none 0 0)) (.tmp 59) 127 (by rfl) elt_B w.heap.size (IE .u8) _ [] (by rfl) OwnL.nil _ _ _ (body L nn) (by rfl) (by have := HBL.out; omega) (Sl.drew HB2.out) (fun _ _ => rfl) (by have := HBL.out; simp only [List.length_nil]; unfold maxLen; omega) (by have := HBL.out; simp only [List.length_nil]; omega) (by have := HBf.size; simpa using this) ?_; intro v3 w3 hown3 hgrow3; have HO3 := Lib.hid hown3; have HBA : Below wf.heap.size wf w3 := hgrow3.bel (bel_drew (Below.refl _ _)) (OwnL.nil (α := Int) (enc := IE .u8) (e := 5) (sz := 1)); clear hown3 hgrow3))
                have HB3 : Below w.heap.size w w3 := bel_trans HBf HBA
                go_wp2
                obtain ⟨A3, c3', rfl, hs3, hc31, hc32, hc33, hc34⟩ := OB.sl (L := body L nn) HO3.out nn HBL.out.symm
                have HNW : NewA w A3 c3' := ⟨fun a ha => (hc34 a ha).1, hc32⟩
                clear hc34
                go_ret3
                rw [HG.out]
                exact ⟨A3, nn, c3', HBL.out, rfl, hs3, hc31, hc33, HB3, HNW⟩
            · have d5 : (num (L.drop 124) != ((crcV (L.take 124) : Nat) : Int)) = true := by simpa using c5
              have hg := getS_sum HM.out HK.out HN.out k1 k2 c3 HE.out (fun h => c5 (HSUM.out.1 h))
              have HG := Lib.hid hg
              clear c5 hg
              go_wp2
              go_region_held3 (fun _ => True) (trivial) (first | (go_at_call 195; refine (get_any _ 4 _ (L.drop 124) _ HL4.out (by omega) (fun h => by cases h) (by first | exact HD.out | exact Sl.below HD.out (by repeat (first | assumption | exact Below.refl _ _ | refine bel_alloc ?_ _ | refine bel_drewN ?_ _ | refine bel_drew ?_ | refine bel_set ?_ (by first | (simp; done) | omega | (simp; omega)) _ | refine bel_trans ?_ (by assumption)))) (hB.drop 124) (by omega)).mono ?_; rintro e wf ⟨rfl, hbf⟩) | (go_at_call 197; refine (of_any _ _ (some ⟨b, off, none⟩) 124 c (L.take 124) _ (by first | (simp; done) | exact keep_below hbf _ _ (by simp)) HL124.out (by omega) (by exact Sl.below HQ.out (by repeat (first | assumption | exact Below.refl _ _ | refine bel_alloc ?_ _ | refine bel_drewN ?_ _ | refine bel_drew ?_ | refine bel_set ?_ (by first | (simp; done) | omega | (simp; omega)) _ | refine bel_trans ?_ (by assumption)))) (hB.take 124)).mono ?_; rintro e wf ⟨rfl, hbf⟩))
              all_goals
                go_wp2
                go_ret3
                rw [HG.out]
                exact GetRes.nil ⟨rfl, (by repeat (first | assumption | exact Below.refl _ _ | refine bel_alloc ?_ _ | refine bel_drewN ?_ _ | refine bel_drew ?_ | refine bel_set ?_ (by first | (simp; done) | omega | (simp; omega)) _ | refine bel_trans ?_ (by assumption)))⟩
      · have hg := getS_bad HM.out HK.out HN.out (.inr (.inl (by omega)))
        have HG := Lib.hid hg
        have c3' : 120 < n := by omega
        clear hg c3
        go_wp2
        go_ret3
        rw [HG.out]
        exact GetRes.nil ⟨rfl, hb1⟩
    · have hg := getS_bad HM.out HK.out HN.out (.inl c2)
      have HG := Lib.hid hg
      have c2' : k < 1 ∨ (1 ≤ k ∧ 6 < k) := by omega
      have HC2 := Lib.hid c2'
      clear hg c2 c2'
      go_wp2_with (go_at_call 196; refine (kind_no k _ HC2.out).mono ?_; rintro e w' ⟨rfl, rfl⟩)
      go_ret3
      rw [HG.out]
      exact GetRes.nil ⟨rfl, hb1⟩
  · have hg : getS L = (0, [], 21) := by
      by_cases c2 : (1 ≤ k ∧ k ≤ 6) ∧ n ≤ 120
      · exact getS_bad HM.out HK.out HN.out (.inr (.inr (fun h => c1 ((head_eq HM.out hB HK.out HN.out c2.2 (by omega)).1 h).1)))
      · exact getS_bad HM.out HK.out HN.out (by omega)
    have HG := Lib.hid hg
    clear hg
    have d1 : (num (L.take 2) != 19613) = true := by simpa using c1
    clear c1 HNUM
    generalize num (L.take 2) = q at *
    go_wp2
    go_ret3
    rw [HG.out]
    exact GetRes.nil ⟨rfl, hb1⟩
end Go.Proofs.Ytdjhocgfdbnkmaa.Page
